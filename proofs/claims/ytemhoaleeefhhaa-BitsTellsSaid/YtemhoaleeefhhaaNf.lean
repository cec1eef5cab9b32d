/- Walks: BitsTells. -/
import Derived.Test.YtemhoaleeefhhaaProg
import Derived.Test.YtemhoaleeefhhaaNd
import Derived.Test.YtemhoaleeefhhaaNe
namespace Go.Proofs.Ytemhoaleeefhhaa
open Go.RowKit
set_option linter.unusedVariables false

set_option maxRecDepth 20000 in
theorem BitsTells_any (z : SetZ) (i : Int) (w : World) (hz : SeeSet w z) (hi : -9223372036854775808 ≤ i ∧ i ≤ 9223372036854775807) :
    Calls Try.prog 4 #[setW z, .int .i64 i] w fun e w' => e = .returned (.bool true) ∧ Below w.heap.size w w' := by
  obtain ⟨N, A, n, c, l⟩ := z
  obtain ⟨h1, h2, _, _⟩ := hz
  simp only at h1 h2
  show Calls Try.prog 4 #[setv N A n c, .int .i64 i] w _
  have hbw := (Below.refl w.heap.size w).alloc (Nat.le_refl _) (.cells #[.int .i64 N, .slice A n c] 24)
  have HB := Lib.hid hbw
  have HS := Lib.hid (h1.below hbw (Nat.le_refl _))
  have HI := Lib.hid hi
  have HW := Lib.hid h2
  clear hbw h1 h2 hi
  go_enter Try.func4, Try.ntmps4
  go_wp2_with (first
    | (go_at_call 13; refine (awake_any _).mono ?_; rintro e w2 ⟨rfl, k2⟩; have B2 := Lib.hid (below_step B1.out k2))
    | (go_at_call 14; refine (tells_any N i A n c l _ HS.out HW.out HI.out).mono ?_; rintro e w1 ⟨rfl, k1⟩; have B1 := Lib.hid (below_step HB.out k1)))
  go_ret
  exact ⟨rfl, B2.out⟩
end Go.Proofs.Ytemhoaleeefhhaa
