/- Walks: BitsJoins. -/
import Derived.Test.YtemhoaleeefhhaaProg
import Derived.Test.YtemhoaleeefhhaaPi
import Derived.Test.YtemhoaleeefhhaaNe
import Derived.Test.YtemhoaleeefhhaaBt
namespace Go.Proofs.Ytemhoaleeefhhaa
open Go.RowKit
set_option linter.unusedVariables false

set_option maxRecDepth 20000 in
theorem BitsJoins_any (z z2 : SetZ) (w : World) (hz : SeeSet w z) (hz2 : SeeSet w z2) :
    Calls Try.prog 3 #[setW z, setW z2] w fun e w' => e = .returned (.bool true) ∧ Below w.heap.size w w' := by
  obtain ⟨N, A, n, c, l⟩ := z
  obtain ⟨M, B, m, d, k⟩ := z2
  obtain ⟨h1, h2, _, _⟩ := hz
  obtain ⟨h3, h4, _, _⟩ := hz2
  simp only at h1 h2 h3 h4
  show Calls Try.prog 3 #[setv N A n c, setv M B m d] w _
  have hbw := (Below.refl w.heap.size w).alloc (Nat.le_refl _) (.cells #[.int .i64 N, .slice A n c] 24)
  have hbx := hbw.alloc hbw.size (.cells #[.int .i64 M, .slice B m d] 24)
  have HB := Lib.hid hbx
  have HS := Lib.hid (h1.below hbx (Nat.le_refl _))
  have HS2 := Lib.hid (h3.below hbx (Nat.le_refl _))
  have HW := Lib.hid (And.intro h2 h4)
  have x0 : ((w.alloc (.cells #[.int .i64 N, .slice A n c] 24)).alloc (.cells #[.int .i64 M, .slice B m d] 24)).cell? ⟨w.heap.size, 0, none⟩ = some (.int .i64 N) := ((SetB.new w N A n c).alloc _).c0
  have x1 : ((w.alloc (.cells #[.int .i64 N, .slice A n c] 24)).alloc (.cells #[.int .i64 M, .slice B m d] 24)).cell? ⟨w.heap.size, 1, none⟩ = some (.slice A n c) := ((SetB.new w N A n c).alloc _).c1
  clear hbw hbx h1 h2 h3 h4
  go_enter Try.func3, Try.ntmps3
  go_wp2_with (first
    | (go_at_call 13; refine (awake_any _).mono ?_; rintro e w2 ⟨rfl, k2⟩; have B2 := Lib.hid (below_step B1.out k2))
    | (go_at_call 12; refine (joins_any N M A B n c m d l k _ HS.out HW.out.1 HS2.out HW.out.2).mono ?_; rintro e w1 ⟨rfl, k1⟩; have B1 := Lib.hid (below_step HB.out k1)))
  go_ret
  exact ⟨rfl, B2.out⟩
end Go.Proofs.Ytemhoaleeefhhaa
