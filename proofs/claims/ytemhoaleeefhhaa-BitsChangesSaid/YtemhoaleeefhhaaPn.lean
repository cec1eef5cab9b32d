/- Walks: BitsChanges. -/
import Derived.Test.YtemhoaleeefhhaaProg
import Derived.Test.YtemhoaleeefhhaaPm
import Derived.Test.YtemhoaleeefhhaaNe
import Derived.Test.YtemhoaleeefhhaaBt
namespace Go.Proofs.Ytemhoaleeefhhaa
open Go.RowKit
set_option linter.unusedVariables false

set_option maxRecDepth 20000 in
theorem BitsChanges_any (z : SetZ) (i n : Int) (AL : Option Addr) (nL cL : Nat) (L : List Int) (w : World) (hz : SeeSet w z) (hL : Sees w 1 AL nL cL (L.map (Value.int .i64))) :
    Calls Try.prog 8 #[setW z, .int .i64 i, .int .i64 n, .slice AL nL cL] w fun e w' => e = .returned (.bool true) ∧ Below w.heap.size w w' := by
  obtain ⟨N, A, k, c, l⟩ := z
  obtain ⟨h1, h2, _, _⟩ := hz
  simp only at h1 h2
  show Calls Try.prog 8 #[setv N A k c, .int .i64 i, .int .i64 n, .slice AL nL cL] w _
  have hbw := (Below.refl w.heap.size w).alloc (Nat.le_refl _) (.cells #[.int .i64 N, .slice A k c] 24)
  have HB := Lib.hid hbw
  have HS := Lib.hid (h1.below hbw (Nat.le_refl _))
  have HSL := Lib.hid (hL.below hbw (Nat.le_refl _))
  have HW := Lib.hid h2
  clear hbw h1 h2 hL
  go_enter Try.func8, Try.ntmps8
  go_wp2_with (first
    | (go_at_call 13; refine (awake_any _).mono ?_; rintro e w2 ⟨rfl, k2⟩; have B2 := Lib.hid (below_step B1.out k2))
    | (go_at_call 30; refine (changes_any N i n A AL k c nL cL l L _ HS.out HW.out HSL.out).mono ?_; rintro e w1 ⟨rfl, k1⟩; have B1 := Lib.hid (below_step HB.out k1)))
  go_ret
  exact ⟨rfl, B2.out⟩
end Go.Proofs.Ytemhoaleeefhhaa
