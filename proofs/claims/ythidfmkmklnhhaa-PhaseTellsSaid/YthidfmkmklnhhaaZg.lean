/- Walks: PhaseTells. -/
import Derived.Test.YthidfmkmklnhhaaProg
import Derived.Test.YthidfmkmklnhhaaZf
namespace Go.Proofs.Ythidfmkmklnhhaa
open Go.RowKit
set_option linter.unusedVariables false

set_option maxRecDepth 20000 in
set_option maxHeartbeats 1600000 in
theorem PhaseTells_any (A : Option Addr) (n m : Nat) (l : List Int) (c : Nat → Int) (id : Int) (w : World) (hs : Sees w 1 A n m (l.map (Value.int .i64))) :
    Calls Try.prog 8 #[.slice A n m, iv4 c, .int .i64 id] w fun e w' => e = .returned (.bool true) ∧ Below w.heap.size w w' := by
  obtain ⟨W, hW⟩ : ∃ W, w.alloc (.cells (ic4 c) 40) = W := ⟨_, rfl⟩
  have HA : Hid (Arr 40 W w.heap.size (ic4 c) ∧ Below w.heap.size w W) := Lib.hid ⟨by rw [← hW]; exact Arr.new _ _ _, by rw [← hW]; exact below_al (Below.refl _ _) _⟩
  have HS := Lib.hid (hs.below HA.out.2 (Nat.le_refl _))
  have HW := Lib.hid hW
  have hcm : (n : Int) ≤ 9223372036854775807 := by have := Nat.le_trans hs.cap hs.capm; unfold maxLen at this; omega
  clear hW hs
  by_cases h : 400 < n
  · have d : decide ((400 : Int) < (n : Int)) = true := by simp; omega
    have d' : decide (400 < n) = true := by simp; omega
    clear h
    go_enter Try.func8, Try.ntmps8
    go_upto_region 1 with fail
    rw [HW.out]
    clear HW
    go_wp2_with (go_at_call 13; refine (awake_any _).mono ?_; rintro e w0 ⟨rfl, k0⟩; have B := Lib.hid (below_step HA.out.2 k0); clear k0)
    go_ret
    exact ⟨rfl, B.out⟩
  · have d : decide ((400 : Int) < (n : Int)) = false := by simp; omega
    have d' : decide (400 < n) = false := by simp; omega
    have HN := Lib.hid (Nat.not_lt.1 h)
    clear h
    go_enter Try.func8, Try.ntmps8
    go_upto_region 1 with fail
    rw [HW.out]
    clear HW
    obtain ⟨⟨a0, a1, a2, a3⟩, -⟩ := HA.out.1.four
    go_wp2_with (first
      | (go_at_call 13; have _q := K1; refine (awake_any _).mono ?_; rintro e w0 ⟨rfl, k0⟩; have B := Lib.hid (below_step K1.out k0); clear k0)
      | (go_at_call 26; refine (tells_any A n m l c id _ HS.out HN.out).mono ?_; rintro e w1 ⟨rfl, k1⟩; have K1 := Lib.hid (below_step HA.out.2 k1); clear k1))
    go_ret
    exact ⟨rfl, B.out⟩
end Go.Proofs.Ythidfmkmklnhhaa
