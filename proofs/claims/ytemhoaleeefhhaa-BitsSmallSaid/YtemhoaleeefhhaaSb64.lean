/- Walks: SameNums. -/
import Derived.Test.YtemhoaleeefhhaaProg
import Derived.Test.YtemhoaleeefhhaaQ
namespace Go.Proofs.Ytemhoaleeefhhaa
open Go.RowKit
set_option linter.unusedVariables false

set_option maxHeartbeats 400000 in
theorem SameNums_any (A1 A2 : Option Addr) (n1 n2 c1 c2 : Nat) (l1 l2 : List Int) (w : World) (h1 : Sees w 1 A1 n1 c1 (l1.map (Value.int .u64))) (h2 : Sees w 1 A2 n2 c2 (l2.map (Value.int .u64))) :
    Calls Try.prog 25 #[.slice A1 n1 c1, .slice A2 n2 c2] w fun e w' => e = .returned (.bool (eqL l1 l2)) ∧ Below w.heap.size w w' := by
  have e1 := h1.length
  have e2 := h2.length
  by_cases hn : n1 = n2
  · subst hn
    have hm : n1 ≤ 9223372036854775807 := Nat.le_trans h1.cap h1.capm
    have E1 := Lib.hid e1
    have E2 := Lib.hid e2
    clear e1 e2
    go_enter Try.func25, Try.ntmps25
    go_wp2
    go_loopw [5] (fun i wr => ∃ k : Nat, k ≤ n1 ∧ i = .int .i64 k ∧ Below w.heap.size w wr ∧ Hid (l1.take k = l2.take k)) (fun i _ => n1 - (intOf i).toNat)
    case atStart => exact ⟨0, by omega, rfl, Below.refl _ _, rfl⟩
    case round =>
      obtain ⟨k, hk, rfl, hb, HT⟩ := hrel
      by_cases hlt : k < n1
      · obtain ⟨b1, o1, rfl, g1⟩ := (h1.below hb (Nat.le_refl _)).int hlt
        obtain ⟨b2, o2, rfl, g2⟩ := (h2.below hb (Nat.le_refl _)).int hlt
        generalize hx : l1.getD k 0 = x at g1
        generalize hy : l2.getD k 0 = y at g2
        have HX := Lib.hid hx
        have HY := Lib.hid hy
        clear hx hy
        by_cases hxy : x = y
        · subst hxy
          go_wp2_with fail
          go_quiet (fail)
          go_wp2
          go_roundw
          case rel => exact ⟨k + 1, by omega, by go_num, below_drewN hb _, takes_on (by rw [E1.out]; exact hlt) (by rw [E2.out]; exact hlt) HT.out (HX.out.trans HY.out.symm)⟩
          case measure => simp [intOf]; omega
        · have hxy' : (x != y) = true := by simpa using hxy
          have hfin : eqL l1 l2 = false := eqL_ne fun e => hxy (by rw [← HX.out, ← HY.out, e])
          have HF := Lib.hid hfin
          clear hfin
          go_wp2_with fail
          go_quiet (fail)
          go_wp2
          go_ret
          exact ⟨ret_bool HF.out.symm, below_drewN hb _⟩
      · have hfin : eqL l1 l2 = true := eqL_of (by
          have := HT.out
          rwa [List.take_of_length_le (by have := E1.out; omega), List.take_of_length_le (by have := E2.out; omega)] at this)
        have HF := Lib.hid hfin
        clear hfin
        go_wp2
        go_ret
        exact ⟨ret_bool HF.out.symm, hb⟩
  · have hne : ((n1 : Int) != (n2 : Int)) = true := by simp; omega
    have hfin : eqL l1 l2 = false := eqL_len (by omega)
    have HF := Lib.hid hfin
    clear hfin e1 e2
    go_enter Try.func25, Try.ntmps25
    go_wp2
    go_ret
    exact ⟨ret_bool HF.out.symm, Below.refl _ _⟩
end Go.Proofs.Ytemhoaleeefhhaa
