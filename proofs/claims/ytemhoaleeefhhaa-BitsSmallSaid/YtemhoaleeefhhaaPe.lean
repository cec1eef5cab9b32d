/- What Join of the reference is: plain laws. -/
import Derived.Test.YtemhoaleeefhhaaProg
import Derived.Test.YtemhoaleeefhhaaPd
import Derived.Test.YtemhoaleeefhhaaPa
namespace Go.Proofs.Ytemhoaleeefhhaa
open Go.RowKit
set_option linter.unusedVariables false

theorem joinW_w (z o t h : Bool) (a b : List Int) (N : Nat) : W64 (joinW z o t h a b N) := ofW_w _ _
theorem joinW_right {N : Nat} (hN : N ≤ 65536) (z o t h : Bool) (a b : List Int) : RightW (N : Int) (joinW z o t h a b N) := ofW_right hN (joinL_ok z o t h a b N)
theorem right_le {N : Nat} {a : List Int} (h : RightW (N : Int) a) : N ≤ 65536 := by have := h.2.1; omega
theorem join_or {N : Nat} {a b : List Int} (ha : W64 a) (hb : W64 b) (ra : RightW (N : Int) a) (rb : RightW (N : Int) b) : joinW false true true true a b N = zipB fOr a b := by
  refine right_ext (joinW_w _ _ _ _ _ _ _) (or_w ha hb) (joinW_right (right_le ra) _ _ _ _ _ _) (or_right ha hb ra rb) fun i => ?_
  rw [joinW_bt, or_bt (right_len ra rb)]
  by_cases hi : i < N
  · rw [decide_eq_true hi]; cases bt a i <;> cases bt b i <;> rfl
  · rw [decide_eq_false hi, ra.bits ha i (by omega), rb.bits hb i (by omega)]; rfl
theorem join_and {N : Nat} {a b : List Int} (ha : W64 a) (hb : W64 b) (ra : RightW (N : Int) a) (rb : RightW (N : Int) b) : joinW false false false true a b N = zipB fAnd a b := by
  refine right_ext (joinW_w _ _ _ _ _ _ _) (and_w ha hb) (joinW_right (right_le ra) _ _ _ _ _ _) (and_right ha hb ra rb) fun i => ?_
  rw [joinW_bt, and_bt (right_len ra rb)]
  by_cases hi : i < N
  · rw [decide_eq_true hi]; cases bt a i <;> cases bt b i <;> rfl
  · rw [decide_eq_false hi, ra.bits ha i (by omega)]; rfl
theorem join_min {N : Nat} {a b : List Int} (ha : W64 a) (hb : W64 b) (ra : RightW (N : Int) a) (rb : RightW (N : Int) b) : joinW false true false false a b N = zipB fMin a b := by
  refine right_ext (joinW_w _ _ _ _ _ _ _) (min_w ha hb) (joinW_right (right_le ra) _ _ _ _ _ _) (min_right ha hb ra rb) fun i => ?_
  rw [joinW_bt, min_bt (right_len ra rb)]
  by_cases hi : i < N
  · rw [decide_eq_true hi]; cases bt a i <;> cases bt b i <;> rfl
  · rw [decide_eq_false hi, ra.bits ha i (by omega)]; rfl
theorem join_not {N : Nat} {a : List Int} (ha : W64 a) (ra : RightW (N : Int) a) : joinW true false false false a [] N = notW N a := by
  refine right_ext (joinW_w _ _ _ _ _ _ _) (notW_w N ha) (joinW_right (right_le ra) _ _ _ _ _ _) (notW_right ha ra) fun i => ?_
  rw [joinW_bt, notW_bt ra.2.2.1, show bt [] i = false from bt_big (Nat.zero_le _)]
  cases decide (i < N) <;> cases bt a i <;> rfl
/-- The set of one number. -/
theorem one_bt {N i : Nat} (h : i < N) (j : Nat) : bt (ofW N [(i : Int)]) j = decide (j = i) := by
  rw [ofW_bt (fun x hx => by rw [List.mem_singleton.1 hx]; omega), Bool.eq_iff_iff, decide_eq_true_iff, decide_eq_true_iff, List.mem_singleton]
  omega
theorem join_with {N i : Nat} {a : List Int} (hi : i < N) (ha : W64 a) (ra : RightW (N : Int) a) : joinW false true true true a (ofW N [(i : Int)]) N = inB a i := by
  have hl : i < 64 * a.length := by have := ra.2.2.1; omega
  refine bt_ext (joinW_w _ _ _ _ _ _ _) (inB_w ha i) (by rw [inB_len]; exact right_len (joinW_right (right_le ra) _ _ _ _ _ _) ra) fun j _ => ?_
  rw [joinW_bt, inB_bt hl, one_bt hi]
  by_cases hj : j < N
  · rw [decide_eq_true hj]; cases bt a j <;> cases decide (j = i) <;> rfl
  · rw [decide_eq_false hj, ra.bits ha j (by omega), decide_eq_false (by omega : ¬ j = i)]; rfl
theorem join_less {N i : Nat} {a : List Int} (hi : i < N) (ha : W64 a) (ra : RightW (N : Int) a) : joinW false true false false a (ofW N [(i : Int)]) N = offB a i := by
  have hl : i < 64 * a.length := by have := ra.2.2.1; omega
  refine bt_ext (joinW_w _ _ _ _ _ _ _) (offB_w ha i) (by rw [offB_len]; exact right_len (joinW_right (right_le ra) _ _ _ _ _ _) ra) fun j _ => ?_
  rw [joinW_bt, offB_bt hl, one_bt hi]
  by_cases hj : j < N
  · rw [decide_eq_true hj]; cases bt a j <;> cases decide (j = i) <;> rfl
  · rw [decide_eq_false hj, ra.bits ha j (by omega)]; rfl
end Go.Proofs.Ytemhoaleeefhhaa
