/- The algebra of sets: plain laws. -/
import Derived.Test.YtemhoaleeefhhaaProg
import Derived.Test.YtemhoaleeefhhaaOa
namespace Go.Proofs.Ytemhoaleeefhhaa
open Go.RowKit
set_option linter.unusedVariables false

/-- Right words of one N are as long as each other. -/
theorem right_len {N : Int} {a b : List Int} (ha : RightW N a) (hb : RightW N b) : a.length = b.length := by have := ha.2.2.1; have := hb.2.2.1; omega
theorem right_ext {N : Int} {a b : List Int} (ha : W64 a) (hb : W64 b) (ra : RightW N a) (rb : RightW N b) (h : ∀ i, bt a i = bt b i) : a = b := bt_ext ha hb (right_len ra rb) fun i _ => h i
theorem or_right {N : Int} {a b : List Int} (ha : W64 a) (hb : W64 b) (ra : RightW N a) (rb : RightW N b) : RightW N (zipB fOr a b) :=
  RightW.of_bits (or_w ha hb) ra.1 ra.2.1 (by rw [zipB_len (right_len ra rb)]; exact ra.2.2.1) fun i hi _ => by rw [or_bt (right_len ra rb), ra.bits ha i hi, rb.bits hb i hi]; rfl
theorem and_right {N : Int} {a b : List Int} (ha : W64 a) (hb : W64 b) (ra : RightW N a) (rb : RightW N b) : RightW N (zipB fAnd a b) :=
  RightW.of_bits (and_w ha hb) ra.1 ra.2.1 (by rw [zipB_len (right_len ra rb)]; exact ra.2.2.1) fun i hi _ => by rw [and_bt (right_len ra rb), ra.bits ha i hi]; rfl
theorem min_right {N : Int} {a b : List Int} (ha : W64 a) (hb : W64 b) (ra : RightW N a) (rb : RightW N b) : RightW N (zipB fMin a b) :=
  RightW.of_bits (min_w ha hb) ra.1 ra.2.1 (by rw [zipB_len (right_len ra rb)]; exact ra.2.2.1) fun i hi _ => by rw [min_bt (right_len ra rb), ra.bits ha i hi]; rfl
/-- The complement of Or is And of the complements. -/
theorem not_or {N : Nat} {a b : List Int} (ha : W64 a) (hb : W64 b) (ra : RightW (N : Int) a) (rb : RightW (N : Int) b) : notW N (zipB fOr a b) = zipB fAnd (notW N a) (notW N b) := by
  have no := or_w ha hb
  have ro := or_right ha hb ra rb
  have na := notW_w N ha
  have nb := notW_w N hb
  have rna := notW_right ha ra
  have rnb := notW_right hb rb
  refine right_ext (notW_w N no) (and_w na nb) (notW_right no ro) (and_right na nb rna rnb) fun i => ?_
  rw [notW_bt ro.2.2.1, or_bt (right_len ra rb), and_bt (right_len rna rnb), notW_bt ra.2.2.1, notW_bt rb.2.2.1]
  cases decide (i < N) <;> cases bt a i <;> cases bt b i <;> rfl
theorem and_not {N : Nat} {a b : List Int} (ha : W64 a) (hb : W64 b) (ra : RightW (N : Int) a) (rb : RightW (N : Int) b) : zipB fAnd a (notW N b) = zipB fMin a b := by
  have nb := notW_w N hb
  have rnb := notW_right hb rb
  refine right_ext (and_w ha nb) (min_w ha hb) (and_right ha nb ra rnb) (min_right ha hb ra rb) fun i => ?_
  rw [and_bt (right_len ra rnb), notW_bt rb.2.2.1, min_bt (right_len ra rb)]
  by_cases hi : i < N
  · rw [decide_eq_true hi, Bool.true_and]
  · rw [ra.bits ha i (by omega)]; rfl
theorem not_not {N : Nat} {a : List Int} (ha : W64 a) (ra : RightW (N : Int) a) : notW N (notW N a) = a := by
  have na := notW_w N ha
  have rna := notW_right ha ra
  refine right_ext (notW_w N na) ha (notW_right na rna) ra fun i => ?_
  rw [notW_bt rna.2.2.1, notW_bt ra.2.2.1]
  by_cases hi : i < N
  · rw [decide_eq_true hi]; cases bt a i <;> rfl
  · rw [ra.bits ha i (by omega), decide_eq_false hi]; rfl
theorem cnt_or_and {a b : List Int} (h : a.length = b.length) (N : Nat) : cnt (zipB fOr a b) N + cnt (zipB fAnd a b) N = cnt a N + cnt b N := by
  induction N with
  | zero => rfl
  | succ N ih =>
    rw [cnt_succ, cnt_succ, cnt_succ, cnt_succ, or_bt h, and_bt h]
    cases bt a N <;> cases bt b N <;> simp <;> omega
theorem cnt_min {a b : List Int} (h : a.length = b.length) (N : Nat) : cnt (zipB fMin a b) N + cnt (zipB fAnd a b) N = cnt a N := by
  induction N with
  | zero => rfl
  | succ N ih =>
    rw [cnt_succ, cnt_succ, cnt_succ, min_bt h, and_bt h]
    cases bt a N <;> cases bt b N <;> simp <;> omega
end Go.Proofs.Ytemhoaleeefhhaa
