/- A number put in and taken out, a list turned about: plain laws; what regions that draw their order hold of boxes. -/
import Derived.Test.YtemhoaleeefhhaaProg
import Derived.Test.YtemhoaleeefhhaaMb
namespace Go.Proofs.Ytemhoaleeefhhaa
open Go.RowKit
set_option linter.unusedVariables false

theorem inB_right {N : Nat} {l : List Int} {a : Nat} (hw : W64 l) (hr : RightW (N : Int) l) (ha : a < N) : RightW (N : Int) (inB l a) :=
  RightW.of_bits (inB_w hw a) (by omega) hr.2.1 (by rw [inB_len]; exact hr.2.2.1) fun i hi _ => by
    rw [inB_bt (by have := hr.2.2.1; omega), hr.bits hw i hi, Bool.false_or, decide_eq_false_iff_not]; omega
theorem offB_right {N : Nat} {l : List Int} {a : Nat} (hw : W64 l) (hr : RightW (N : Int) l) (ha : a < N) : RightW (N : Int) (offB l a) :=
  RightW.of_bits (offB_w hw a) (by omega) hr.2.1 (by rw [offB_len]; exact hr.2.2.1) fun i hi _ => by
    rw [offB_bt (by have := hr.2.2.1; omega), hr.bits hw i hi, Bool.false_and]
theorem off_in {l : List Int} {a : Nat} (hw : W64 l) (ha : a < 64 * l.length) : offB (inB l a) a = offB l a :=
  bt_ext (offB_w (inB_w hw a) a) (offB_w hw a) (by rw [offB_len, offB_len, inB_len]) fun i _ => by
    rw [offB_bt (by rw [inB_len]; exact ha), offB_bt ha, inB_bt ha]
    cases bt l i <;> cases decide (i = a) <;> rfl
theorem in_off {l : List Int} {a : Nat} (hw : W64 l) (ha : a < 64 * l.length) : inB (offB l a) a = inB l a :=
  bt_ext (inB_w (offB_w hw a) a) (inB_w hw a) (by rw [inB_len, inB_len, offB_len]) fun i _ => by
    rw [inB_bt (by rw [offB_len]; exact ha), inB_bt ha, offB_bt ha]
    cases bt l i <;> cases decide (i = a) <;> rfl
theorem in_self {l : List Int} {a : Nat} (hw : W64 l) (ha : a < 64 * l.length) (hb : bt l a = true) : inB l a = l :=
  bt_ext (inB_w hw a) hw (inB_len _ _) fun i _ => by
    rw [inB_bt ha]
    by_cases h : i = a
    · rw [h, hb]; rfl
    · simp [h]
theorem off_self {l : List Int} {a : Nat} (hw : W64 l) (ha : a < 64 * l.length) (hb : bt l a = false) : offB l a = l :=
  bt_ext (offB_w hw a) hw (offB_len _ _) fun i _ => by
    rw [offB_bt ha]
    by_cases h : i = a
    · rw [h, hb]; rfl
    · simp [h]
theorem cnt_in_off {l : List Int} {a : Nat} (ha : a < 64 * l.length) (m : Nat) : cnt (inB l a) m = cnt (offB l a) m + (decide (a < m)).toNat := by
  induction m with
  | zero => rfl
  | succ m ih =>
    rw [cnt_succ, cnt_succ, ih, inB_bt ha, offB_bt ha]
    by_cases h : m = a
    · subst h
      simp
    · have e : decide (a < m + 1) = decide (a < m) := by rw [Bool.eq_iff_iff]; simp; omega
      rw [e]
      simp [h]
      omega
theorem has_in {N : Nat} {l : List Int} {a : Nat} (hw : W64 l) (hr : RightW (N : Int) l) (ha : a < N) : hasF (inB l a) N a = true := by
  rw [hasF_at (inB_right hw hr ha) ha, inB_bt (by have := hr.2.2.1; omega)]; simp
theorem has_off {N : Nat} {l : List Int} {a : Nat} (hw : W64 l) (hr : RightW (N : Int) l) (ha : a < N) : hasF (offB l a) N a = false := by
  rw [hasF_at (offB_right hw hr ha) ha, offB_bt (by have := hr.2.2.1; omega)]; simp
theorem count_is {l : List Int} {N : Nat} {i : Int} (hr : RightW (N : Int) l) (hi : (N : Int) ≤ i) : rankF l N i = cnt l N := by rw [rankF_top hr hi, mem_len]

/-- Two elements change places. -/
def swapL (M : List Int) (i j : Nat) : List Int := (M.set i (M.getD j 0)).set j (M.getD i 0)
theorem swapL_len (M : List Int) (i j : Nat) : (swapL M i j).length = M.length := by unfold swapL; rw [List.length_set, List.length_set]
theorem getD_mem {M : List Int} {i : Nat} (h : i < M.length) : M.getD i 0 ∈ M := by
  rw [List.getD, List.getElem?_eq_getElem h]; exact List.getElem_mem h
theorem swapL_mem {M : List Int} {i j : Nat} (hi : i < M.length) (hj : j < M.length) (x : Int) : x ∈ swapL M i j ↔ x ∈ M := by
  unfold swapL
  constructor
  · intro h
    rcases List.mem_or_eq_of_mem_set h with h | h
    · rcases List.mem_or_eq_of_mem_set h with h | h
      · exact h
      · rw [h]; exact getD_mem hj
    · rw [h]; exact getD_mem hi
  · intro h
    obtain ⟨p, hp⟩ := List.mem_iff_getElem?.1 h
    have hpl := (List.getElem?_eq_some_iff.1 hp).1
    have hg : M.getD p 0 = x := by rw [List.getD, hp]; rfl
    refine List.mem_iff_getElem?.2 ?_
    by_cases hpi : p = i
    · refine ⟨j, ?_⟩
      rw [List.getElem?_set, if_pos rfl, if_pos (by rw [List.length_set]; exact hj), ← hpi, hg]
    · by_cases hpj : p = j
      · refine ⟨i, ?_⟩
        rw [List.getElem?_set, if_neg (by omega), List.getElem?_set, if_pos rfl, if_pos hi, ← hpj, hg]
      · refine ⟨p, ?_⟩
        rw [List.getElem?_set, if_neg (by omega), List.getElem?_set, if_neg (by omega), hp]
/-- The numbers of a set, in any order and however often, make it again. -/
theorem of_again {N : Nat} {l M : List Int} (hw : W64 l) (hr : RightW (N : Int) l) (h : ∀ x, x ∈ M ↔ x ∈ castN (mem l N)) : okAll N (M ++ M) ∧ ofW N (M ++ M) = l := by
  have hm : ∀ x, x ∈ castN (mem l N) ↔ ∃ i : Nat, x = (i : Int) ∧ i < N ∧ bt l i = true := by
    intro x
    rw [List.mem_map]
    constructor
    · rintro ⟨i, hi, rfl⟩
      have := mem_iff.1 hi
      exact ⟨i, rfl, this.2.1, this.2.2⟩
    · rintro ⟨i, rfl, h1, h2⟩
      exact ⟨i, mem_iff.2 ⟨Nat.zero_le _, h1, h2⟩, rfl⟩
  have hx : ∀ x, x ∈ M ++ M ↔ ∃ i : Nat, x = (i : Int) ∧ i < N ∧ bt l i = true := by
    intro x
    rw [List.mem_append, or_self, h, hm]
  have hok : okAll N (M ++ M) := by
    intro x hxm
    obtain ⟨i, rfl, h1, _⟩ := (hx x).1 hxm
    omega
  refine ⟨hok, bt_ext (ofW_w _ _) hw (by rw [ofW_len]; have := hr.2.2.1; omega) fun i hi => ?_⟩
  rw [ofW_bt hok]
  by_cases hN : i < N
  · cases hb : bt l i with
    | true => rw [decide_eq_true_iff, hx]; exact ⟨i, rfl, hN, hb⟩
    | false =>
      rw [decide_eq_false_iff_not, hx]
      rintro ⟨j, hj, _, h2⟩
      have : i = j := by omega
      rw [← this, hb] at h2; cases h2
  · rw [hr.bits hw i (by omega), decide_eq_false_iff_not, hx]
    rintro ⟨j, hj, h1, _⟩
    omega

/-- The two cells of a set in its box. -/
abbrev C2 (b : Nat) (N : Int) (A : Option Addr) (n c : Nat) (w : World) : Prop := w.cell? ⟨b, 0, none⟩ = some (.int .i64 N) ∧ w.cell? ⟨b, 1, none⟩ = some (.slice A n c)
theorem C2.of {b : Nat} {N : Int} {A : Option Addr} {n c : Nat} {w : World} (h : SetB w b N A n c) : C2 b N A n c w := ⟨h.c0, h.c1⟩
theorem C2.keep {b : Nat} {N : Int} {A : Option Addr} {n c : Nat} {w w' : World} (h : C2 b N A n c w) (k : Below w.heap.size w w') : C2 b N A n c w' := ⟨below_cellA k h.1, below_cellA k h.2⟩
theorem C2.drew {b : Nat} {N : Int} {A : Option Addr} {n c : Nat} {w : World} (h : C2 b N A n c w) : C2 b N A n c w.drew := h
end Go.Proofs.Ytemhoaleeefhhaa
