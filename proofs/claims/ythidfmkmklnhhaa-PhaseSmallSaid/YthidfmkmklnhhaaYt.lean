/- Plain laws of PhaseRhythm. -/
import Derived.Test.YthidfmkmklnhhaaProg
import Derived.Test.YthidfmkmklnhhaaYs
namespace Go.Proofs.Ythidfmkmklnhhaa
open Go.RowKit
set_option linter.unusedVariables false

theorem cn_step (l : List Int) (id : Int) (n m r : Nat) (hm : m < n) : cs (idr l id n n) (m + 1) r = cs (idr l id n n) m r + if m % 4 = r then (if l.getD m 0 = id then 1 else 0) else 0 := by
  have hv : (idr l id n n).getD m 0 = if l.getD m 0 = id then 1 else 0 := by
    rw [idr_get l id n n m hm]
    by_cases h : l.getD m 0 = id
    · rw [if_pos ⟨hm, h⟩, if_pos h]
    · rw [if_neg (fun hh => h hh.2), if_neg h]
  show cs (idr l id n n) m r + (if m % 4 = r then (idr l id n n).getD m 0 else 0) = _
  rw [hv]
theorem cn_out (l : List Int) (id : Int) (n m r : Nat) (hm : n ≤ m) : cs (idr l id n n) (m + 1) r = cs (idr l id n n) m r := by
  show cs (idr l id n n) m r + (if m % 4 = r then (idr l id n n).getD m 0 else 0) = _
  rw [List.getD_eq_getElem?_getD, List.getElem?_eq_none (by rw [idr_len]; exact hm)]
  simp
/-- How many classes have the number, as 'Rhythm' has it. -/
def RhI (o : Option Int) (c : Nat → Int) : Prop :=
  (∀ r < 4, 0 ≤ c r) ∧ ((o = none ∧ ∃ r s, r < 4 ∧ s < 4 ∧ r ≠ s ∧ 0 < c r ∧ 0 < c s) ∨ (o = some (-1) ∧ ∀ r < 4, c r = 0) ∨ (∃ k : Nat, k < 4 ∧ o = some (k : Int) ∧ 0 < c k ∧ ∀ r < 4, r ≠ k → c r = 0))
theorem rhC_id {l : List Int} {id c : Int} {m : Nat} (h : l.getD m 0 = id) (ho : rhC l id m = some c) : rhC l id (m + 1) = if 0 ≤ c ∧ c ≠ ((m % 4 : Nat) : Int) then none else some ((m % 4 : Nat) : Int) := by
  show (match rhC l id m with | none => none | some c => _) = _
  rw [ho]
  simp only [h, if_true]
theorem rhC_nn {l : List Int} {id : Int} {m : Nat} (ho : rhC l id m = none) : rhC l id (m + 1) = none := by
  show (match rhC l id m with | none => none | some c => _) = _
  rw [ho]
theorem rh_inv (l : List Int) (id : Int) (n : Nat) : ∀ m, m ≤ n → RhI (rhC l id m) (cs (idr l id n n) m) := by
  intro m
  induction m with
  | zero => intro _; exact ⟨fun r _ => Int.le_refl _, .inr (.inl ⟨rfl, fun r _ => rfl⟩)⟩
  | succ m ih =>
    intro hm
    obtain ⟨h0, hc⟩ := ih (by omega)
    have hs := fun r => cn_step l id n m r (by omega)
    have hq : m % 4 < 4 := Nat.mod_lt _ (by decide)
    generalize cs (idr l id n n) (m + 1) = c' at hs ⊢
    generalize cs (idr l id n n) m = c at hs h0 hc
    by_cases he : l.getD m 0 = id
    · simp only [he, if_true] at hs
      have hid := fun c ho => rhC_id (c := c) he ho
      obtain ⟨q, hqd⟩ : ∃ q, m % 4 = q := ⟨_, rfl⟩
      simp only [hqd] at hs hq hid
      have hge : ∀ r, c r ≤ c' r := fun r => by rw [hs r]; split <;> omega
      have hcq : c' q = c q + 1 := by rw [hs q, if_pos rfl]
      have hcn : ∀ r, q ≠ r → c' r = c r := fun r h => by rw [hs r, if_neg h]; omega
      refine ⟨fun r hr => Int.le_trans (h0 r hr) (hge r), ?_⟩
      have hq0 := h0 q hq
      rcases hc with ⟨ho, r, s, hr, hs', hrs, h1, h2⟩ | ⟨ho, hz⟩ | ⟨k, hk, ho, hk0, hz⟩
      · exact .inl ⟨rhC_nn ho, r, s, hr, hs', hrs, Int.lt_of_lt_of_le h1 (hge r), Int.lt_of_lt_of_le h2 (hge s)⟩
      · refine .inr (.inr ⟨q, hq, ?_, by omega, fun r hr hrq => by rw [hcn r (fun h => hrq h.symm)]; exact hz r hr⟩)
        rw [hid _ ho, if_neg (fun h => by have := h.1; omega)]
      · by_cases hkq : k = q
        · subst hkq
          refine .inr (.inr ⟨k, hk, ?_, by omega, fun r hr hrq => by rw [hcn r (fun h => hrq h.symm)]; exact hz r hr hrq⟩)
          rw [hid _ ho, if_neg (fun h => h.2 rfl)]
        · refine .inl ⟨?_, k, q, hk, hq, hkq, Int.lt_of_lt_of_le hk0 (hge k), by omega⟩
          rw [hid _ ho, if_pos ⟨by omega, by omega⟩]
    · simp only [he, if_false] at hs
      have hcc : ∀ r, c' r = c r := fun r => by rw [hs r]; split <;> omega
      have hr0 : rhC l id (m + 1) = rhC l id m := by
        show (match rhC l id m with | none => none | some c => _) = _
        cases rhC l id m with
        | none => rfl
        | some c => simp only [he, if_false]
      rw [hr0]
      refine ⟨fun r hr => by rw [hcc]; exact h0 r hr, ?_⟩
      rcases hc with ⟨ho, r, s, hr, hs', hrs, h1, h2⟩ | ⟨ho, hz⟩ | ⟨k, hk, ho, hk0, hz⟩
      · exact .inl ⟨ho, r, s, hr, hs', hrs, by rw [hcc]; exact h1, by rw [hcc]; exact h2⟩
      · exact .inr (.inl ⟨ho, fun r hr => by rw [hcc]; exact hz r hr⟩)
      · exact .inr (.inr ⟨k, hk, ho, by rw [hcc]; exact hk0, fun r hr h => by rw [hcc]; exact hz r hr h⟩)
/-- The norms of counts: with one class alone they are all its square; with none 0; with two they are not all the same. -/
theorem nrm_one (c : Nat → Int) (k : Nat) (hk : k < 4) (h : ∀ r < 4, r ≠ k → c r = 0) : ∀ j < 4, nrm c j = c k * c k := by
  have h0 := h 0 (by decide)
  have h1 := h 1 (by decide)
  have h2 := h 2 (by decide)
  have h3 := h 3 (by decide)
  rcases (show k = 0 ∨ k = 1 ∨ k = 2 ∨ k = 3 by omega) with rfl | rfl | rfl | rfl
  · have a := h1 (by decide); have b := h2 (by decide); have d := h3 (by decide)
    refine all4 ?_ ?_ ?_ ?_ <;> simp [nrm, dR, dI, tRe, tIm, uRe, uIm, a, b, d, Int.neg_mul_neg]
  · have a := h0 (by decide); have b := h2 (by decide); have d := h3 (by decide)
    refine all4 ?_ ?_ ?_ ?_ <;> simp [nrm, dR, dI, tRe, tIm, uRe, uIm, a, b, d, Int.neg_mul_neg]
  · have a := h0 (by decide); have b := h1 (by decide); have d := h3 (by decide)
    refine all4 ?_ ?_ ?_ ?_ <;> simp [nrm, dR, dI, tRe, tIm, uRe, uIm, a, b, d, Int.neg_mul_neg]
  · have a := h0 (by decide); have b := h1 (by decide); have d := h2 (by decide)
    refine all4 ?_ ?_ ?_ ?_ <;> simp [nrm, dR, dI, tRe, tIm, uRe, uIm, a, b, d, Int.neg_mul_neg]
theorem nrm_two (c : Nat → Int) (h0 : ∀ r < 4, 0 ≤ c r) {r s : Nat} (hr : r < 4) (hs : s < 4) (hrs : r ≠ s) (h1 : 0 < c r) (h2 : 0 < c s) : ¬ (nrm c 0 = nrm c 1 ∧ nrm c 0 = nrm c 2) := by
  rintro ⟨e1, e2⟩
  have z0 := h0 0 (by decide)
  have z1 := h0 1 (by decide)
  have z2 := h0 2 (by decide)
  have z3 := h0 3 (by decide)
  have n0 : nrm c 0 = (c 0 + c 1 + c 2 + c 3) * (c 0 + c 1 + c 2 + c 3) := by simp [nrm, dR, dI, tRe, tIm, uRe, uIm]
  have n1 : nrm c 1 = (c 0 - c 2) * (c 0 - c 2) + (c 1 - c 3) * (c 1 - c 3) := by simp [nrm, dR, dI, tRe, tIm, uRe, uIm, Int.sub_eq_add_neg]
  have n2 : nrm c 2 = (c 0 - c 1 + c 2 - c 3) * (c 0 - c 1 + c 2 - c 3) := by simp [nrm, dR, dI, tRe, tIm, uRe, uIm, Int.sub_eq_add_neg]
  rw [n0, n1] at e1
  rw [n0, n2] at e2
  have p : ∀ i < 4, ∀ j < 4, i ≠ j → c i * c j = 0 := by
    have q : ∀ i < 4, ∀ j < 4, 0 ≤ c i * c j := fun i hi j hj => Int.mul_nonneg (h0 i hi) (h0 j hj)
    have q01 := q 0 (by decide) 1 (by decide)
    have q02 := q 0 (by decide) 2 (by decide)
    have q03 := q 0 (by decide) 3 (by decide)
    have q12 := q 1 (by decide) 2 (by decide)
    have q13 := q 1 (by decide) 3 (by decide)
    have q23 := q 2 (by decide) 3 (by decide)
    simp only [Int.add_mul, Int.mul_add, Int.sub_mul, Int.mul_sub, Int.mul_comm (c 1) (c 0), Int.mul_comm (c 2) (c 0), Int.mul_comm (c 3) (c 0), Int.mul_comm (c 2) (c 1), Int.mul_comm (c 3) (c 1), Int.mul_comm (c 3) (c 2)] at e1 e2
    have r01 : c 0 * c 1 = 0 := by omega
    have r02 : c 0 * c 2 = 0 := by omega
    have r03 : c 0 * c 3 = 0 := by omega
    have r12 : c 1 * c 2 = 0 := by omega
    have r13 : c 1 * c 3 = 0 := by omega
    have r23 : c 2 * c 3 = 0 := by omega
    intro i hi j hj hij
    rcases (show i = 0 ∨ i = 1 ∨ i = 2 ∨ i = 3 by omega) with rfl | rfl | rfl | rfl <;>
    rcases (show j = 0 ∨ j = 1 ∨ j = 2 ∨ j = 3 by omega) with rfl | rfl | rfl | rfl <;>
    first
      | exact absurd rfl hij
      | assumption
      | (rw [Int.mul_comm]; assumption)
  have := p r hr s hs hrs
  rcases Int.mul_eq_zero.1 this with h | h <;> omega
end Go.Proofs.Ythidfmkmklnhhaa
