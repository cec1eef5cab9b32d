/- The plain laws of chapter varint: what rd, enc, rdAll, encAll are to each other. No program in sight. -/
import Derived.Test.YtckklmepncibkaaVj
namespace Go.Proofs.Ytckklmepncibkaa
open Go.RowKit

theorem pow128 (i : Nat) : (0 : Int) < 128 ^ i := Int.pow_pos (by decide)
theorem pow128n (i : Nat) : 0 < 128 ^ i := Nat.pow_pos (by decide)

/-- A number that still has to be written at place i is small enough. -/
theorem room_i {x i : Nat} (h : x * 128 ^ i < 18446744073709551616) (hx : 128 ≤ x) : i < 9 := by
  rcases Nat.lt_or_ge i 9 with h1 | h1
  · exact h1
  · exfalso
    have h2 : 128 ^ 9 ≤ 128 ^ i := Nat.pow_le_pow_right (by decide) h1
    have h3 : 128 * 128 ^ 9 ≤ x * 128 ^ i := Nat.mul_le_mul hx h2
    have h4 : (128 : Nat) * 128 ^ 9 = 1180591620717411303424 := by decide
    omega
theorem room_9 {x : Nat} (h : x * 128 ^ 9 < 18446744073709551616) : x ≤ 1 := by
  have h4 : (128 : Nat) ^ 9 = 9223372036854775808 := by decide
  rw [h4] at h; omega
theorem room_10 {x i : Nat} (h : x * 128 ^ i < 18446744073709551616) (hi : 10 ≤ i) : x = 0 := by
  rcases Nat.eq_zero_or_pos x with h0 | h0
  · exact h0
  · exfalso
    have h2 : 128 ^ 10 ≤ 128 ^ i := Nat.pow_le_pow_right (by decide) hi
    have h3 : 1 * 128 ^ 10 ≤ x * 128 ^ i := Nat.mul_le_mul h0 h2
    have h4 : (128 : Nat) ^ 10 = 1180591620717411303424 := by decide
    omega
theorem room_step {x i : Nat} (h : x * 128 ^ i < 18446744073709551616) : x / 128 * 128 ^ (i + 1) < 18446744073709551616 := by
  refine Nat.lt_of_le_of_lt ?_ h
  rw [Nat.pow_succ, show x / 128 * (128 ^ i * 128) = (x / 128 * 128) * 128 ^ i by rw [Nat.mul_comm (128 ^ i) 128, Nat.mul_assoc]]
  exact Nat.mul_le_mul_right _ (Nat.div_mul_le_self x 128)
theorem split128 (x : Nat) (p : Int) : ((x % 128 : Nat) : Int) * p + ((x / 128 : Nat) : Int) * (p * 128) = (x : Int) * p := by
  have h : (x : Int) = ((x % 128 : Nat) : Int) + 128 * ((x / 128 : Nat) : Int) := by omega
  conv => rhs; rw [h]
  rw [Int.add_mul, Int.mul_comm p 128, ← Int.mul_assoc, Int.mul_comm ((x / 128 : Nat) : Int) 128]

theorem rdGo_enc (r : List Int) : ∀ (f i x : Nat) (acc : Int), f + i = 10 → x * 128 ^ i < 18446744073709551616 → (x = 0 → i = 0) →
    rdGo (encF f x ++ r) i acc = (acc + x * 128 ^ i, ((i + (encF f x).length : Nat) : Int), 0) := by
  intro f
  induction f with
  | zero =>
    intro i x acc h1 h2 h3
    have := room_10 h2 (by omega)
    have := h3 this
    omega
  | succ f ih =>
    intro i x acc h1 h2 h3
    by_cases hx : x < 128
    · rw [encF_lt hx]
      have h9 : ¬ (i = 9 ∧ 1 < (x : Int)) := by
        rintro ⟨rfl, h⟩
        have := room_9 h2
        omega
      have h0 : ¬ ((x : Int) = 0 ∧ 0 < i) := by
        rintro ⟨h, h'⟩
        have := h3 (by omega)
        omega
      simp only [List.cons_append, List.nil_append, rdGo]
      rw [if_neg h9, if_pos (by omega), if_neg h0]
      simp
    · rw [encF_ge hx]
      have hi := room_i h2 (by omega)
      have h9 : ¬ (i = 9 ∧ 1 < ((x % 128 + 128 : Nat) : Int)) := by omega
      simp only [List.cons_append, rdGo]
      rw [if_neg h9, if_neg (by omega), ih (i + 1) (x / 128) _ (by omega) (room_step h2) (by omega)]
      have e := split128 x ((128 : Int) ^ i)
      have e2 : ((x % 128 + 128 : Nat) : Int) - 128 = ((x % 128 : Nat) : Int) := by omega
      rw [e2, Int.pow_succ, Int.add_assoc, e, List.length_cons]
      simp only [Prod.mk.injEq, true_and, and_true]
      omega

/-- What is written is read back, whatever follows. -/
theorem rd_enc {x : Nat} (hx : x < 18446744073709551616) (r : List Int) : rd (enc x ++ r) = ((x : Int), ((enc x).length : Int), 0) := by
  have := rdGo_enc r 10 0 x 0 rfl (by simpa using hx) (fun _ => rfl)
  simpa [rd, enc] using this

/-- Bytes that are read are those that would be written. -/
theorem rdGo_form (l : List Int) (hl : Bytes l) : ∀ (i : Nat) (acc : Int), i ≤ 9 → (rdGo l i acc).2.2 = 0 →
    ∃ y m : Nat, rdGo l i acc = (acc + y * 128 ^ i, ((i + m : Nat) : Int), 0) ∧ 1 ≤ m ∧ m ≤ l.length ∧ encF (10 - i) y = l.take m ∧ (y = 0 → i = 0) := by
  induction l with
  | nil => intro i acc hi h; simp [rdGo] at h
  | cons b r ih =>
    intro i acc hi h
    have hb := hl b (by simp)
    have hr : Bytes r := fun x hx => hl x (by simp [hx])
    simp only [rdGo] at h ⊢
    by_cases h9 : i = 9 ∧ 1 < b
    · rw [if_pos h9] at h; simp at h
    · rw [if_neg h9] at h ⊢
      by_cases h1 : b < 128
      · rw [if_pos h1] at h ⊢
        by_cases h0 : b = 0 ∧ 0 < i
        · rw [if_pos h0] at h; simp at h
        · rw [if_neg h0]
          refine ⟨b.toNat, 1, ?_, Nat.le_refl _, by simp, ?_, by omega⟩
          · have : ((b.toNat : Nat) : Int) = b := by omega
            rw [this]; simp
          · rw [show 10 - i = (9 - i) + 1 by omega, encF_lt (by omega)]
            simp; omega
      · rw [if_neg h1] at h ⊢
        obtain ⟨y, m, h2, h3, h4, h5, h6⟩ := ih hr (i + 1) _ (by omega) h
        refine ⟨(b - 128).toNat + 128 * y, m + 1, ?_, by omega, by simp; omega, ?_, by omega⟩
        · rw [h2]
          simp only [Prod.mk.injEq, and_true]
          refine ⟨?_, by omega⟩
          have e : (((b - 128).toNat + 128 * y : Nat) : Int) = (b - 128) + 128 * (y : Int) := by omega
          rw [e, Int.add_mul, Int.pow_succ, Int.add_assoc, Int.mul_comm ((128 : Int) ^ i) 128, ← Int.mul_assoc, Int.mul_comm (y : Int) 128]
        · rw [show 10 - i = (10 - (i + 1)) + 1 by omega, encF_ge (by omega)]
          have e1 : ((b - 128).toNat + 128 * y) / 128 = y := by omega
          have e2 : ((((b - 128).toNat + 128 * y) % 128 + 128 : Nat) : Int) = b := by omega
          rw [e1, e2, h5]
          rfl

theorem rd_form {l : List Int} (hl : Bytes l) (h : (rd l).2.2 = 0) : ∃ y m : Nat, rd l = ((y : Int), (m : Int), 0) ∧ 1 ≤ m ∧ m ≤ l.length ∧ enc y = l.take m := by
  obtain ⟨y, m, h1, h2, h3, h4, _⟩ := rdGo_form l hl 0 0 (by decide) h
  exact ⟨y, m, by simpa [rd] using h1, h2, h3, h4⟩

/-- A form that is cut ends inside the number. -/
theorem rdGo_cut : ∀ (f i x k : Nat) (acc : Int), f + i = 10 → x * 128 ^ i < 18446744073709551616 → k < (encF f x).length → rdGo ((encF f x).take k) i acc = (0, 0, 10) := by
  intro f
  induction f with
  | zero => intro i x k acc _ _ h; simp [encF] at h
  | succ f ih =>
    intro i x k acc h1 h2 h3
    cases k with
    | zero => simp [rdGo]
    | succ k =>
      by_cases hx : x < 128
      · rw [encF_lt hx] at h3; simp at h3
      · rw [encF_ge hx] at h3 ⊢
        have hi := room_i h2 (by omega)
        simp only [List.take_succ_cons, rdGo]
        rw [if_neg (by omega), if_neg (by omega), ih (i + 1) (x / 128) k _ (by omega) (room_step h2) (by simpa using h3)]
theorem rd_cut {x k : Nat} (hx : x < 18446744073709551616) (hk : k < (enc x).length) : rd ((enc x).take k) = (0, 0, 10) := rdGo_cut 10 0 x k 0 rfl (by simpa using hx) hk

/-- Bytes that all say 'go on'. -/
def Ons (l : List Int) : Prop := ∀ b ∈ l, 128 ≤ b ∧ b ≤ 255
theorem rdGo_ons (r : List Int) : ∀ (l : List Int) (i : Nat) (acc : Int), Ons l → i + l.length ≤ 9 → ∃ acc', rdGo (l ++ r) i acc = rdGo r (i + l.length) acc' := by
  intro l
  induction l with
  | nil => intro i acc _ _; exact ⟨acc, rfl⟩
  | cons b l ih =>
    intro i acc h hl
    simp only [List.length_cons] at hl
    have hb := h b (by simp)
    obtain ⟨a, ha⟩ := ih (i + 1) (acc + (b - 128) * 128 ^ i) (fun x hx => h x (by simp [hx])) (by omega)
    refine ⟨a, ?_⟩
    simp only [List.cons_append, rdGo]
    rw [if_neg (by omega), if_neg (by omega), ha, List.length_cons]
    congr 1
    omega
theorem rd_short {l : List Int} (h : Ons l) (hl : l.length ≤ 9) : rd l = (0, 0, 10) := by
  obtain ⟨a, ha⟩ := rdGo_ons [] l 0 0 h (by omega)
  rw [List.append_nil] at ha
  exact ha
theorem rd_over {l : List Int} {b : Int} (h : Ons l) (hl : l.length = 9) (hb : 1 < b) (r : List Int) : rd (l ++ b :: r) = (0, 0, 11) := by
  obtain ⟨a, ha⟩ := rdGo_ons (b :: r) l 0 0 h (by omega)
  show rdGo _ 0 0 = _
  rw [ha]
  simp only [rdGo]
  rw [if_pos ⟨by omega, hb⟩]
theorem rd_zero {l : List Int} (h : Ons l) (h1 : 1 ≤ l.length) (hl : l.length ≤ 9) (r : List Int) : rd (l ++ 0 :: r) = (0, 0, 12) := by
  obtain ⟨a, ha⟩ := rdGo_ons (0 :: r) l 0 0 h (by omega)
  show rdGo _ 0 0 = _
  rw [ha]
  simp only [rdGo]
  rw [if_neg (by omega), if_pos (by omega), if_pos (by simp; omega)]

theorem encF_inj : ∀ (f x y : Nat), x < 128 ^ f → y < 128 ^ f → encF f x = encF f y → x = y := by
  intro f
  induction f with
  | zero => intro x y hx hy _; simp at hx hy; omega
  | succ f ih =>
    intro x y hx hy h
    by_cases h1 : x < 128 <;> by_cases h2 : y < 128
    · rw [encF_lt h1, encF_lt h2] at h; simp at h; omega
    · rw [encF_lt h1, encF_ge h2] at h; simp at h; omega
    · rw [encF_ge h1, encF_lt h2] at h; simp at h; omega
    · rw [encF_ge h1, encF_ge h2] at h
      simp only [List.cons.injEq] at h
      have := ih _ _ (pow_step hx h1).1 (pow_step hy h2).1 h.2
      omega
theorem encF_mono : ∀ (f x y : Nat), x ≤ y → (encF f x).length ≤ (encF f y).length := by
  intro f
  induction f with
  | zero => intro x y _; simp [encF]
  | succ f ih =>
    intro x y h
    by_cases h1 : x < 128 <;> by_cases h2 : y < 128
    · rw [encF_lt h1, encF_lt h2]; simp
    · rw [encF_lt h1, encF_ge h2]; simp
    · omega
    · rw [encF_ge h1, encF_ge h2]
      simp only [List.length_cons]
      have := ih (x / 128) (y / 128) (by omega)
      omega
/-- Of two forms of one length the one that is greater, read from the last byte on, is the greater number's. -/
theorem encF_order : ∀ (f x y k : Nat), x < 128 ^ f → y < 128 ^ f → (encF f x).length = (encF f y).length → k < (encF f x).length → (encF f x).drop (k + 1) = (encF f y).drop (k + 1) → (k = 0 ∨ (encF f x).getD k 0 ≠ (encF f y).getD k 0) →
    ((encF f x).getD k 0 < (encF f y).getD k 0 ↔ x < y) := by
  intro f
  induction f with
  | zero => intro x y k _ _ _ h; simp [encF] at h
  | succ f ih =>
    intro x y k hx hy hl hk hd hne
    by_cases h1 : x < 128 <;> by_cases h2 : y < 128
    · rw [encF_lt h1, encF_lt h2] at *
      simp at hk
      subst hk
      simp
    · rw [encF_lt h1, encF_ge h2] at hl
      simp only [List.length_cons, List.length_nil] at hl
      have := encF_pos (f - 1) (y / 128)
      have := (pow_step hy h2).2
      rw [show f - 1 + 1 = f by omega] at *
      omega
    · rw [encF_ge h1, encF_lt h2] at hl
      simp only [List.length_cons, List.length_nil] at hl
      have := encF_pos (f - 1) (x / 128)
      have := (pow_step hx h1).2
      rw [show f - 1 + 1 = f by omega] at *
      omega
    · rw [encF_ge h1, encF_ge h2] at *
      simp only [List.length_cons] at hl hk
      have px := (pow_step hx h1).1
      have py := (pow_step hy h2).1
      cases k with
      | zero =>
        simp only [Nat.zero_add, List.drop_succ_cons, List.drop_zero] at hd
        have := encF_inj f _ _ px py hd
        simp
        omega
      | succ k =>
        simp only [List.drop_succ_cons, List.getD_cons_succ] at hd hne ⊢
        have hne' : (encF f (x / 128)).getD k 0 ≠ (encF f (y / 128)).getD k 0 := by
          rcases hne with h | h
          · omega
          · exact h
        have := ih (x / 128) (y / 128) k px py (by omega) (by omega) hd (.inr hne')
        rw [this]
        have : x / 128 ≠ y / 128 := fun e => hne' (by rw [e])
        omega

theorem enc_pos (x : Nat) : 1 ≤ (enc x).length := encF_pos 9 x
theorem encAll_cons (x : Nat) (l : List Nat) : encAll (x :: l) = enc x ++ encAll l := by simp [encAll]

/-- Numbers that are written one after the other are read back. -/
theorem rdAllF_enc : ∀ (l : List Nat) (f : Nat), (∀ x ∈ l, x < 18446744073709551616) → (encAll l).length ≤ f → rdAllF f (encAll l) = (l.map Int.ofNat, 0) := by
  intro l
  induction l with
  | nil => intro f _ _; cases f <;> simp [rdAllF, encAll]
  | cons x l ih =>
    intro f hl hf
    rw [encAll_cons] at hf ⊢
    rw [List.length_append] at hf
    have hp := enc_pos x
    obtain ⟨f, rfl⟩ : ∃ g, f = g + 1 := ⟨f - 1, by omega⟩
    have hr := rd_enc (hl x (by simp)) (encAll l)
    have hd : (enc x ++ encAll l).drop ((enc x).length : Int).toNat = encAll l := by simp
    have hi := ih f (fun y hy => hl y (by simp [hy])) (by omega)
    rw [rdAllF, if_neg (by rw [List.length_append]; omega), hr]
    simp only [ne_eq, not_true_eq_false, if_false]
    rw [hd, hi]
    simp
theorem rdAll_enc {l : List Nat} (hl : ∀ x ∈ l, x < 18446744073709551616) : rdAll (encAll l) = (l.map Int.ofNat, 0) := rdAllF_enc l _ hl (Nat.le_refl _)

/-- A defect behind numbers. -/
theorem rdAllF_bad' (r : List Int) (h0 : r ≠ []) (h1 : (rd r).2.2 ≠ 0) : ∀ (l : List Nat) (f : Nat), (∀ x ∈ l, x < 18446744073709551616) → (encAll l ++ r).length ≤ f → rdAllF f (encAll l ++ r) = ([], (rd r).2.2) := by
  intro l
  have hr0 : 0 < r.length := List.length_pos_iff.2 h0
  induction l with
  | nil =>
    intro f _ hf
    have : encAll [] = [] := rfl
    rw [this, List.nil_append] at hf ⊢
    obtain ⟨f, rfl⟩ : ∃ g, f = g + 1 := ⟨f - 1, by omega⟩
    rw [rdAllF, if_neg (by omega), if_pos h1]
  | cons x l ih =>
    intro f hl hf
    rw [encAll_cons, List.append_assoc] at hf ⊢
    rw [List.length_append] at hf
    have hp := enc_pos x
    obtain ⟨f, rfl⟩ : ∃ g, f = g + 1 := ⟨f - 1, by omega⟩
    have hr := rd_enc (hl x (by simp)) (encAll l ++ r)
    have hd : (enc x ++ (encAll l ++ r)).drop ((enc x).length : Int).toNat = encAll l ++ r := by simp
    have hi := ih f (fun y hy => hl y (by simp [hy])) (by omega)
    rw [rdAllF, if_neg (by rw [List.length_append]; omega), hr]
    simp only [ne_eq, not_true_eq_false, if_false]
    rw [hd, hi]
    simp [h1]
theorem rdAll_bad {r : List Int} (h0 : r ≠ []) (h1 : (rd r).2.2 ≠ 0) {l : List Nat} (hl : ∀ x ∈ l, x < 18446744073709551616) : rdAll (encAll l ++ r) = ([], (rd r).2.2) := rdAllF_bad' r h0 h1 l _ hl (Nat.le_refl _)

/-- Bytes that are read as numbers are written as the same ones. -/
theorem rdAllF_form : ∀ (f : Nat) (l : List Int), Bytes l → l.length ≤ f → (rdAllF f l).2 = 0 → ∃ ks : List Nat, (rdAllF f l).1 = ks.map Int.ofNat ∧ (∀ k ∈ ks, k < 18446744073709551616) ∧ encAll ks = l := by
  intro f
  induction f with
  | zero =>
    intro l _ hf _
    obtain rfl : l = [] := List.eq_nil_of_length_eq_zero (by omega)
    exact ⟨[], by simp [rdAllF], by simp, rfl⟩
  | succ f ih =>
    intro l hl hf h
    rw [rdAllF] at h ⊢
    by_cases h0 : l.length = 0
    · obtain rfl : l = [] := List.eq_nil_of_length_eq_zero h0
      exact ⟨[], by simp, by simp, rfl⟩
    · rw [if_neg h0] at h ⊢
      by_cases h1 : (rd l).2.2 ≠ 0
      · rw [if_pos h1] at h; exact absurd h h1
      · rw [if_neg h1] at h ⊢
        have h1' : (rd l).2.2 = 0 := by simpa using h1
        by_cases h2 : (rdAllF f (l.drop (rd l).2.1.toNat)).2 ≠ 0
        · rw [if_pos h2] at h; exact absurd h h2
        · rw [if_neg h2]
          have h2' : (rdAllF f (l.drop (rd l).2.1.toNat)).2 = 0 := by simpa using h2
          obtain ⟨y, m, e1, e2, e3, e4⟩ := rd_form hl h1'
          obtain ⟨_, _, _, _, _, b1, b2⟩ := rd_ok hl h1'
          rw [e1] at h2' b1 b2 ⊢
          simp only at h2' b1 b2 ⊢
          have hm : ((m : Int)).toNat = m := by omega
          rw [hm] at h2' ⊢
          obtain ⟨ks, k1, k2, k3⟩ := ih (l.drop m) (hl.drop m) (by rw [List.length_drop]; omega) h2'
          refine ⟨y :: ks, by rw [k1]; rfl, fun k hk => ?_, ?_⟩
          · rcases List.mem_cons.1 hk with rfl | hk
            · omega
            · exact k2 k hk
          · rw [encAll_cons, k3, e4, List.take_append_drop]
theorem rdAll_form {l : List Int} (hl : Bytes l) (h : (rdAll l).2 = 0) : ∃ ks : List Nat, (rdAll l).1 = ks.map Int.ofNat ∧ (∀ k ∈ ks, k < 18446744073709551616) ∧ encAll ks = l := rdAllF_form _ l hl (Nat.le_refl _) h
theorem encAll_ge (l : List Nat) : l.length ≤ (encAll l).length := by
  induction l with
  | nil => exact Nat.zero_le _
  | cons x l ih =>
    rw [encAll_cons, List.length_append, List.length_cons]
    have := enc_pos x
    omega

/-- Two forms, one of them at the other's beginning, are one form. -/
theorem enc_prefix {x y : Nat} (hx : x < 18446744073709551616) (hy : y < 18446744073709551616) (h : enc x = (enc y).take (enc x).length) : x = y := by
  have h1 := rd_enc hy []
  have h2 := rd_enc hx ((enc y).drop (enc x).length)
  rw [List.append_nil] at h1
  have e : enc x ++ (enc y).drop (enc x).length = enc y := by
    conv => lhs; lhs; rw [h]
    exact List.take_append_drop _ _
  rw [e, h1] at h2
  simp only [Prod.mk.injEq] at h2
  omega
theorem enc_mono {x y : Nat} (h : x ≤ y) : (enc x).length ≤ (enc y).length := encF_mono 10 x y h
theorem enc_order {x y k : Nat} (hx : x < 18446744073709551616) (hy : y < 18446744073709551616) (hl : (enc x).length = (enc y).length) (hk : k < (enc x).length) (hd : (enc x).drop (k + 1) = (enc y).drop (k + 1)) (hne : k = 0 ∨ (enc x).getD k 0 ≠ (enc y).getD k 0) :
    ((enc x).getD k 0 < (enc y).getD k 0 ↔ x < y) := encF_order 10 x y k (lt_pow10 hx) (lt_pow10 hy) hl hk hd hne
end Go.Proofs.Ytckklmepncibkaa
