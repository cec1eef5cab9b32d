/- The plain laws of varint's forms (Vn's and Vj's, for a seat that lacks other functions). No program in sight. -/
import Derived.Test.YtgngeachgkappaaWv
namespace Go.Proofs.Ytgngeachgkappaa
open Go.RowKit

theorem encF_bytes (f x : Nat) : Bytes (encF f x) := by
  induction f generalizing x with
  | zero => intro y hy; simp [encF] at hy
  | succ f ih =>
    intro y hy
    unfold encF at hy
    split at hy
    · simp at hy; subst hy; omega
    · simp at hy
      rcases hy with rfl | hy
      · omega
      · exact ih _ y hy
theorem enc_bytes (x : Nat) : Bytes (enc x) := encF_bytes 10 x
theorem pow128 (i : Nat) : (0 : Int) < 128 ^ i := Int.pow_pos (by decide)
theorem pow128n (i : Nat) : 0 < 128 ^ i := Nat.pow_pos (by decide)

/-- A number that still has to be written at place i is small enough. -/
theorem room_i {x i : Nat} (h : x * 128 ^ i < 18446744073709551616) (hx : 128 ≤ x) : i < 9 := by
  rcases Nat.lt_or_ge i 9 with h1 | h1
  · exact h1
  · exfalso
    have h2 : 128 ^ 9 ≤ 128 ^ i := Nat.pow_le_pow_right (by decide) h1
    have h3 : 128 * 128 ^ 9 ≤ x * 128 ^ i := Nat.mul_le_mul hx h2
    have h4 : (128 : Nat) * 128 ^ 9 = 1180591620717411303424 := by decide
    omega
theorem room_9 {x : Nat} (h : x * 128 ^ 9 < 18446744073709551616) : x ≤ 1 := by
  have h4 : (128 : Nat) ^ 9 = 9223372036854775808 := by decide
  rw [h4] at h; omega
theorem room_10 {x i : Nat} (h : x * 128 ^ i < 18446744073709551616) (hi : 10 ≤ i) : x = 0 := by
  rcases Nat.eq_zero_or_pos x with h0 | h0
  · exact h0
  · exfalso
    have h2 : 128 ^ 10 ≤ 128 ^ i := Nat.pow_le_pow_right (by decide) hi
    have h3 : 1 * 128 ^ 10 ≤ x * 128 ^ i := Nat.mul_le_mul h0 h2
    have h4 : (128 : Nat) ^ 10 = 1180591620717411303424 := by decide
    omega
theorem room_step {x i : Nat} (h : x * 128 ^ i < 18446744073709551616) : x / 128 * 128 ^ (i + 1) < 18446744073709551616 := by
  refine Nat.lt_of_le_of_lt ?_ h
  rw [Nat.pow_succ, show x / 128 * (128 ^ i * 128) = (x / 128 * 128) * 128 ^ i by rw [Nat.mul_comm (128 ^ i) 128, Nat.mul_assoc]]
  exact Nat.mul_le_mul_right _ (Nat.div_mul_le_self x 128)
theorem split128 (x : Nat) (p : Int) : ((x % 128 : Nat) : Int) * p + ((x / 128 : Nat) : Int) * (p * 128) = (x : Int) * p := by
  have h : (x : Int) = ((x % 128 : Nat) : Int) + 128 * ((x / 128 : Nat) : Int) := by omega
  conv => rhs; rw [h]
  rw [Int.add_mul, Int.mul_comm p 128, ← Int.mul_assoc, Int.mul_comm ((x / 128 : Nat) : Int) 128]

theorem rdGo_enc (r : List Int) : ∀ (f i x : Nat) (acc : Int), f + i = 10 → x * 128 ^ i < 18446744073709551616 → (x = 0 → i = 0) →
    rdGo (encF f x ++ r) i acc = (acc + x * 128 ^ i, ((i + (encF f x).length : Nat) : Int), 0) := by
  intro f
  induction f with
  | zero =>
    intro i x acc h1 h2 h3
    have := room_10 h2 (by omega)
    have := h3 this
    omega
  | succ f ih =>
    intro i x acc h1 h2 h3
    by_cases hx : x < 128
    · rw [encF_lt hx]
      have h9 : ¬ (i = 9 ∧ 1 < (x : Int)) := by
        rintro ⟨rfl, h⟩
        have := room_9 h2
        omega
      have h0 : ¬ ((x : Int) = 0 ∧ 0 < i) := by
        rintro ⟨h, h'⟩
        have := h3 (by omega)
        omega
      simp only [List.cons_append, List.nil_append, rdGo]
      rw [if_neg h9, if_pos (by omega), if_neg h0]
      simp
    · rw [encF_ge hx]
      have hi := room_i h2 (by omega)
      have h9 : ¬ (i = 9 ∧ 1 < ((x % 128 + 128 : Nat) : Int)) := by omega
      simp only [List.cons_append, rdGo]
      rw [if_neg h9, if_neg (by omega), ih (i + 1) (x / 128) _ (by omega) (room_step h2) (by omega)]
      have e := split128 x ((128 : Int) ^ i)
      have e2 : ((x % 128 + 128 : Nat) : Int) - 128 = ((x % 128 : Nat) : Int) := by omega
      rw [e2, Int.pow_succ, Int.add_assoc, e, List.length_cons]
      simp only [Prod.mk.injEq, true_and, and_true]
      omega

/-- What is written is read back, whatever follows. -/
theorem rd_enc {x : Nat} (hx : x < 18446744073709551616) (r : List Int) : rd (enc x ++ r) = ((x : Int), ((enc x).length : Int), 0) := by
  have := rdGo_enc r 10 0 x 0 rfl (by simpa using hx) (fun _ => rfl)
  simpa [rd, enc] using this

/-- Bytes that are read are those that would be written. -/
theorem rdGo_form (l : List Int) (hl : Bytes l) : ∀ (i : Nat) (acc : Int), i ≤ 9 → (rdGo l i acc).2.2 = 0 →
    ∃ y m : Nat, rdGo l i acc = (acc + y * 128 ^ i, ((i + m : Nat) : Int), 0) ∧ 1 ≤ m ∧ m ≤ l.length ∧ encF (10 - i) y = l.take m ∧ (y = 0 → i = 0) := by
  induction l with
  | nil => intro i acc hi h; simp [rdGo] at h
  | cons b r ih =>
    intro i acc hi h
    have hb := hl b (by simp)
    have hr : Bytes r := fun x hx => hl x (by simp [hx])
    simp only [rdGo] at h ⊢
    by_cases h9 : i = 9 ∧ 1 < b
    · rw [if_pos h9] at h; simp at h
    · rw [if_neg h9] at h ⊢
      by_cases h1 : b < 128
      · rw [if_pos h1] at h ⊢
        by_cases h0 : b = 0 ∧ 0 < i
        · rw [if_pos h0] at h; simp at h
        · rw [if_neg h0]
          refine ⟨b.toNat, 1, ?_, Nat.le_refl _, by simp, ?_, by omega⟩
          · have : ((b.toNat : Nat) : Int) = b := by omega
            rw [this]; simp
          · rw [show 10 - i = (9 - i) + 1 by omega, encF_lt (by omega)]
            simp; omega
      · rw [if_neg h1] at h ⊢
        obtain ⟨y, m, h2, h3, h4, h5, h6⟩ := ih hr (i + 1) _ (by omega) h
        refine ⟨(b - 128).toNat + 128 * y, m + 1, ?_, by omega, by simp; omega, ?_, by omega⟩
        · rw [h2]
          simp only [Prod.mk.injEq, and_true]
          refine ⟨?_, by omega⟩
          have e : (((b - 128).toNat + 128 * y : Nat) : Int) = (b - 128) + 128 * (y : Int) := by omega
          rw [e, Int.add_mul, Int.pow_succ, Int.add_assoc, Int.mul_comm ((128 : Int) ^ i) 128, ← Int.mul_assoc, Int.mul_comm (y : Int) 128]
        · rw [show 10 - i = (10 - (i + 1)) + 1 by omega, encF_ge (by omega)]
          have e1 : ((b - 128).toNat + 128 * y) / 128 = y := by omega
          have e2 : ((((b - 128).toNat + 128 * y) % 128 + 128 : Nat) : Int) = b := by omega
          rw [e1, e2, h5]
          rfl

theorem rd_form {l : List Int} (hl : Bytes l) (h : (rd l).2.2 = 0) : ∃ y m : Nat, rd l = ((y : Int), (m : Int), 0) ∧ 1 ≤ m ∧ m ≤ l.length ∧ enc y = l.take m := by
  obtain ⟨y, m, h1, h2, h3, h4, _⟩ := rdGo_form l hl 0 0 (by decide) h
  exact ⟨y, m, by simpa [rd] using h1, h2, h3, h4⟩

/-- A form that is cut ends inside the number. -/
theorem rdGo_cut : ∀ (f i x k : Nat) (acc : Int), f + i = 10 → x * 128 ^ i < 18446744073709551616 → k < (encF f x).length → rdGo ((encF f x).take k) i acc = (0, 0, 10) := by
  intro f
  induction f with
  | zero => intro i x k acc _ _ h; simp [encF] at h
  | succ f ih =>
    intro i x k acc h1 h2 h3
    cases k with
    | zero => simp [rdGo]
    | succ k =>
      by_cases hx : x < 128
      · rw [encF_lt hx] at h3; simp at h3
      · rw [encF_ge hx] at h3 ⊢
        have hi := room_i h2 (by omega)
        simp only [List.take_succ_cons, rdGo]
        rw [if_neg (by omega), if_neg (by omega), ih (i + 1) (x / 128) k _ (by omega) (room_step h2) (by simpa using h3)]
theorem rd_cut {x k : Nat} (hx : x < 18446744073709551616) (hk : k < (enc x).length) : rd ((enc x).take k) = (0, 0, 10) := rdGo_cut 10 0 x k 0 rfl (by simpa using hx) hk

theorem enc_pos (x : Nat) : 1 ≤ (enc x).length := encF_pos 9 x
end Go.Proofs.Ytgngeachgkappaa
