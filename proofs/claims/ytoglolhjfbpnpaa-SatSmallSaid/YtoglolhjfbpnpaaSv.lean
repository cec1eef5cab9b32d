/- Plain laws: numbers as lists of bits, the lowest first. No program is named here. -/
import Derived.Test.YtoglolhjfbpnpaaQ
namespace Go.Proofs.Ytoglolhjfbpnpaa
open Go.RowKit

def val : List Int → Int
  | [] => 0
  | x :: l => x + 2 * val l
def Bits (l : List Int) : Prop := ∀ x ∈ l, x = 0 ∨ x = 1

theorem pow_pos2 (n : Nat) : (0 : Int) < 2 ^ n := Int.pow_pos (by decide)
theorem pow_suc2 (n : Nat) : (2 : Int) ^ (n + 1) = 2 * 2 ^ n := by rw [Int.pow_succ, Int.mul_comm]
theorem val_app (a b : List Int) : val (a ++ b) = val a + 2 ^ a.length * val b := by
  induction a with
  | nil => simp [val]
  | cons x a ih =>
    rw [List.cons_append, val, val, ih, List.length_cons, pow_suc2, Int.mul_add, Int.mul_assoc]
    omega
theorem val_one (b : Int) : val [b] = b := by simp [val]
theorem Bits.app {a b : List Int} (h : Bits a) (k : Bits b) : Bits (a ++ b) := fun x hx => (List.mem_append.1 hx).elim (h x) (k x)
theorem Bits.nil : Bits [] := fun x hx => by simp at hx
theorem Bits.one {b : Int} (h : b = 0 ∨ b = 1) : Bits [b] := fun x hx => by simp at hx; subst hx; exact h
theorem Bits.cons {b : Int} {l : List Int} (h : b = 0 ∨ b = 1) (k : Bits l) : Bits (b :: l) := Bits.app (Bits.one h) k
theorem Bits.drop {l : List Int} (h : Bits l) (k : Nat) : Bits (l.drop k) := fun x hx => h x (List.mem_of_mem_drop hx)
theorem Bits.take {l : List Int} (h : Bits l) (k : Nat) : Bits (l.take k) := fun x hx => h x (List.mem_of_mem_take hx)
theorem Bits.at_ {l : List Int} (h : Bits l) (k : Nat) : l.getD k 0 = 0 ∨ l.getD k 0 = 1 := by
  by_cases hk : k < l.length
  · have : l.getD k 0 ∈ l := by rw [List.getD_eq_getElem?_getD, List.getElem?_eq_getElem hk]; exact List.getElem_mem hk
    exact h _ this
  · left; rw [List.getD_eq_getElem?_getD, List.getElem?_eq_none (by omega)]; rfl
theorem val_range {l : List Int} (h : Bits l) : 0 ≤ val l ∧ val l < 2 ^ l.length := by
  induction l with
  | nil => simp [val]
  | cons x l ih =>
    have := ih fun y hy => h y (by simp [hy])
    have hx := h x (by simp)
    rw [val, List.length_cons, pow_suc2]
    omega
theorem val_le_pow {l : List Int} (h : Bits l) {n : Nat} (hn : l.length ≤ n) : val l < 2 ^ n :=
  Int.lt_of_lt_of_le (val_range h).2 (by have := Nat.pow_le_pow_right (show 0 < 2 by decide) hn; exact_mod_cast this)
theorem getD_len {l : List Int} {k : Nat} (h : l.length ≤ k) : l.getD k 0 = 0 := by rw [List.getD_eq_getElem?_getD, List.getElem?_eq_none h]; rfl
theorem drop_step (l : List Int) (i : Nat) : val (l.drop i) = l.getD i 0 + 2 * val (l.drop (i + 1)) := by
  by_cases hk : i < l.length
  · rw [List.drop_eq_getElem_cons hk, val, List.getD_eq_getElem?_getD, List.getElem?_eq_getElem hk]; rfl
  · rw [List.drop_eq_nil_of_le (by omega), List.drop_eq_nil_of_le (by omega), getD_len (by omega)]; simp [val]
theorem take_step (l : List Int) (i : Nat) : val (l.take (i + 1)) = val (l.take i) + 2 ^ i * l.getD i 0 := by
  by_cases hk : i < l.length
  · rw [take_one hk, val_app, val_one, List.length_take, Nat.min_eq_left (by omega)]
  · rw [List.take_of_length_le (by omega), List.take_of_length_le (by omega), getD_len (by omega)]; simp
theorem val_split (l : List Int) (i : Nat) : val l = val (l.take i) + 2 ^ i * val (l.drop i) := by
  by_cases hk : i < l.length
  · conv => lhs; rw [← List.take_append_drop i l]
    rw [val_app, List.length_take, Nat.min_eq_left (by omega)]
  · rw [List.take_of_length_le (by omega), List.drop_eq_nil_of_le (by omega)]; simp [val]
theorem take_lt {l : List Int} (h : Bits l) (i : Nat) : 0 ≤ val (l.take i) ∧ val (l.take i) < 2 ^ i :=
  ⟨(val_range (h.take i)).1, val_le_pow (h.take i) (by rw [List.length_take]; omega)⟩
theorem drop_pos {l : List Int} (h : Bits l) (i : Nat) : 0 ≤ val (l.drop i) := (val_range (h.drop i)).1

theorem mul_bit (P : Int) {b : Int} (h : b = 0 ∨ b = 1) : P * b = if b = 1 then P else 0 := by
  rcases h with rfl | rfl <;> simp
/-- One step of a sum. -/
theorem plus_step (P ys A B a b c n : Int) (ha : a = 0 ∨ a = 1) (hb : b = 0 ∨ b = 1) (hc : c = 0 ∨ c = 1) (hn : n = a + b + c) (hE : ys + P * c = A + B) :
    (ys + P * (n % 2)) + (2 * P) * (n / 2) = (A + P * a) + (B + P * b) ∧ (n % 2 = 0 ∨ n % 2 = 1) ∧ (n / 2 = 0 ∨ n / 2 = 1) := by
  subst hn
  rcases ha with rfl | rfl <;> rcases hb with rfl | rfl <;> rcases hc with rfl | rfl <;> simp at hE ⊢ <;> omega
/-- One step of a difference: d is the bit, c' what is borrowed next. -/
theorem minus_step (P ys A B a b c d c' : Int) (ha : a = 0 ∨ a = 1) (hb : b = 0 ∨ b = 1) (hc : c = 0 ∨ c = 1) (hn : 0 ≤ a - b - c ∧ d = a - b - c ∧ c' = 0 ∨ a - b - c < 0 ∧ d = a - b - c + 2 ∧ c' = 1) (hE : ys + B = A + P * c) :
    (ys + P * d) + (B + P * b) = (A + P * a) + (2 * P) * c' ∧ (d = 0 ∨ d = 1) ∧ (c' = 0 ∨ c' = 1) := by
  rcases ha with rfl | rfl <;> rcases hb with rfl | rfl <;> rcases hc with rfl | rfl <;> rcases hn with ⟨h1, rfl, rfl⟩ | ⟨h1, rfl, rfl⟩ <;> simp at hE h1 ⊢ <;> omega
/-- The end of a difference. -/
theorem minus_end (P ys A B0 B1 c : Int) (hB0 : 0 ≤ B0) (hB1 : 0 ≤ B1) (hc : c = 0 ∨ c = 1) (hE : ys + B0 = A + P * c) (hle : B0 + P * B1 ≤ A) (hA : A < P) (hy : ys < P) (hy0 : 0 ≤ ys) : ys = A - (B0 + P * B1) := by
  have hP : 0 < P := by omega
  have : B1 = 0 := by
    rcases Int.lt_or_le 0 B1 with h | h
    · have : P * 1 ≤ P * B1 := Int.mul_le_mul_of_nonneg_left (by omega) (by omega)
      omega
    · omega
  subst this
  rcases hc with rfl | rfl <;> simp at hE hle ⊢ <;> omega
/-- The first bit from above that differs decides. -/
theorem less_at {a b : List Int} (ha : Bits a) (hb : Bits b) {i : Nat} (he : val (a.drop (i + 1)) = val (b.drop (i + 1))) (hne : a.getD i 0 ≠ b.getD i 0) : (a.getD i 0 < b.getD i 0) ↔ (val a < val b) := by
  have e1 := val_split a i
  have e2 := val_split b i
  have f1 := drop_step a i
  have f2 := drop_step b i
  have t1 := take_lt ha i
  have t2 := take_lt hb i
  have g1 := ha.at_ i
  have g2 := hb.at_ i
  rw [e1, e2, f1, f2, he, Int.mul_add, Int.mul_add]
  generalize (2 : Int) ^ i * (2 * val (b.drop (i + 1))) = V
  generalize (2 : Int) ^ i = P at *
  generalize a.getD i 0 = x at *
  generalize b.getD i 0 = y at *
  rcases g1 with rfl | rfl <;> rcases g2 with rfl | rfl <;> simp at * <;> omega
theorem less_none {a b : List Int} (he : val (a.drop 0) = val (b.drop 0)) : ¬ val a < val b := by simp at he; omega
theorem less_step {a b : List Int} {i : Nat} (he : val (a.drop (i + 1)) = val (b.drop (i + 1))) (h : a.getD i 0 = b.getD i 0) : val (a.drop i) = val (b.drop i) := by
  rw [drop_step a i, drop_step b i, he, h]
theorem less_start (a b : List Int) {n : Nat} (h1 : a.length ≤ n) (h2 : b.length ≤ n) : val (a.drop n) = val (b.drop n) := by
  rw [List.drop_eq_nil_of_le h1, List.drop_eq_nil_of_le h2]
/-- One step of a division. -/
theorem div_step0 (w q r V a : Int) (hE : q * w + r = V) : (0 + 2 * q) * w + (a + 2 * r) = a + 2 * V := by
  rw [Int.zero_add, Int.mul_assoc]; omega
theorem div_step1 (w q r V a : Int) (hE : q * w + r = V) : (1 + 2 * q) * w + (a + 2 * r - w) = a + 2 * V := by
  rw [Int.add_mul, Int.mul_assoc]; omega
/-- One step of a number that is cut at a bit. -/
theorem num_step (V b : Int) (k : Nat) (hb : b = 0 ∨ b = 1) (hV : 0 ≤ V) : (b + 2 * V) % 2 ^ (k + 1) = 2 * (V % 2 ^ k) + b := by
  have hp := pow_pos2 k
  rw [pow_suc2]
  generalize (2 : Int) ^ k = P at *
  have h1 := Int.mul_ediv_add_emod V P
  have h2 := Int.emod_nonneg V (show P ≠ 0 by omega)
  have h3 := Int.emod_lt_of_pos V hp
  have : b + 2 * V = (2 * (V % P) + b) + (2 * P) * (V / P) := by rw [Int.mul_assoc]; omega
  rw [this, Int.add_mul_emod_self_left]
  exact Int.emod_eq_of_lt (by omega) (by omega)
theorem set_drop {l : List Int} {i : Nat} (h : i < l.length) (v : Int) : val ((l.set i v).drop i) = v + 2 * val (l.drop (i + 1)) := by
  rw [drop_step]
  congr 1
  · rw [List.getD_eq_getElem?_getD]; simp [h]
  · rw [List.drop_set_of_lt (by omega)]
theorem set_bits {l : List Int} (h : Bits l) (i : Nat) {v : Int} (hv : v = 0 ∨ v = 1) : Bits (l.set i v) := fun x hx => (List.mem_or_eq_of_mem_set hx).elim (h x) (fun e => e ▸ hv)
end Go.Proofs.Ytoglolhjfbpnpaa
