/- Words and their bits: plain laws. No program is named here. -/
import Derived.Test.YtemhoaleeefhhaaQ
namespace Go.Proofs.Ytemhoaleeefhhaa

/-- Bit i of a list of words. -/
def bt (l : List Int) (i : Nat) : Bool := (l.getD (i / 64) 0).toNat.testBit (i % 64)
def W64 (l : List Int) : Prop := ∀ x ∈ l, 0 ≤ x ∧ x ≤ 18446744073709551615
theorem W64.at_ {l : List Int} (h : W64 l) (k : Nat) : 0 ≤ l.getD k 0 ∧ l.getD k 0 ≤ 18446744073709551615 := by
  by_cases hk : k < l.length
  · exact h _ (by rw [List.getD, List.getElem?_eq_getElem hk]; exact List.getElem_mem _)
  · rw [List.getD, List.getElem?_eq_none (by omega)]; simp
theorem W64.nat {l : List Int} (h : W64 l) (k : Nat) : (l.getD k 0).toNat < 2 ^ 64 := by
  have := h.at_ k
  have e : (2 : Nat) ^ 64 = 18446744073709551616 := by decide
  omega
theorem bt_big {l : List Int} {i : Nat} (h : 64 * l.length ≤ i) : bt l i = false := by
  unfold bt
  rw [List.getD, List.getElem?_eq_none (by omega)]
  simp
theorem bt_ext {a b : List Int} (ha : W64 a) (hb : W64 b) (hl : a.length = b.length) (h : ∀ i, i < 64 * a.length → bt a i = bt b i) : a = b := by
  refine List.ext_getElem hl fun k h1 h2 => ?_
  have e1 : a.getD k 0 = a[k] := by rw [List.getD, List.getElem?_eq_getElem h1]; rfl
  have e2 : b.getD k 0 = b[k] := by rw [List.getD, List.getElem?_eq_getElem h2]; rfl
  have a1 := ha.at_ k
  have b1 := hb.at_ k
  have : (a.getD k 0).toNat = (b.getD k 0).toNat := by
    refine Nat.eq_of_testBit_eq fun j => ?_
    by_cases hj : j < 64
    · have := h (64 * k + j) (by omega)
      unfold bt at this
      rw [show (64 * k + j) / 64 = k by omega, show (64 * k + j) % 64 = j by omega] at this
      exact this
    · have e : (2 : Nat) ^ 64 ≤ 2 ^ j := Nat.pow_le_pow_right (by decide) (by omega)
      have := ha.nat k
      have := hb.nat k
      rw [Nat.testBit_lt_two_pow (by omega), Nat.testBit_lt_two_pow (by omega)]
  rw [← e1, ← e2]
  omega

/-- How many bits are 1. -/
def pc (x : Nat) : Nat := if h : x = 0 then 0 else x % 2 + pc (x / 2)
decreasing_by omega
theorem pc_zero : pc 0 = 0 := by unfold pc; simp
theorem pc_eq (x : Nat) : pc x = x % 2 + pc (x / 2) := by
  by_cases h : x = 0
  · subst h; simp [pc_zero]
  · rw [pc]; simp [h]
theorem pc_low (x : Nat) (h : x ≠ 0) : pc (x &&& (x - 1)) + 1 = pc x := by
  induction x using Nat.strongRecOn with
  | ind x ih =>
    rw [pc_eq (x &&& (x - 1)), pc_eq x, Nat.and_div_two]
    have hm : (x &&& (x - 1)) % 2 = 0 := by
      have := Nat.testBit_and x (x - 1) 0
      simp only [Nat.testBit_zero] at this
      rcases Nat.mod_two_eq_zero_or_one (x &&& (x - 1)) with h4 | h4
      · exact h4
      · exfalso
        rw [h4] at this
        by_cases h2 : x % 2 = 1
        · have h3 : ¬ (x - 1) % 2 = 1 := by omega
          simp [h2, h3] at this
        · simp [h2] at this
    rw [hm]
    by_cases h2 : x % 2 = 1
    · rw [show (x - 1) / 2 = x / 2 by omega, Nat.and_self]; omega
    · have h3 : x / 2 ≠ 0 := by omega
      have := ih (x / 2) (by omega) h3
      rw [show (x - 1) / 2 = x / 2 - 1 by omega]
      omega
theorem pc_pos {x : Nat} (h : x ≠ 0) : 0 < pc x := by have := pc_low x h; omega
theorem pc_count (k : Nat) : ∀ x, pc (x % 2 ^ k) = (List.range k).countP fun i => x.testBit i := by
  induction k with
  | zero => intro x; simp [Nat.mod_one, pc_zero]
  | succ k ih =>
    intro x
    rw [pc_eq, List.range_succ_eq_map, List.countP_cons, List.countP_map]
    have e1 : x % 2 ^ (k + 1) / 2 = x / 2 % 2 ^ k := by
      rw [Nat.pow_succ, Nat.mul_comm (2 ^ k) 2, Nat.mod_mul_right_div_self]
    have e2 : x % 2 ^ (k + 1) % 2 = x % 2 := Nat.mod_mod_of_dvd _ (Nat.dvd_of_mod_eq_zero (by rw [Nat.pow_succ]; omega))
    rw [e1, e2, ih (x / 2)]
    have e3 : (fun i => x.testBit i) ∘ Nat.succ = fun i => (x / 2).testBit i := by
      funext i
      exact Nat.testBit_succ x i
    rw [e3, Nat.testBit_zero, Nat.add_comm]
    congr 1
    by_cases h2 : x % 2 = 1
    · simp [h2]
    · simp [h2]; omega

/-- How many members are less than i. -/
def cnt (l : List Int) (i : Nat) : Nat := (List.range i).countP (bt l)
theorem cnt_succ (l : List Int) (i : Nat) : cnt l (i + 1) = cnt l i + (bt l i).toNat := by
  unfold cnt
  rw [List.range_succ, List.countP_append]
  cases h : bt l i <;> simp [h]
theorem cnt_add (l : List Int) (w m : Nat) (hm : m ≤ 64) : cnt l (64 * w + m) = cnt l (64 * w) + pc ((l.getD w 0).toNat % 2 ^ m) := by
  unfold cnt
  rw [List.range_add, List.countP_append, pc_count, List.countP_map]
  congr 1
  refine List.countP_congr fun i hi => ?_
  rw [List.mem_range] at hi
  simp only [Function.comp, bt]
  rw [show (64 * w + i) / 64 = w by omega, show (64 * w + i) % 64 = i by omega]
theorem cnt_word (l : List Int) (h : W64 l) (w : Nat) : cnt l (64 * (w + 1)) = cnt l (64 * w) + pc (l.getD w 0).toNat := by
  rw [show 64 * (w + 1) = 64 * w + 64 by omega, cnt_add l w 64 (Nat.le_refl _), Nat.mod_eq_of_lt (h.nat w)]

/-- The members below N, from f on. -/
def memF (l : List Int) (f N : Nat) : List Nat := (List.range N).filter fun i => decide (f ≤ i) && bt l i
abbrev mem (l : List Int) (N : Nat) : List Nat := memF l 0 N
theorem memF_succ (l : List Int) (f i : Nat) : memF l f (i + 1) = memF l f i ++ if (decide (f ≤ i) && bt l i) = true then [i] else [] := by
  unfold memF
  rw [List.range_succ, List.filter_append]
  congr 1
  simp only [List.filter_cons, List.filter_nil]
theorem memF_skip (l : List Int) (f i j : Nat) (hij : i ≤ j) (h : ∀ k, i ≤ k → k < j → bt l k = false) : memF l f j = memF l f i := by
  obtain ⟨d, rfl⟩ := Nat.exists_eq_add_of_le hij
  induction d with
  | zero => rfl
  | succ d ih =>
    rw [show i + (d + 1) = i + d + 1 by omega, memF_succ, h (i + d) (by omega) (by omega)]
    simp
    exact ih (by omega) (fun k h1 h2 => h k h1 (by omega))
theorem mem_len (l : List Int) (N : Nat) : (mem l N).length = cnt l N := by
  unfold mem memF cnt
  rw [List.countP_eq_length_filter]
  simp
theorem mem_iff {l : List Int} {f N i : Nat} : i ∈ memF l f N ↔ f ≤ i ∧ i < N ∧ bt l i = true := by
  unfold memF
  simp [List.mem_filter, List.mem_range]
  constructor
  · rintro ⟨a, b, c⟩; exact ⟨b, a, c⟩
  · rintro ⟨a, b, c⟩; exact ⟨b, a, c⟩
theorem memF_low (l : List Int) (f N : Nat) (h : N ≤ f) : memF l f N = [] := by
  unfold memF
  rw [List.filter_eq_nil_iff]
  intro i hi
  rw [List.mem_range] at hi
  simp; omega
/-- The members are those below f, and those from f on. -/
theorem mem_split (l : List Int) (f N : Nat) (h : f ≤ N) : mem l N = mem l f ++ memF l f N := by
  obtain ⟨d, rfl⟩ := Nat.exists_eq_add_of_le h
  induction d with
  | zero => rw [Nat.add_zero, memF_low l f f (Nat.le_refl _), List.append_nil]
  | succ d ih =>
    have ih := ih (by omega)
    unfold mem at ih ⊢
    rw [show f + (d + 1) = f + d + 1 by omega, memF_succ, memF_succ l f, ih, List.append_assoc]
    simp
theorem cnt_mono {l : List Int} {i j : Nat} (h : i ≤ j) : cnt l i ≤ cnt l j := by
  rw [← mem_len, ← mem_len, mem_split l i j h, List.length_append]; omega
/-- The member of a rank. -/
theorem mem_drop (l : List Int) (f N k : Nat) (h : f ≤ N) : (mem l N)[cnt l f + k]? = (memF l f N)[k]? := by
  rw [mem_split l f N h, List.getElem?_append_right (by rw [mem_len]; omega), mem_len, Nat.add_sub_cancel_left]
theorem mem_rank {l : List Int} {N i : Nat} (hi : i < N) (hb : bt l i = true) : (mem l N)[cnt l i]? = some i := by
  have := mem_drop l i N 0 (by omega)
  rw [Nat.add_zero] at this
  rw [this]
  have h1 := memF_succ l i i
  rw [memF_low l i i (Nat.le_refl _), hb] at h1
  simp at h1
  have h2 : memF l i N = memF l i (i + 1) ++ memF l (i + 1) N := by
    obtain ⟨d, rfl⟩ := Nat.exists_eq_add_of_le (show i + 1 ≤ N by omega)
    clear this hi
    induction d with
    | zero => rw [Nat.add_zero, memF_low l (i + 1) (i + 1) (Nat.le_refl _), List.append_nil]
    | succ d ih =>
      rw [show i + 1 + (d + 1) = i + 1 + d + 1 by omega, memF_succ l i (i + 1 + d), memF_succ l (i + 1) (i + 1 + d), ih, List.append_assoc]
      have a1 : decide (i ≤ i + 1 + d) = true := by simp; omega
      have a2 : decide (i + 1 ≤ i + 1 + d) = true := by simp
      rw [a1, a2]
  rw [h2, h1]
  rfl
theorem mem_nil_f (l : List Int) (N : Nat) : memF l 0 N = (List.range N).filter (bt l) := by
  unfold memF; simp

/-- Is a set right? -/
def RightW (N : Int) (l : List Int) : Prop := 0 ≤ N ∧ N ≤ 65536 ∧ (l.length : Int) = (N + 63) / 64 ∧ (N % 64 = 0 ∨ l.getD (l.length - 1) 0 / 2 ^ (N % 64).toNat = 0)
instance (N : Int) (l : List Int) : Decidable (RightW N l) := by unfold RightW; exact inferInstance
theorem top_zero {x : Int} (h : 0 ≤ x) (m : Nat) : x / 2 ^ m = 0 ↔ ∀ j, m ≤ j → x.toNat.testBit j = false := by
  obtain ⟨n, rfl⟩ : ∃ n : Nat, x = (n : Int) := ⟨x.toNat, by omega⟩
  have e : ((n : Int) / 2 ^ m) = ((n / 2 ^ m : Nat) : Int) := by push_cast; rfl
  rw [e, Int.toNat_natCast]
  constructor
  · intro h0 j hj
    have h1 : n / 2 ^ m = 0 := by exact_mod_cast h0
    have h2 : n < 2 ^ m := by
      rcases Nat.div_eq_zero_iff.1 h1 with h3 | h3
      · have := Nat.two_pow_pos m; omega
      · exact h3
    exact Nat.testBit_lt_two_pow (Nat.lt_of_lt_of_le h2 (Nat.pow_le_pow_right (by decide) hj))
  · intro h0
    have h1 : n < 2 ^ m := Nat.lt_pow_two_of_testBit n (fun j hj => h0 j hj)
    rw [Nat.div_eq_of_lt h1]
    rfl
theorem RightW.bits {N : Int} {l : List Int} (hw : W64 l) (h : RightW N l) : ∀ i : Nat, N ≤ i → bt l i = false := by
  obtain ⟨h0, h1, h2, h3⟩ := h
  intro i hi
  by_cases hb : 64 * l.length ≤ i
  · exact bt_big hb
  · have hlen : l.length - 1 = i / 64 := by omega
    rcases h3 with h3 | h3
    · omega
    · rw [hlen] at h3
      exact (top_zero (hw.at_ _).1 _).1 h3 _ (by omega)
theorem RightW.of_bits {N : Int} {l : List Int} (hw : W64 l) (h0 : 0 ≤ N) (h1 : N ≤ 65536) (h2 : (l.length : Int) = (N + 63) / 64) (h : ∀ i : Nat, N ≤ i → i < 64 * l.length → bt l i = false) : RightW N l := by
  refine ⟨h0, h1, h2, ?_⟩
  by_cases hm : N % 64 = 0
  · exact .inl hm
  · refine .inr ((top_zero (hw.at_ _).1 _).2 fun j hj => ?_)
    by_cases h64 : j < 64
    · have := h (64 * (l.length - 1) + j) (by omega) (by omega)
      unfold bt at this
      rw [show (64 * (l.length - 1) + j) / 64 = l.length - 1 by omega, show (64 * (l.length - 1) + j) % 64 = j by omega] at this
      exact this
    · have e : (2 : Nat) ^ 64 ≤ 2 ^ j := Nat.pow_le_pow_right (by decide) (by omega)
      exact Nat.testBit_lt_two_pow (Nat.lt_of_lt_of_le (hw.nat _) e)
end Go.Proofs.Ytemhoaleeefhhaa
