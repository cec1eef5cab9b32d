/- Floats that are whole numbers (or so many halves): what IEEE's operations give is exact. No program is named here. -/
import Derived.Laws.FloatArith
import Derived.Laws.FloatBits
namespace Go.Proofs.Ythidfmkmklnhhaa
open Ieee

theorem pow2_pos (n : Nat) : (0 : Int) < 2 ^ n := Int.pow_pos (by decide)
/-- x * 2 ^ e = a, e of any sign. -/
def R (x e a : Int) : Prop := ∀ p q : Nat, (p : Int) - q = e → x * 2 ^ p = a * 2 ^ q
theorem R.of {x e a : Int} (p q : Nat) (h : (p : Int) - q = e) (h1 : x * 2 ^ p = a * 2 ^ q) : R x e a := fun p' q' h' => by
  have e1 : p' + q = p + q' := by omega
  have h2 : x * 2 ^ p' * 2 ^ q = a * 2 ^ q' * 2 ^ q := by
    rw [Int.mul_assoc, ← Int.pow_add, e1, Int.pow_add, ← Int.mul_assoc, h1, Int.mul_assoc, Int.mul_comm (2 ^ q), ← Int.mul_assoc]
  exact Int.eq_of_mul_eq_mul_right (Int.ne_of_gt (pow2_pos q)) h2
theorem R.self (a : Int) : R a 0 a := .of 0 0 rfl rfl
theorem R.shift {x e a : Int} (h : R x e a) (d : Nat) : R (x * 2 ^ d) (e - d) a := fun p q hpq => by
  rw [Int.mul_assoc, ← Int.pow_add]; exact h _ _ (by omega)
theorem R.add {x y e a b : Int} (h : R x e a) (k : R y e b) : R (x + y) e (a + b) := fun p q hpq => by
  rw [Int.add_mul, Int.add_mul, h p q hpq, k p q hpq]
theorem R.neg {x e a : Int} (h : R x e a) : R (-x) e (-a) := fun p q hpq => by
  rw [Int.neg_mul, Int.neg_mul, h p q hpq]
theorem R.mul {x y e f a b : Int} (h : R x e a) (k : R y f b) : R (x * y) (e + f) (a * b) := by
  obtain ⟨p, q, hpq⟩ : ∃ p q : Nat, (p : Int) - q = e := ⟨e.toNat, (-e).toNat, by omega⟩
  obtain ⟨p', q', hpq'⟩ : ∃ p q : Nat, (p : Int) - q = f := ⟨f.toNat, (-f).toNat, by omega⟩
  refine .of (p + p') (q + q') (by omega) ?_
  have h1 := h p q hpq
  have h2 := k p' q' hpq'
  rw [Int.pow_add, Int.pow_add]
  calc x * y * (2 ^ p * 2 ^ p') = (x * 2 ^ p) * (y * 2 ^ p') := by ac_rfl
    _ = (a * 2 ^ q) * (b * 2 ^ q') := by rw [h1, h2]
    _ = a * b * (2 ^ q * 2 ^ q') := by ac_rfl
theorem ex_pq (e : Int) : ∃ p q : Nat, (p : Int) - q = e := ⟨e.toNat, (-e).toNat, by omega⟩
theorem R.inj {x y e a : Int} (h : R x e a) (k : R y e a) : x = y := by
  obtain ⟨p, q, hpq⟩ := ex_pq e
  have := (h p q hpq).trans (k p q hpq).symm
  exact Int.eq_of_mul_eq_mul_right (Int.ne_of_gt (pow2_pos p)) this
theorem R.lt {x y e a b : Int} (h : R x e a) (k : R y e b) : x < y ↔ a < b := by
  obtain ⟨p, q, hpq⟩ := ex_pq e
  have h1 := h p q hpq
  have h2 := k p q hpq
  constructor
  · intro hl
    have := Int.mul_lt_mul_of_pos_right hl (pow2_pos p)
    rw [h1, h2] at this
    exact Int.lt_of_mul_lt_mul_right this (Int.le_of_lt (pow2_pos q))
  · intro hl
    have := Int.mul_lt_mul_of_pos_right hl (pow2_pos q)
    rw [← h1, ← h2] at this
    exact Int.lt_of_mul_lt_mul_right this (Int.le_of_lt (pow2_pos p))
theorem R.eq_iff {x y e a b : Int} (h : R x e a) (k : R y e b) : x = y ↔ a = b := by
  have h1 := R.lt h k
  have h2 := R.lt k h
  omega
theorem R.zero {e a : Int} (h : R 0 e a) : a = 0 := by
  obtain ⟨p, q, hpq⟩ := ex_pq e
  have := h p q hpq
  rw [Int.zero_mul] at this
  rcases Int.mul_eq_zero.1 this.symm with h | h
  · exact h
  · have := pow2_pos q; omega

def sg (s : Bool) (m : Nat) : Int := if s then -(m : Int) else m
theorem sg_natAbs (s : Bool) (m : Nat) : (sg s m).natAbs = m := by unfold sg; split <;> simp
theorem signed_eq (s : Bool) (m up : Nat) : signed s m up = sg s m * 2 ^ up := by
  unfold signed sg
  rw [Nat.shiftLeft_eq]
  split <;> simp [Int.neg_mul]
theorem sg_mul (s t : Bool) (m n : Nat) : sg (s ^^ t) (m * n) = sg s m * sg t n := by
  cases s <;> cases t <;> simp [sg, Int.neg_mul, Int.mul_neg]
theorem sg_of (x : Int) (s : Bool) (h : x = 0 ∨ s = decide (x < 0)) : sg s x.natAbs = x := by
  unfold sg
  rcases h with h | h
  · subst h; simp
  · subst h
    by_cases hx : x < 0
    · simp [hx]; omega
    · simp [hx]; omega

/-- The datum is the number a / 2 ^ k. -/
def IsQ (d : Datum) (k : Nat) (a : Int) : Prop := ∃ s m e, d = .number s m e ∧ R (sg s m) (e + k) a

theorem two_pow_log2 {A : Nat} (hA : A ≠ 0) : 2 ^ A.log2 ≤ A ∧ A < 2 ^ (A.log2 + 1) := ⟨Nat.log2_self_le hA, Nat.lt_log2_self⟩
theorem log2_mul_pow {A : Nat} (hA : A ≠ 0) (q : Nat) : (A * 2 ^ q).log2 = A.log2 + q := by
  obtain ⟨h1, h2⟩ := two_pow_log2 hA
  refine (Nat.log2_eq_iff (by have := Nat.two_pow_pos q; exact Nat.mul_ne_zero hA (by omega))).2 ⟨?_, ?_⟩
  · rw [Nat.pow_add]; exact Nat.mul_le_mul_right _ h1
  · rw [show A.log2 + q + 1 = (A.log2 + 1) + q by omega, Nat.pow_add]; exact Nat.mul_lt_mul_of_pos_right h2 (Nat.two_pow_pos q)

theorem cut0 (s : Bool) (n : Nat) : Toward.even.cut s n 0 = n := by
  simp [Toward.cut, Nat.mod_one]
theorem cut_exact (way : Toward) (s : Bool) (K d : Nat) (hK : K ≠ 0) : way.cut s (K * 2 ^ d) d = K := by
  have h : (K * 2 ^ d).log2 = K.log2 + d := log2_mul_pow hK d
  have hp := Nat.two_pow_pos d
  have e1 : 1 <<< min d ((K * 2 ^ d).log2 + 2) = 2 ^ d := by rw [h, Nat.min_eq_left (by omega), Nat.shiftLeft_eq, Nat.one_mul]
  simp only [Toward.cut, e1, Nat.mul_div_cancel _ hp, Nat.mul_mod_left]
  cases way <;> simp <;> omega

theorem sign_of {s : Bool} {m p q A : Nat} {a : Int} (hA : a.natAbs = A) (h1 : sg s m * 2 ^ p = a * 2 ^ q) : sg s A = a := by
  have hp := pow2_pos p
  have hq := pow2_pos q
  generalize (2 : Int) ^ p = x at *
  generalize (2 : Int) ^ q = y at *
  unfold sg at h1 ⊢
  cases s
  · simp only [Bool.false_eq_true, if_false] at h1 ⊢
    have h2 : (0 : Int) ≤ (m : Int) * x := Int.mul_nonneg (by omega) (Int.le_of_lt hp)
    have h3 : 0 ≤ a := by
      rcases Int.lt_or_le a 0 with h' | h'
      · have := Int.mul_neg_of_neg_of_pos h' hq; omega
      · exact h'
    omega
  · simp only [if_true] at h1 ⊢
    have h2 : (0 : Int) ≤ (m : Int) * x := Int.mul_nonneg (by omega) (Int.le_of_lt hp)
    rw [Int.neg_mul] at h1
    have h3 : a ≤ 0 := by
      rcases Int.lt_or_le 0 a with h' | h'
      · have := Int.mul_pos h' hq; omega
      · exact h'
    omega
theorem rung_lt {L K : Nat} (hL : L ≤ 1100) (hK : K < 9007199254740992) : L * 4503599627370496 + K < 9223372036854775808 := by omega
theorem rung_lt2 {L K : Nat} (hL : L ≤ 1100) (hK : K < 9007199254740992) : L * 4503599627370496 + K < 9218868437227405312 := by omega
theorem rung_ne {L K : Nat} (hK : 4503599627370496 ≤ K) : ¬ L * 4503599627370496 + K < 4503599627370496 := by omega
theorem rung_div {K : Nat} (hK1 : 4503599627370496 ≤ K) (hK2 : K < 9007199254740992) (L : Nat) : 4503599627370496 + (L * 4503599627370496 + K) % 4503599627370496 = K ∧ (L * 4503599627370496 + K) / 4503599627370496 - 1 = L := by omega
theorem cut_none (way : Toward) (s : Bool) (x : Nat) : way.cut s x 0 = x := by
  by_cases h : x = 0
  · subst h; cases way <;> simp [Toward.cut]
  · have := cut_exact way s x 0 h
    rwa [Nat.pow_zero, Nat.mul_one] at this

set_option maxHeartbeats 1600000 in
theorem write_exact {s : Bool} {m : Nat} {e : Int} {k : Nat} {a : Int} (hk : k ≤ 900) (ha : a.natAbs ≤ 9007199254740992) (h : R (sg s m) (e + k) a) : IsQ (double.read (double.write (.number s m e))) k a := by
  have hw : ∀ rung, rung < 9223372036854775808 → double.word s rung / 9223372036854775808 % 2 = (if s then 1 else 0) ∧ double.word s rung % 9223372036854775808 = rung := by
    intro rung hr
    have e1 : double.signWeight = 9223372036854775808 := by decide
    unfold Format.word
    rw [e1]
    cases s <;> simp <;> omega
  have hsw : double.signWeight = 9223372036854775808 := by decide
  have hbi : double.binade = 4503599627370496 := by decide
  have hinf : double.infRung = 9218868437227405312 := by decide
  have hlp : double.leastPlace = -1074 := by decide
  have hfb : double.fractionBits = 52 := rfl
  by_cases hm : m = 0
  · subst hm
    have hs0 : sg s 0 = 0 := by unfold sg; split <;> rfl
    have h0 : a = 0 := by rw [hs0] at h; exact h.zero
    subst h0
    have e1 : double.write (.number s 0 e) = double.word s 0 := by simp [Format.write, Format.nearest]
    obtain ⟨w1, w2⟩ := hw 0 (by decide)
    refine ⟨s, 0, -1074, ?_, ?_⟩
    · rw [e1]
      unfold Format.read
      rw [hsw, w1, w2, hbi, hlp]
      cases s <;> simp
    · have : sg s 0 = 0 := by unfold sg; split <;> rfl
      rw [this]
      exact fun p q _ => by rw [Int.zero_mul, Int.zero_mul]
  · obtain ⟨p, q, hpq⟩ := ex_pq (e + k)
    have hA0 : a.natAbs ≠ 0 := by
      intro h0
      have h0 : a = 0 := by omega
      have h1 := h p q hpq
      rw [h0, Int.zero_mul] at h1
      rcases Int.mul_eq_zero.1 h1 with h2 | h2
      · have := sg_natAbs s m; rw [h2] at this; exact hm (by simpa using this.symm)
      · have := pow2_pos p; omega
    -- in amounts
    have habs : m * 2 ^ p = a.natAbs * 2 ^ q := by
      have h1 := congrArg Int.natAbs (h p q hpq)
      rw [Int.natAbs_mul, Int.natAbs_mul, sg_natAbs, Int.natAbs_pow, Int.natAbs_pow] at h1
      exact h1
    obtain ⟨A, hA⟩ : ∃ A, a.natAbs = A := ⟨_, rfl⟩
    rw [hA] at ha hA0 habs
    have hlog : m.log2 + p = A.log2 + q := by
      have := congrArg Nat.log2 habs
      rwa [log2_mul_pow hm, log2_mul_pow hA0] at this
    have hlA : A.log2 ≤ 53 := by
      rcases Nat.lt_or_ge 53 A.log2 with h' | h'
      · have h1 := (two_pow_log2 hA0).1
        have h2 : 2 ^ 54 ≤ 2 ^ A.log2 := Nat.pow_le_pow_right (by decide) h'
        have h3 : (2 : Nat) ^ 54 = 18014398509481984 := by decide
        omega
      · exact h'
    -- what is kept
    obtain ⟨K, hK, hK1, hK2⟩ : ∃ K : Nat, R (K : Int) ((A.log2 : Int) - 52) (A : Int) ∧ 4503599627370496 ≤ K ∧ K < 9007199254740992 := by
      obtain ⟨b1, b2⟩ := two_pow_log2 hA0
      by_cases h53 : A.log2 = 53
      · have h3 : (2 : Nat) ^ 53 = 9007199254740992 := by decide
        have : A = 9007199254740992 := by rw [h53, h3] at b1; omega
        refine ⟨4503599627370496, .of 1 0 (by rw [h53]; rfl) (by subst this; decide), by decide, by decide⟩
      · have hle : A.log2 ≤ 52 := by omega
        have e3 : 2 ^ A.log2 * 2 ^ (52 - A.log2) = 4503599627370496 := by rw [← Nat.pow_add, show A.log2 + (52 - A.log2) = 52 by omega]
        have e4 : 2 ^ (A.log2 + 1) * 2 ^ (52 - A.log2) = 9007199254740992 := by rw [← Nat.pow_add, show A.log2 + 1 + (52 - A.log2) = 53 by omega]
        refine ⟨A * 2 ^ (52 - A.log2), ?_, ?_, ?_⟩
        · have := (R.self (A : Int)).shift (52 - A.log2)
          rw [show ((A * 2 ^ (52 - A.log2) : Nat) : Int) = (A : Int) * 2 ^ (52 - A.log2) by push_cast; rfl]
          rwa [show (0 : Int) - ((52 - A.log2 : Nat) : Int) = (A.log2 : Int) - 52 by omega] at this
        · rw [← e3]; exact Nat.mul_le_mul_right _ b1
        · rw [← e4]; exact Nat.mul_lt_mul_of_pos_right b2 (Nat.two_pow_pos _)
    have hR : R (m : Int) (e + k) (A : Int) := .of p q hpq (by exact_mod_cast habs)
    obtain ⟨last, hlast⟩ : ∃ last : Int, last = (A.log2 : Int) - k - 52 := ⟨_, rfl⟩
    have hl1 : e + (m.log2 : Int) - 52 = last := by omega
    have hl2 : max (e + (m.log2 : Int) - (52 : Nat)) (-1074) = last := by rw [Int.max_def]; split <;> omega
    rw [show (A.log2 : Int) - 52 = last + k by omega] at hK
    have hkept : Toward.even.cut s (m <<< (e - last).toNat) (last - e).toNat = K := by
      by_cases hle : last ≤ e
      · rw [show (last - e).toNat = 0 by omega, cut0, Nat.shiftLeft_eq]
        have h1 := hR.shift (e - last).toNat
        rw [show e + (k : Int) - ((e - last).toNat : Int) = last + k by omega] at h1
        have := h1.inj hK
        exact_mod_cast this
      · rw [show (e - last).toNat = 0 by omega, Nat.shiftLeft_zero]
        have h1 := hK.shift (last - e).toNat
        rw [show last + (k : Int) - ((last - e).toNat : Int) = e + k by omega] at h1
        have h2 : m = K * 2 ^ (last - e).toNat := by have := hR.inj h1; exact_mod_cast this
        rw [h2]
        exact cut_exact _ _ _ _ (by omega)
    obtain ⟨L, hL⟩ : ∃ L : Nat, (last + 1074).toNat = L := ⟨_, rfl⟩
    have hL2 : (last : Int) = (L : Int) - 1074 := by omega
    have hL3 : L ≤ 1100 := by omega
    have hrung : min ((last - -1074).toNat * 4503599627370496 + K) 9218868437227405312 = L * 4503599627370496 + K := by
      rw [show (last - -1074).toNat = L by omega]
      exact Nat.min_eq_left (by omega)
    have e1 : double.write (.number s m e) = double.word s (L * 4503599627370496 + K) := by
      simp only [Format.write, Format.nearest]
      rw [if_neg hm, hfb, hlp, hl2, hkept, hbi, hinf, hrung]
    obtain ⟨w1, w2⟩ := hw (L * 4503599627370496 + K) (rung_lt hL3 hK2)
    refine ⟨s, K, last, ?_, ?_⟩
    · rw [e1]
      unfold Format.read
      rw [hsw, w1, w2, hbi, hlp, hinf]
      have hd := rung_div hK1 hK2 L
      rw [if_neg (rung_ne hK1), if_pos (rung_lt2 hL3 hK2)]
      have e2 : 4503599627370496 + (L * 4503599627370496 + K) % 4503599627370496 = K := hd.1
      have e3 : (-1074 : Int) + (((L * 4503599627370496 + K) / 4503599627370496 - 1 : Nat) : Int) = last := by rw [hd.2, hL2]; omega
      rw [e2, e3]
      cases s <;> simp
    · -- the sign
      have hsa : sg s A = a := sign_of hA (h p q hpq)
      rw [← hsa]
      unfold sg
      cases s
      · exact hK
      · exact hK.neg

theorem w_lt (d : Datum) : double.write d < 18446744073709551616 := double.write_lt d
/-- The bits b are the number a / 2 ^ k. -/
def FQ (b : Nat) (k : Nat) (a : Int) : Prop := b < 18446744073709551616 ∧ IsQ (double.read b) k a
/-- The bits b are the whole number a. -/
abbrev FI (b : Nat) (a : Int) : Prop := FQ b 0 a

theorem IsQ.sum {x y : Datum} {k : Nat} {a b : Int} (hx : IsQ x k a) (hy : IsQ y k b) : ∃ s m e, x.sum y = some (.number s m e) ∧ R (sg s m) (e + k) (a + b) := by
  obtain ⟨s, m, i, rfl, h1⟩ := hx
  obtain ⟨t, n, j, rfl, h2⟩ := hy
  refine ⟨_, _, _, rfl, ?_⟩
  have g1 := h1.shift (i - min i j).toNat
  have g2 := h2.shift (j - min i j).toNat
  rw [show i + (k : Int) - ((i - min i j).toNat : Int) = min i j + k by omega] at g1
  rw [show j + (k : Int) - ((j - min i j).toNat : Int) = min i j + k by omega] at g2
  have g := g1.add g2
  rw [← signed_eq, ← signed_eq] at g
  rw [sg_of]
  · exact g
  · by_cases h0 : signed s m (i - min i j).toNat + signed t n (j - min i j).toNat = 0
    · exact .inl h0
    · exact .inr (by rw [if_neg h0])
theorem IsQ.opposite {x : Datum} {k : Nat} {a : Int} (h : IsQ x k a) : IsQ x.opposite k (-a) := by
  obtain ⟨s, m, i, rfl, h1⟩ := h
  refine ⟨!s, m, i, rfl, ?_⟩
  have : sg (!s) m = -sg s m := by cases s <;> simp [sg]
  rw [this]
  exact h1.neg
theorem IsQ.product {x y : Datum} {k l : Nat} {a b : Int} (hx : IsQ x k a) (hy : IsQ y l b) : ∃ s m e, x.product y = some (.number s m e) ∧ R (sg s m) (e + (k + l : Nat)) (a * b) := by
  obtain ⟨s, m, i, rfl, h1⟩ := hx
  obtain ⟨t, n, j, rfl, h2⟩ := hy
  refine ⟨_, _, _, rfl, ?_⟩
  rw [sg_mul]
  have := h1.mul h2
  rwa [show i + (k : Int) + (j + (l : Int)) = i + j + ((k + l : Nat) : Int) by omega] at this

theorem FQ.add {x y k : Nat} {a b : Int} (hx : FQ x k a) (hy : FQ y k b) (hk : k ≤ 900) (h : (a + b).natAbs ≤ 9007199254740992) : ∃ r, double.add x y = some r ∧ FQ r k (a + b) := by
  obtain ⟨s, m, e, h1, h2⟩ := IsQ.sum hx.2 hy.2
  exact ⟨_, by unfold Format.add; rw [h1]; rfl, w_lt _, write_exact hk h h2⟩
theorem FQ.sub {x y k : Nat} {a b : Int} (hx : FQ x k a) (hy : FQ y k b) (hk : k ≤ 900) (h : (a - b).natAbs ≤ 9007199254740992) : ∃ r, double.sub x y = some r ∧ FQ r k (a - b) := by
  obtain ⟨s, m, e, h1, h2⟩ := IsQ.sum hx.2 (IsQ.opposite hy.2)
  exact ⟨_, by unfold Format.sub; rw [h1]; rfl, w_lt _, write_exact hk h h2⟩
theorem FQ.mul {x y k l : Nat} {a b : Int} (hx : FQ x k a) (hy : FQ y l b) (hk : k + l ≤ 900) (h : (a * b).natAbs ≤ 9007199254740992) : ∃ r, double.mul x y = some r ∧ FQ r (k + l) (a * b) := by
  obtain ⟨s, m, e, h1, h2⟩ := IsQ.product hx.2 hy.2
  exact ⟨_, by unfold Format.mul; rw [h1]; rfl, w_lt _, write_exact hk h h2⟩
theorem FQ.order {x y k : Nat} {a b : Int} (hx : FQ x k a) (hy : FQ y k b) : double.order x y = some (compare a b) := by
  obtain ⟨-, s, m, i, e1, h1⟩ := hx
  obtain ⟨-, t, n, j, e2, h2⟩ := hy
  unfold Format.order
  rw [e1, e2]
  have g1 := h1.shift (i - min i j).toNat
  have g2 := h2.shift (j - min i j).toNat
  rw [show i + (k : Int) - ((i - min i j).toNat : Int) = min i j + k by omega] at g1
  rw [show j + (k : Int) - ((j - min i j).toNat : Int) = min i j + k by omega] at g2
  rw [← signed_eq] at g1 g2
  have hl := g1.lt g2
  have he := g1.eq_iff g2
  show some (compare (signed s m (i - min i j).toNat) (signed t n (j - min i j).toNat)) = _
  congr 1
  show compareOfLessAndEq _ _ = compareOfLessAndEq _ _
  unfold compareOfLessAndEq
  simp only [hl, he]
theorem FI.ofInt {n : Int} (h : n.natAbs ≤ 9007199254740992) : FI (floatOfInt .f64 n) n := by
  refine ⟨show double.write (.number (n < 0) n.natAbs 0) < _ from w_lt _, write_exact (s := n < 0) (m := n.natAbs) (e := 0) (k := 0) (by decide) h ?_⟩
  rw [sg_of _ _ (.inr rfl)]
  exact R.self n
theorem FI.toInt {b : Nat} {n : Int} (h : FI b n) (way : Toward) : (double.read b).toInt way = some n := by
  obtain ⟨-, s, m, e, h1, h2⟩ := h
  rw [h1]
  rw [show e + ((0 : Nat) : Int) = e by omega] at h2
  unfold Datum.toInt Datum.integral
  simp only []
  congr 1
  rw [signed_eq, Int.pow_zero, Int.mul_one]
  by_cases he : 0 ≤ e
  · rw [show (-e).toNat = 0 by omega]
    have h3 := h2 e.toNat 0 (by omega)
    rw [Int.pow_zero, Int.mul_one] at h3
    have : ∀ x, way.cut s x 0 = x := fun x => cut_none way s x
    rw [this, Nat.shiftLeft_eq, ← h3]
    unfold sg
    split <;> simp [Int.neg_mul]
  · have h3 := h2 0 (-e).toNat (by omega)
    rw [Int.pow_zero, Int.mul_one] at h3
    rw [show e.toNat = 0 by omega, Nat.shiftLeft_zero]
    have h4 : m = n.natAbs * 2 ^ (-e).toNat := by
      have := congrArg Int.natAbs h3
      rw [sg_natAbs, Int.natAbs_mul, Int.natAbs_pow] at this
      exact this
    by_cases h0 : n = 0
    · subst h0
      simp at h4
      subst h4
      have : way.cut s 0 (-e).toNat = 0 := by cases way <;> simp [Toward.cut]
      rw [this]
      unfold sg; split <;> rfl
    · rw [h4, cut_exact _ _ _ _ (by omega)]
      have hp := pow2_pos (-e).toNat
      unfold sg at h3 ⊢
      cases s
      · simp only [Bool.false_eq_true, if_false] at h3 ⊢
        have : 0 ≤ n := by
          rcases Int.lt_or_le n 0 with h' | h'
          · have := Int.mul_neg_of_neg_of_pos h' hp; omega
          · exact h'
        omega
      · simp only [if_true] at h3 ⊢
        have : n ≤ 0 := by
          rcases Int.lt_or_le 0 n with h' | h'
          · have := Int.mul_pos h' hp; omega
          · exact h'
        omega
theorem FI.trunc {b : Nat} {n : Int} (h : FI b n) (hn : n.natAbs ≤ 9007199254740992) : FI (double.write ((double.read b).integral .zero)) n := by
  have h3 := FI.toInt h .zero
  obtain ⟨-, s, m, e, h1, h2⟩ := h
  rw [h1] at h3 ⊢
  unfold Datum.toInt at h3
  unfold Datum.integral at h3 ⊢
  simp only [Option.some.injEq] at h3
  refine ⟨w_lt _, write_exact (k := 0) (by decide) hn ?_⟩
  rw [signed_eq] at h3
  exact .of 0 0 rfl (by rw [h3]; simp)
theorem read_abs {x : Nat} {s : Bool} {m : Nat} {e : Int} (h : double.read x = .number s m e) : double.read (x % 9223372036854775808) = .number false m e := by
  have hsw : double.signWeight = 9223372036854775808 := by decide
  unfold Format.read at h ⊢
  rw [hsw] at h ⊢
  rw [Nat.mod_mod, show x % 9223372036854775808 / 9223372036854775808 % 2 = 0 by omega]
  generalize x % 9223372036854775808 = r at h ⊢
  generalize (x / 9223372036854775808 % 2 == 1) = t at h
  simp only [] at h ⊢
  by_cases h1 : r < double.binade
  · rw [if_pos h1] at h ⊢
    cases h; rfl
  · rw [if_neg h1] at h ⊢
    by_cases h2 : r < double.infRung
    · rw [if_pos h2] at h ⊢
      cases h; rfl
    · rw [if_neg h2] at h ⊢
      split at h <;> cases h
theorem FI.abs {b : Nat} {n : Int} (h : FI b n) : FI (b % 9223372036854775808) (n.natAbs : Int) := by
  obtain ⟨-, s, m, e, h1, h2⟩ := h
  refine ⟨by omega, false, m, e, read_abs h1, ?_⟩
  have h0 : R (m : Int) (e + ((0 : Nat) : Int)) (n.natAbs : Int) := fun p q hpq => by
    have h3 := congrArg Int.natAbs (h2 p q hpq)
    rw [Int.natAbs_mul, Int.natAbs_mul, sg_natAbs, Int.natAbs_pow, Int.natAbs_pow] at h3
    exact_mod_cast h3
  exact h0
end Go.Proofs.Ythidfmkmklnhhaa
