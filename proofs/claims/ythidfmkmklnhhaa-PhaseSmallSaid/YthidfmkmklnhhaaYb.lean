/- Complex numbers with whole parts: sums, products and comparisons are exact. No program is named here. -/
import Derived.Laws.ComplexArith
import Derived.Test.YthidfmkmklnhhaaYa
namespace Go.Proofs.Ythidfmkmklnhhaa
open Ieee Go.Op

theorem FI.eq {x y : Nat} {a b : Int} (hx : FI x a) (hy : FI y b) : floatEq .f64 x y = decide (a = b) := by
  unfold floatEq
  rw [show FloatKind.f64.format.order x y = some (compare a b) from FQ.order hx hy]
  show (some (compareOfLessAndEq a b) == some Ordering.eq) = _
  unfold compareOfLessAndEq
  by_cases h : a = b
  · subst h; simp
  · rw [decide_eq_false h]
    split
    · rfl
    · rfl
theorem fi0 : FI 0 0 := by
  have h := FI.ofInt (n := 0) (by decide)
  rwa [show floatOfInt .f64 0 = 0 from by decide] at h
theorem fi1 : FI 4607182418800017408 1 := by
  have h := FI.ofInt (n := 1) (by decide)
  rwa [show floatOfInt .f64 1 = 4607182418800017408 from by decide] at h
theorem fim : FI 13830554455654793216 (-1) := by
  have h := FI.ofInt (n := -1) (by decide)
  rwa [show floatOfInt .f64 (-1) = 13830554455654793216 from by decide] at h

theorem cadd_fi {x y u v : Nat} {a b c d : Int} (hx : FI x a) (hy : FI y b) (hu : FI u c) (hv : FI v d) (h1 : (a + c).natAbs ≤ 9007199254740992) (h2 : (b + d).natAbs ≤ 9007199254740992) :
    ∃ p q, cSumBits .add .f64 x y u v = some (p, q) ∧ FI p (a + c) ∧ FI q (b + d) := by
  obtain ⟨p, e1, f1⟩ := FQ.add hx hu (by decide) h1
  obtain ⟨q, e2, f2⟩ := FQ.add hy hv (by decide) h2
  refine ⟨p, q, ?_, f1, f2⟩
  show (double.add x u).bind (fun re => (double.add y v).bind fun im => some (re, im)) = _
  rw [e1, e2]; rfl
theorem cmul_fi {x y u v : Nat} {a b c d : Int} (hx : FI x a) (hy : FI y b) (hu : FI u c) (hv : FI v d)
    (h1 : (a * c).natAbs ≤ 4503599627370496) (h2 : (b * d).natAbs ≤ 4503599627370496) (h3 : (a * d).natAbs ≤ 4503599627370496) (h4 : (b * c).natAbs ≤ 4503599627370496) :
    ∃ p q, cMulBits x y u v = some (p, q) ∧ FI p (a * c - b * d) ∧ FI q (a * d + b * c) := by
  obtain ⟨ac, e1, f1⟩ := FQ.mul hx hu (by decide) (by omega)
  obtain ⟨bd, e2, f2⟩ := FQ.mul hy hv (by decide) (by omega)
  obtain ⟨re, e3, f3⟩ := FQ.sub f1 f2 (by decide) (by omega)
  obtain ⟨ad, e4, f4⟩ := FQ.mul hx hv (by decide) (by omega)
  obtain ⟨bc, e5, f5⟩ := FQ.mul hy hu (by decide) (by omega)
  obtain ⟨im, e6, f6⟩ := FQ.add f4 f5 (by decide) (by omega)
  refine ⟨re, im, ?_, f3, f6⟩
  show (double.mul x u).bind (fun ac => (double.mul y v).bind fun bd => (double.sub ac bd).bind fun re => (double.mul x v).bind fun ad => (double.mul y u).bind fun bc => (double.add ad bc).bind fun im => some (re, im)) = _
  rw [e1, e2]
  show (double.sub ac bd).bind (fun re => (double.mul x v).bind fun ad => (double.mul y u).bind fun bc => (double.add ad bc).bind fun im => some (re, im)) = _
  rw [e3, e4, e5]
  show (double.add ad bc).bind (fun im => some (re, im)) = _
  rw [e6]; rfl

/-- The powers of i. -/
def rre (r : Nat) : Nat := if r = 0 then 4607182418800017408 else if r = 2 then 13830554455654793216 else 0
def rim (r : Nat) : Nat := if r = 1 then 4607182418800017408 else if r = 3 then 13830554455654793216 else 0
def uRe (r : Nat) : Int := if r = 0 then 1 else if r = 2 then -1 else 0
def uIm (r : Nat) : Int := if r = 1 then 1 else if r = 3 then -1 else 0
theorem rre_fi (r : Nat) : FI (rre r) (uRe r) := by
  unfold rre uRe
  split
  · exact fi1
  · split
    · exact fim
    · exact fi0
theorem rim_fi (r : Nat) : FI (rim r) (uIm r) := by
  unfold rim uIm
  split
  · exact fi1
  · split
    · exact fim
    · exact fi0
def tRe (r : Nat) (a b : Int) : Int := a * uRe r - b * uIm r
def tIm (r : Nat) (a b : Int) : Int := a * uIm r + b * uRe r
theorem unit_le (r : Nat) (a : Int) : (a * uRe r).natAbs ≤ a.natAbs ∧ (a * uIm r).natAbs ≤ a.natAbs := by
  unfold uRe uIm
  constructor
  · split
    · omega
    · split <;> omega
  · split
    · omega
    · split <;> omega
theorem cmul_rt {x y : Nat} {a b : Int} (r : Nat) (hx : FI x a) (hy : FI y b) (ha : a.natAbs ≤ 4503599627370496) (hb : b.natAbs ≤ 4503599627370496) : ∃ p q, cMulBits x y (rre r) (rim r) = some (p, q) ∧ FI p (tRe r a b) ∧ FI q (tIm r a b) := by
  have h1 := unit_le r a
  have h2 := unit_le r b
  exact cmul_fi hx hy (rre_fi r) (rim_fi r) (by omega) (by omega) (by omega) (by omega)

/-- The class sums of the first m elements. -/
def cs (l : List Int) : Nat → Nat → Int
  | 0, _ => 0
  | m + 1, r => cs l m r + if m % 4 = r then l.getD m 0 else 0
/-- The four numbers of class sums. -/
def dR (j : Nat) (c : Nat → Int) : Int := tRe 0 (c 0) 0 + tRe (j * 1 % 4) (c 1) 0 + tRe (j * 2 % 4) (c 2) 0 + tRe (j * 3 % 4) (c 3) 0
def dI (j : Nat) (c : Nat → Int) : Int := tIm 0 (c 0) 0 + tIm (j * 1 % 4) (c 1) 0 + tIm (j * 2 % 4) (c 2) 0 + tIm (j * 3 % 4) (c 3) 0
theorem t_add (r : Nat) (a b : Int) : tRe r (a + b) 0 = tRe r a 0 + tRe r b 0 ∧ tIm r (a + b) 0 = tIm r a 0 + tIm r b 0 := by
  unfold tRe tIm
  simp only [Int.add_mul, Int.zero_mul]
  omega
theorem t_zero (r : Nat) : tRe r 0 0 = 0 ∧ tIm r 0 0 = 0 := by unfold tRe tIm; simp
theorem dR_step (j m : Nat) (l : List Int) (hj : j < 4) : dR j (cs l (m + 1)) = dR j (cs l m) + tRe (j * (m % 4) % 4) (l.getD m 0) 0 ∧ dI j (cs l (m + 1)) = dI j (cs l m) + tIm (j * (m % 4) % 4) (l.getD m 0) 0 := by
  generalize hx : l.getD m 0 = x
  have hc : ∀ r, cs l (m + 1) r = cs l m r + if m % 4 = r then x else 0 := fun r => by rw [← hx]; rfl
  unfold dR dI
  simp only [hc]
  have h4 : m % 4 < 4 := Nat.mod_lt _ (by decide)
  have z0 := t_zero
  rcases (show m % 4 = 0 ∨ m % 4 = 1 ∨ m % 4 = 2 ∨ m % 4 = 3 by omega) with h | h | h | h <;> rw [h]
  · have a := t_add 0 (cs l m 0) x
    simp; omega
  · have a := t_add (j * 1 % 4) (cs l m 1) x
    simp at a ⊢; omega
  · have a := t_add (j * 2 % 4) (cs l m 2) x
    simp at a ⊢; omega
  · have a := t_add (j * 3 % 4) (cs l m 3) x
    simp at a ⊢; omega
theorem dR_zero (j : Nat) (l : List Int) : dR j (cs l 0) = 0 ∧ dI j (cs l 0) = 0 := by
  unfold dR dI
  have z := t_zero
  constructor <;> simp [cs, z]
/-- The size of the first m elements. -/
def sz (l : List Int) : Nat → Nat
  | 0 => 0
  | m + 1 => sz l m + (l.getD m 0).natAbs
theorem sz_mono (l : List Int) {i j : Nat} (h : i ≤ j) : sz l i ≤ sz l j := by
  induction j with
  | zero => rw [Nat.le_zero.1 h]; exact Nat.le_refl _
  | succ j ih =>
    rcases Nat.lt_or_ge i (j + 1) with h2 | h2
    · exact Nat.le_trans (ih (by omega)) (Nat.le_add_right _ _)
    · rw [show i = j + 1 by omega]; exact Nat.le_refl _
theorem d_le (j : Nat) (hj : j < 4) (l : List Int) (m : Nat) : (dR j (cs l m)).natAbs ≤ sz l m ∧ (dI j (cs l m)).natAbs ≤ sz l m := by
  induction m with
  | zero => rw [(dR_zero j l).1, (dR_zero j l).2]; exact ⟨Nat.zero_le _, Nat.zero_le _⟩
  | succ m ih =>
    rw [(dR_step j m l hj).1, (dR_step j m l hj).2]
    have h := unit_le (j * (m % 4) % 4) (l.getD m 0)
    have e1 : tRe (j * (m % 4) % 4) (l.getD m 0) 0 = l.getD m 0 * uRe (j * (m % 4) % 4) := by unfold tRe; omega
    have e2 : tIm (j * (m % 4) % 4) (l.getD m 0) 0 = l.getD m 0 * uIm (j * (m % 4) % 4) := by unfold tIm; omega
    rw [e1, e2]
    show _ ≤ sz l m + (l.getD m 0).natAbs ∧ _ ≤ sz l m + (l.getD m 0).natAbs
    omega
end Go.Proofs.Ythidfmkmklnhhaa
