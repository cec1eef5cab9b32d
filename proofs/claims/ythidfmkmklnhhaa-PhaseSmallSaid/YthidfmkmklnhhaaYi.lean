/- Walks: whole; plain laws of Classes; its inner function. -/
import Derived.Test.YthidfmkmklnhhaaProg
import Derived.Test.YthidfmkmklnhhaaYh
namespace Go.Proofs.Ythidfmkmklnhhaa
open Go.RowKit
set_option linter.unusedVariables false

theorem fi50 : FI 4832362400168542208 1125899906842624 := by
  have h := FI.ofInt (n := 1125899906842624) (by decide)
  rwa [show floatOfInt .f64 1125899906842624 = 4832362400168542208 from by decide] at h

set_option maxRecDepth 20000 in
theorem whole_any (x : Nat) (a : Int) (w : World) (h : FI x a) (ha : a.natAbs ≤ 9007199254740992) : Calls Try.prog 42 #[.float .f64 x] w fun e w' => e = .returned (.bool (decide (a.natAbs ≤ 1125899906842624))) ∧ w' = w := by
  have HX := Lib.hid h
  have HA := Lib.hid ha
  clear h ha
  rcases (show a.natAbs < 1125899906842624 ∨ a.natAbs = 1125899906842624 ∨ 1125899906842624 < a.natAbs by omega) with h | h | h
  · have hD := decide_eq_true (show a.natAbs ≤ 1125899906842624 by omega)
    rw [hD]
    have HC := Lib.hid (cmp_lt (show (a.natAbs : Int) < 1125899906842624 by omega))
    clear h hD
    go_enter Try.func42, Try.ntmps42
    go_wp2_with (first
      | (go_at_call 61; refine (Abs_any x a _ HX.out).mono ?_; rintro e w2 ⟨⟨y2, rfl, f2⟩, rfl⟩; have o2 := f2.ord fi50; rw [HC.out] at o2; clear f2)
      | (go_at_call 60; refine (Trunc_any x a _ HX.out HA.out).mono ?_; rintro e w1 ⟨⟨y1, rfl, f1⟩, rfl⟩; have o1 := HX.out.ord f1; rw [cmp_eq] at o1; clear f1))
    go_ret
    exact ⟨rfl, rfl⟩
  · have hD := decide_eq_true (show a.natAbs ≤ 1125899906842624 by omega)
    rw [hD]
    have HC := Lib.hid (show compare (a.natAbs : Int) 1125899906842624 = .eq by rw [h]; exact cmp_eq _)
    clear h hD
    go_enter Try.func42, Try.ntmps42
    go_wp2_with (first
      | (go_at_call 61; refine (Abs_any x a _ HX.out).mono ?_; rintro e w2 ⟨⟨y2, rfl, f2⟩, rfl⟩; have o2 := f2.ord fi50; rw [HC.out] at o2; clear f2)
      | (go_at_call 60; refine (Trunc_any x a _ HX.out HA.out).mono ?_; rintro e w1 ⟨⟨y1, rfl, f1⟩, rfl⟩; have o1 := HX.out.ord f1; rw [cmp_eq] at o1; clear f1))
    go_ret
    exact ⟨rfl, rfl⟩
  · have hD := decide_eq_false (show ¬ a.natAbs ≤ 1125899906842624 by omega)
    rw [hD]
    have HC := Lib.hid (cmp_gt (show (1125899906842624 : Int) < (a.natAbs : Int) by omega))
    clear h hD
    go_enter Try.func42, Try.ntmps42
    go_wp2_with (first
      | (go_at_call 61; refine (Abs_any x a _ HX.out).mono ?_; rintro e w2 ⟨⟨y2, rfl, f2⟩, rfl⟩; have o2 := f2.ord fi50; rw [HC.out] at o2; clear f2)
      | (go_at_call 60; refine (Trunc_any x a _ HX.out HA.out).mono ?_; rintro e w1 ⟨⟨y1, rfl, f1⟩, rfl⟩; have o1 := HX.out.ord f1; rw [cmp_eq] at o1; clear f1))
    go_ret
    exact ⟨rfl, rfl⟩

/-- The sum of the first m of four numbers, each turned by i to the power -j r. -/
def pR (r : Nat) (p q : Nat → Int) : Nat → Int
  | 0 => 0
  | m + 1 => pR r p q m + tRe (3 * (m * r) % 4) (p m) (q m)
def pI (r : Nat) (p q : Nat → Int) : Nat → Int
  | 0 => 0
  | m + 1 => pI r p q m + tIm (3 * (m * r) % 4) (p m) (q m)
theorem t_le (k : Nat) (a b : Int) (M : Nat) (ha : a.natAbs ≤ M) (hb : b.natAbs ≤ M) : (tRe k a b).natAbs ≤ M ∧ (tIm k a b).natAbs ≤ M := by
  unfold tRe tIm uRe uIm
  by_cases h0 : k = 0
  · subst h0; simp; omega
  · by_cases h1 : k = 1
    · subst h1; simp; omega
    · by_cases h2 : k = 2
      · subst h2; simp; omega
      · by_cases h3 : k = 3
        · subst h3; simp; omega
        · simp [h0, h1, h2, h3]
theorem p_le (r : Nat) (p q : Nat → Int) (M : Nat) : ∀ m, (∀ j < m, (p j).natAbs ≤ M ∧ (q j).natAbs ≤ M) → (pR r p q m).natAbs ≤ m * M ∧ (pI r p q m).natAbs ≤ m * M := by
  intro m
  induction m with
  | zero => intro _; simp [pR, pI]
  | succ m ih =>
    intro h
    have h1 := ih fun j hj => h j (by omega)
    have h2 := h m (by omega)
    have h3 := t_le (3 * (m * r) % 4) (p m) (q m) M h2.1 h2.2
    rw [Nat.succ_mul]
    show (pR r p q m + tRe (3 * (m * r) % 4) (p m) (q m)).natAbs ≤ _ ∧ (pI r p q m + tIm (3 * (m * r) % 4) (p m) (q m)).natAbs ≤ _
    generalize m * M = X at *
    omega
/-- Of the four numbers of class sums, the turned sums are four times the class sums. -/
theorem p_right (r : Nat) (hr : r < 4) (c : Nat → Int) : pR r (fun j => dR j c) (fun j => dI j c) 4 = 4 * c r ∧ pI r (fun j => dR j c) (fun j => dI j c) 4 = 0 := by
  rcases (show r = 0 ∨ r = 1 ∨ r = 2 ∨ r = 3 by omega) with rfl | rfl | rfl | rfl <;> simp [pR, pI, dR, dI, tRe, tIm, uRe, uIm] <;> omega
/-- Four complex numbers as a value. -/
abbrev zf (x y : Nat → Nat) : Value := .agg #[.complex .f64 (x 0) (y 0), .complex .f64 (x 1) (y 1), .complex .f64 (x 2) (y 2), .complex .f64 (x 3) (y 3)]
theorem ix_z (x y : Nat → Nat) (j : Nat) (hj : j < 4) (w : World) : (Instr.index 26 (zf x y) (.int .i64 (j : Int))).run Try.prog w = .ok (.complex .f64 (x j) (y j)) w := by
  rcases (show j = 0 ∨ j = 1 ∨ j = 2 ∨ j = 3 by omega) with rfl | rfl | rfl | rfl <;> kernel_rfl

set_option maxRecDepth 20000 in
set_option maxHeartbeats 800000 in
theorem classes1_any (r : Nat) (i : Int) (hr : r < 4) (hi : i = (r : Int)) (b : Nat) (x y : Nat → Nat) (p q : Nat → Int) (w : World) (hb : Arr 26 w b #[.complex .f64 (x 0) (y 0), .complex .f64 (x 1) (y 1), .complex .f64 (x 2) (y 2), .complex .f64 (x 3) (y 3)])
    (hf : ∀ j < 4, FI (x j) (p j) ∧ FI (y j) (q j)) (hz : ∀ j < 4, (p j).natAbs ≤ 1125899906842624 ∧ (q j).natAbs ≤ 1125899906842624) :
    Calls Try.prog 43 #[.int .i64 i, .pointer (some ⟨b, 0, none⟩)] w fun e w' => ∃ x y, e = .returned (.complex .f64 x y) ∧ (FI x (pR r p q 4) ∧ FI y (pI r p q 4)) ∧ Below w.heap.size w w' := by
  subst hi
  obtain ⟨⟨b0, b1, b2, b3⟩, -⟩ := hb.four
  have HF := Lib.hid hf
  have HZ := Lib.hid hz
  have HJ := Lib.hid hr
  clear hb hf hz
  go_enter Try.func43, Try.ntmps43
  go_wp2_with fail
  go_loopw [4, 8] (fun sv iv wr => ∃ k u v : Nat, Hid (k ≤ 4) ∧ iv = .int .i64 (k : Int) ∧ sv = .complex .f64 u v ∧ Hid (FI u (pR r p q k) ∧ FI v (pI r p q k)) ∧ Hid (Below w.heap.size w wr)) (fun _ iv _ => 4 - (intOf iv).toNat)
  case atStart => exact ⟨0, 0, 0, Lib.hid (Nat.zero_le _), rfl, rfl, Lib.hid ⟨fi0, fi0⟩, Lib.hid (Below.refl _ _)⟩
  case round =>
    obtain ⟨k, u, v, HK, rfl, rfl, HUV, HB⟩ := hrel
    by_cases hlt : k < 4
    · have d0 : decide ((k : Int) < 4) = true := by simp; omega
      have d0' : decide (k < 4) = true := by simp; omega
      have hk3 : (k : Int) ≤ 3 := by omega
      have hix := ix_z x y k hlt
      obtain ⟨nk, hnk⟩ : ∃ nk, -(k : Int) = nk := ⟨_, rfl⟩
      have hwn : IntKind.i64.wrap nk = nk := IntWalk.i64_in _ (by omega)
      obtain ⟨m, hm⟩ : ∃ m : Nat, k * r = m := ⟨_, rfl⟩
      have hm9 : m ≤ 9 := by rw [← hm]; exact Nat.mul_le_mul (show k ≤ 3 by omega) (show r ≤ 3 by omega)
      obtain ⟨nm, hnm⟩ : ∃ nm, nk * (r : Int) = nm := ⟨_, rfl⟩
      have hnm2 : nm = -(m : Int) := by rw [← hnm, ← hnk, ← hm, Int.neg_mul]; push_cast; rfl
      have hwm : IntKind.i64.wrap nm = nm := IntWalk.i64_in _ (by omega)
      have hRt : Rt nm (3 * m % 4) := ⟨Nat.mod_lt _ (by decide), by omega⟩
      have hle := p_le r p q 1125899906842624 k fun j hj => HZ.out j (by omega)
      have hle2 := p_le r p q 1125899906842624 (k + 1) fun j hj => HZ.out j (by omega)
      have hzk := HZ.out k hlt
      have hfk := HF.out k hlt
      have e1 : pR r p q (k + 1) = pR r p q k + tRe (3 * m % 4) (p k) (q k) := by rw [← hm]; rfl
      have e2 : pI r p q (k + 1) = pI r p q k + tIm (3 * m % 4) (p k) (q k) := by rw [← hm]; rfl
      obtain ⟨s, t, g1, fs, ft⟩ := cmul_rt (3 * m % 4) hfk.1 hfk.2 (by omega) (by omega)
      obtain ⟨u', v', g2, fu, fv⟩ := cadd_fi HUV.out.1 HUV.out.2 fs ft (by rw [← e1]; omega) (by rw [← e2]; omega)
      rw [← e1] at fu
      rw [← e2] at fv
      have HN := Lib.hid (And.intro fu fv)
      have HRT := Lib.hid hRt
      have hmul : ∀ w, (binOp .mul 25 (.complex .f64 (x k) (y k)) (.complex .f64 (rre (3 * m % 4)) (rim (3 * m % 4)))).run Try.prog w = .ok (.complex .f64 s t) w := fun w => run_complex_mul w _ _ _ _ _ _ _ g1
      have hadd : ∀ w, (binOp .add 25 (.complex .f64 u v) (.complex .f64 s t)).run Try.prog w = .ok (.complex .f64 u' v') w := fun w => run_complex_sum w .add (.inl rfl) _ _ _ _ _ _ _ _ g2
      have HLT := Lib.hid hlt
      clear hlt hm hm9 hnm2 hRt hle hle2 hzk hfk e1 e2 g1 fs ft g2 fu fv hr
      go_wp2_with (go_at_call 39; refine (root_any _ _ _ HRT.out).mono ?_; rintro e w2 ⟨rfl, rfl⟩; unfold rtV)
      go_roundw
      case rel => exact ⟨k + 1, u', v', Lib.hid HLT.out, by go_num, rfl, HN, HB⟩
      case measure => have := HLT.out; simp [intOf]; omega
    · obtain rfl : k = 4 := by have := HK.out; omega
      clear hlt
      go_wp2_with fail
      go_ret
      exact ⟨u, v, rfl, HUV.out, HB.out⟩
end Go.Proofs.Ythidfmkmklnhhaa
