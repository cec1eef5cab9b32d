/- Walks: small, Times, Norms, of right sums. -/
import Derived.Test.YthidfmkmklnhhaaProg
import Derived.Test.YthidfmkmklnhhaaYk
import Derived.BigRegion
namespace Go.Proofs.Ythidfmkmklnhhaa
open Go.RowKit
set_option linter.unusedVariables false

set_option maxRecDepth 20000 in
set_option maxHeartbeats 800000 in
theorem small_right (x y : Nat → Nat) (c : Nat → Int) (w : World) (hf : CIF x y c) (hc : szc c ≤ 1125899906842624) :
    Calls Try.prog 40 #[zf x y] w fun e w' => ∃ err, e = .returned (.int .i64 err) ∧ ((szc c ≤ 16777216 ∧ err = 0) ∨ (¬ szc c ≤ 16777216 ∧ err = 2)) ∧ Below w.heap.size w w' := by
  obtain ⟨W, hW⟩ : ∃ W, w.alloc (.cells #[.complex .f64 (x 0) (y 0), .complex .f64 (x 1) (y 1), .complex .f64 (x 2) (y 2), .complex .f64 (x 3) (y 3)] 26) = W := ⟨_, rfl⟩
  have A1 : Arr 26 W w.heap.size #[.complex .f64 (x 0) (y 0), .complex .f64 (x 1) (y 1), .complex .f64 (x 2) (y 2), .complex .f64 (x 3) (y 3)] := by rw [← hW]; exact Arr.new _ _ _
  have hB : Below w.heap.size w W := by rw [← hW]; exact below_al (Below.refl _ _) _
  have HA := Lib.hid (And.intro A1 hB)
  have HF := Lib.hid hf
  have HC := Lib.hid hc
  have HW := Lib.hid hW
  clear hf hc A1 hB hW
  go_enter Try.func40, Try.ntmps40
  go_upto_region 1 with fail
  rw [HW.out]
  obtain ⟨⟨b0, b1, b2, b3⟩, -⟩ := HA.out.1.four
  go_upto_region 2 with (go_at_call 23; refine (Classes_right x y c _ HF.out HC.out).mono ?_; rintro e w1 ⟨rfl, k1⟩; have B1 := Lib.hid (And.intro (Arr.new 40 w1 (ic4 c)) (below_step HA.out.2 (below_al k1 (.cells (ic4 c) 40)))); clear k1)
  generalize w1.alloc (.cells (ic4 c) 40) = W2 at B1 ⊢
  generalize w1.heap.size = b3' at B1 ⊢
  clear b0 b1 b2 b3 HA
  have HS : Hid (Sees W2 1 (some ⟨b3', 0, none⟩) 4 4 ([c 0, c 1, c 2, c 3].map (Value.int .i64))) := Lib.hid (sees_block B1.out.1 rfl (Nat.le_refl _) (by decide) ⟨[], rfl⟩ : Sees W2 1 _ 4 4 [Value.int .i64 (c 0), Value.int .i64 (c 1), Value.int .i64 (c 2), Value.int .i64 (c 3)])
  go_upto_region 5 with (go_at_call 34; refine (size_any _ 4 4 16777216 _ _ HS.out (by decide)).mono ?_; rintro e w5 ⟨sv, bb, rfl, hr, k5⟩; have HR := Lib.hid hr; have B5 := Lib.hid (below_step B1.out.2 k5); clear hr k5)
  cases bb with
  | true =>
    have HZ : Hid (szc c ≤ 16777216) := Lib.hid (by rcases HR.out with ⟨h, _⟩ | ⟨_, h, _⟩; rw [sz4] at h; exact h; cases h)
    clear HR
    go_wp2_with fail
    go_ret
    exact ⟨_, rfl, .inl ⟨HZ.out, rfl⟩, B5.out⟩
  | false =>
    have HZ : Hid (¬ szc c ≤ 16777216) := Lib.hid (by rcases HR.out with ⟨_, h, _⟩ | ⟨h, _⟩; cases h; rw [sz4] at h; exact h)
    clear HR
    go_wp2_with fail
    go_ret
    exact ⟨_, rfl, .inr ⟨HZ.out, rfl⟩, B5.out⟩

/-- The class sums of the product of two rows. -/
def mulc (c d : Nat → Int) : Nat → Int := fun r => c 0 * d ((r + 4 - 0) % 4) + c 1 * d ((r + 4 - 1) % 4) + c 2 * d ((r + 4 - 2) % 4) + c 3 * d ((r + 4 - 3) % 4)
theorem d_mul (c d : Nat → Int) (j : Nat) (hj : j < 4) : dR j (mulc c d) = dR j c * dR j d - dI j c * dI j d ∧ dI j (mulc c d) = dR j c * dI j d + dI j c * dR j d := by
  rcases (show j = 0 ∨ j = 1 ∨ j = 2 ∨ j = 3 by omega) with rfl | rfl | rfl | rfl <;>
  simp [mulc, dR, dI, tRe, tIm, uRe, uIm, Int.add_mul, Int.mul_add, Int.sub_mul, Int.mul_sub, Int.neg_mul, Int.mul_neg] <;> omega
theorem mul_le {a b : Int} {M N : Nat} (ha : a.natAbs ≤ M) (hb : b.natAbs ≤ N) : (a * b).natAbs ≤ M * N := by rw [Int.natAbs_mul]; exact Nat.mul_le_mul ha hb

set_option maxRecDepth 20000 in
set_option maxHeartbeats 800000 in
theorem times1_any (j : Nat) (i : Int) (hj : j < 4) (hi : i = (j : Int)) (b d : Nat) (x y x' y' : Nat → Nat) (c c' : Nat → Int) (w : World) (hb : Arr 26 w b #[.complex .f64 (x 0) (y 0), .complex .f64 (x 1) (y 1), .complex .f64 (x 2) (y 2), .complex .f64 (x 3) (y 3)]) (hd : Arr 26 w d #[.complex .f64 (x' 0) (y' 0), .complex .f64 (x' 1) (y' 1), .complex .f64 (x' 2) (y' 2), .complex .f64 (x' 3) (y' 3)])
    (hf : CIF x y c) (hf' : CIF x' y' c') (hc : szc c ≤ 16777216) (hc' : szc c' ≤ 16777216) :
    Calls Try.prog 41 #[.int .i64 i, .pointer (some ⟨b, 0, none⟩), .pointer (some ⟨d, 0, none⟩)] w fun e w' => ∃ u v, e = .returned (.complex .f64 u v) ∧ (FI u (dR j (mulc c c')) ∧ FI v (dI j (mulc c c'))) ∧ Below w.heap.size w w' := by
  subst hi
  have hbj : w.cell? ⟨b, j, none⟩ = some (.complex .f64 (x j) (y j)) := by
    rw [hb.c j]
    rcases (show j = 0 ∨ j = 1 ∨ j = 2 ∨ j = 3 by omega) with rfl | rfl | rfl | rfl <;> rfl
  have hdj : w.cell? ⟨d, j, none⟩ = some (.complex .f64 (x' j) (y' j)) := by
    rw [hd.c j]
    rcases (show j = 0 ∨ j = 1 ∨ j = 2 ∨ j = 3 by omega) with rfl | rfl | rfl | rfl <;> rfl
  have h1 := d_le4 c j hj
  have h2 := d_le4 c' j hj
  have hfj := hf j hj
  have hfj' := hf' j hj
  have m1 := mul_le (show (dR j c).natAbs ≤ 16777216 by omega) (show (dR j c').natAbs ≤ 16777216 by omega)
  have m2 := mul_le (show (dI j c).natAbs ≤ 16777216 by omega) (show (dI j c').natAbs ≤ 16777216 by omega)
  have m3 := mul_le (show (dR j c).natAbs ≤ 16777216 by omega) (show (dI j c').natAbs ≤ 16777216 by omega)
  have m4 := mul_le (show (dI j c).natAbs ≤ 16777216 by omega) (show (dR j c').natAbs ≤ 16777216 by omega)
  obtain ⟨u, v, g1, fu, fv⟩ := cmul_fi hfj.1 hfj.2 hfj'.1 hfj'.2 (Nat.le_trans m1 (by decide)) (Nat.le_trans m2 (by decide)) (Nat.le_trans m3 (by decide)) (Nat.le_trans m4 (by decide))
  rw [← (d_mul c c' j hj).1] at fu
  rw [← (d_mul c c' j hj).2] at fv
  have HN := Lib.hid (And.intro fu fv)
  have hmul : ∀ w, (binOp .mul 25 (.complex .f64 (x j) (y j)) (.complex .f64 (x' j) (y' j))).run Try.prog w = .ok (.complex .f64 u v) w := fun w => run_complex_mul w _ _ _ _ _ _ _ g1
  have hji : (j : Int) < 4 := by omega
  have dj : decide ((j : Int) < 4) = true := by simp; omega
  have dj' : decide (j < 4) = true := by simp; omega
  have dj2 : decide ((4 : Int) ≤ (j : Int)) = false := by simp; omega
  clear hb hd hf hf' hc hc' h1 h2 hfj hfj' m1 m2 m3 m4 g1 fu fv
  go_enter Try.func41, Try.ntmps41
  go_upto_region 1 with fail
  go_quiet (fail)
  go_wp2_with fail
  go_ret
  exact ⟨u, v, rfl, HN.out, below_drewN (Below.refl _ _) _⟩
end Go.Proofs.Ythidfmkmklnhhaa
