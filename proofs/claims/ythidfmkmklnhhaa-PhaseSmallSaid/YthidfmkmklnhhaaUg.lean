/- Walks of the reference: Classes, of integers. -/
import Derived.Test.YthidfmkmklnhhaaProg
import Derived.Test.YthidfmkmklnhhaaUf
import Derived.Deep.DeepCutAuto
import Derived.Deep.QuietTactic
namespace Go.Proofs.Ythidfmkmklnhhaa
open Go.RowKit Go.Op
set_option linter.unusedVariables false

abbrev fl4 (x : Nat → Nat) : Value := .agg #[.float .f64 (x 0), .float .f64 (x 1), .float .f64 (x 2), .float .f64 (x 3)]
abbrev fc4 (x : Nat → Nat) : Array Value := #[.float .f64 (x 0), .float .f64 (x 1), .float .f64 (x 2), .float .f64 (x 3)]
theorem fc4_get (x : Nat → Nat) (k : Nat) (hk : k < 4) : (fc4 x)[k]? = some (.float .f64 (x k)) := by
  rcases (show k = 0 ∨ k = 1 ∨ k = 2 ∨ k = 3 by omega) with rfl | rfl | rfl | rfl <;> rfl
def cut8 (p q : Nat → Int) (k : Nat) : Nat → Int := fun i => if i / 2 < k then pq8 p q i else 0
theorem cut8_set (p q : Nat → Int) (k : Nat) (hk : k < 4) : ((ic8 (cut8 p q k)).setIfInBounds (k * 2) (.int .i64 (p k))).setIfInBounds (k * 2 + 1) (.int .i64 (q k)) = ic8 (cut8 p q (k + 1)) := by
  rcases (show k = 0 ∨ k = 1 ∨ k = 2 ∨ k = 3 by omega) with rfl | rfl | rfl | rfl <;> rfl
theorem cut8_get (p q : Nat → Int) (k : Nat) (hk : k < 4) : (ic8 (cut8 p q k))[k * 2]? = some (.int .i64 0) ∧ (ic8 (cut8 p q k))[k * 2 + 1]? = some (.int .i64 0) := by
  rcases (show k = 0 ∨ k = 1 ∨ k = 2 ∨ k = 3 by omega) with rfl | rfl | rfl | rfl <;> exact ⟨rfl, rfl⟩
theorem cut8_all (p q : Nat → Int) : ic8 (cut8 p q 4) = #[.int .i64 (p 0), .int .i64 (q 0), .int .i64 (p 1), .int .i64 (q 1), .int .i64 (p 2), .int .i64 (q 2), .int .i64 (p 3), .int .i64 (q 3)] := rfl
/-- The class sums that the reference makes. -/
def tC (p q : Nat → Int) : Nat → Int := c4 (((p 0 + p 2).tdiv 2 + p 1).tdiv 2) (((p 0 - p 2).tdiv 2 + q 1).tdiv 2) (((p 0 + p 2).tdiv 2 - p 1).tdiv 2) (((p 0 - p 2).tdiv 2 - q 1).tdiv 2)
theorem half_even {a b : Int} (h : a = 2 * b) : a.tdiv 2 = b := by rw [h]; exact Int.mul_tdiv_cancel_left b (by decide)
theorem p_forms (p q : Nat → Int) : (pR 0 p q 4 = p 0 + p 1 + p 2 + p 3 ∧ pI 0 p q 4 = q 0 + q 1 + q 2 + q 3) ∧ (pR 1 p q 4 = p 0 + q 1 - p 2 - q 3 ∧ pI 1 p q 4 = q 0 - p 1 - q 2 + p 3) ∧ (pR 2 p q 4 = p 0 - p 1 + p 2 - p 3 ∧ pI 2 p q 4 = q 0 - q 1 + q 2 - q 3) ∧ (pR 3 p q 4 = p 0 - q 1 - p 2 + q 3 ∧ pI 3 p q 4 = q 0 + p 1 - q 2 - p 3) := by
  refine ⟨⟨?_, ?_⟩, ⟨?_, ?_⟩, ⟨?_, ?_⟩, ?_, ?_⟩ <;> simp [pR, pI, tRe, tIm, uRe, uIm] <;> omega
theorem d_forms (c : Nat → Int) : (dR 0 c = c 0 + c 1 + c 2 + c 3 ∧ dI 0 c = 0) ∧ (dR 1 c = c 0 - c 2 ∧ dI 1 c = c 1 - c 3) ∧ (dR 2 c = c 0 - c 1 + c 2 - c 3 ∧ dI 2 c = 0) ∧ (dR 3 c = c 0 - c 2 ∧ dI 3 c = c 3 - c 1) := by
  refine ⟨⟨?_, ?_⟩, ⟨?_, ?_⟩, ⟨?_, ?_⟩, ?_, ?_⟩ <;> simp [dR, dI, tRe, tIm, uRe, uIm] <;> omega
theorem inv4 {p0 p1 p2 p3 q0 q1 q2 q3 c0 c1 c2 c3 : Int} (h0 : p0 + p1 + p2 + p3 = 4 * c0) (h1 : p0 + q1 - p2 - q3 = 4 * c1) (h2 : p0 - p1 + p2 - p3 = 4 * c2) (h3 : p0 - q1 - p2 + q3 = 4 * c3) (i0 : q0 + q1 + q2 + q3 = 0) (i1 : q0 - p1 - q2 + p3 = 0) (i2 : q0 - q1 + q2 - q3 = 0) (i3 : q0 + p1 - q2 - p3 = 0) :
    p0 = c0 + c1 + c2 + c3 ∧ q0 = 0 ∧ p1 = c0 - c2 ∧ q1 = c1 - c3 ∧ p2 = c0 - c1 + c2 - c3 ∧ q2 = 0 ∧ p3 = c0 - c2 ∧ q3 = c3 - c1 := by omega
theorem tC_right {p q : Nat → Int} (h : Right4 p q) : (∀ r < 4, tC p q r = pR r p q 4 / 4) ∧ ∀ j < 4, dR j (tC p q) = p j ∧ dI j (tC p q) = q j := by
  have f := p_forms p q
  have e : ∀ r < 4, pR r p q 4 = 4 * (pR r p q 4 / 4) := fun r hr => by have := (h.2.1 r hr).2; omega
  have z : ∀ r < 4, pI r p q 4 = 0 := fun r hr => (h.2.1 r hr).1
  have k := inv4 (f.1.1.symm.trans (e 0 (by decide))) (f.2.1.1.symm.trans (e 1 (by decide))) (f.2.2.1.1.symm.trans (e 2 (by decide))) (f.2.2.2.1.symm.trans (e 3 (by decide))) (f.1.2.symm.trans (z 0 (by decide))) (f.2.1.2.symm.trans (z 1 (by decide))) (f.2.2.1.2.symm.trans (z 2 (by decide))) (f.2.2.2.2.symm.trans (z 3 (by decide)))
  clear f e z h
  obtain ⟨c0, hc0⟩ : ∃ c, pR 0 p q 4 / 4 = c := ⟨_, rfl⟩
  obtain ⟨c1, hc1⟩ : ∃ c, pR 1 p q 4 / 4 = c := ⟨_, rfl⟩
  obtain ⟨c2, hc2⟩ : ∃ c, pR 2 p q 4 / 4 = c := ⟨_, rfl⟩
  obtain ⟨c3, hc3⟩ : ∃ c, pR 3 p q 4 / 4 = c := ⟨_, rfl⟩
  rw [hc0, hc1, hc2, hc3] at k
  obtain ⟨k0, k1, k2, k3, k4, k5, k6, k7⟩ := k
  have t0 : tC p q 0 = c0 := by
    show ((p 0 + p 2).tdiv 2 + p 1).tdiv 2 = _
    rw [half_even (show p 0 + p 2 = 2 * (c0 + c2) by rw [k0, k4]; omega)]
    exact half_even (by rw [k2]; omega)
  have t1 : tC p q 1 = c1 := by
    show ((p 0 - p 2).tdiv 2 + q 1).tdiv 2 = _
    rw [half_even (show p 0 - p 2 = 2 * (c1 + c3) by rw [k0, k4]; omega)]
    exact half_even (by rw [k3]; omega)
  have t2 : tC p q 2 = c2 := by
    show ((p 0 + p 2).tdiv 2 - p 1).tdiv 2 = _
    rw [half_even (show p 0 + p 2 = 2 * (c0 + c2) by rw [k0, k4]; omega)]
    exact half_even (by rw [k2]; omega)
  have t3 : tC p q 3 = c3 := by
    show ((p 0 - p 2).tdiv 2 - q 1).tdiv 2 = _
    rw [half_even (show p 0 - p 2 = 2 * (c1 + c3) by rw [k0, k4]; omega)]
    exact half_even (by rw [k3]; omega)
  refine ⟨all4 (t0.trans hc0.symm) (t1.trans hc1.symm) (t2.trans hc2.symm) (t3.trans hc3.symm), ?_⟩
  have d := d_forms (tC p q)
  rw [t0, t1, t2, t3] at d
  exact all4 ⟨d.1.1.trans k0.symm, d.1.2.trans k1.symm⟩ ⟨d.2.1.1.trans k2.symm, d.2.1.2.trans k3.symm⟩ ⟨d.2.2.1.1.trans k4.symm, d.2.2.1.2.trans k5.symm⟩ ⟨d.2.2.2.1.trans k6.symm, d.2.2.2.2.trans k7.symm⟩
theorem right_tC {p q C : Nat → Int} (hs : szc C ≤ 1125899906842624) (he : ∀ j < 4, dR j C = p j ∧ dI j C = q j) : Right4 p q ∧ ∀ r < 4, C r = pR r p q 4 / 4 := by
  have hr := right_of C hs
  have hx := fun r => p_ext (p := fun j => dR j C) (q := fun j => dI j C) (p' := p) (q' := q) r 4 (fun j hj => he j hj)
  refine ⟨⟨fun j hj => ?_, fun r hr' => ?_, ?_⟩, fun r hr' => ?_⟩
  · have := hr.1 j hj; rw [← (he j hj).1, ← (he j hj).2]; exact this
  · rw [← (hx r).1, ← (hx r).2]; exact hr.2.1 r hr'
  · rw [← (hx 0).1, ← (hx 1).1, ← (hx 2).1, ← (hx 3).1]; exact hr.2.2
  · rw [← (hx r).1, (p_right r hr' C).1]; omega
theorem tC_le {p q : Nat → Int} (h : ∀ j < 4, (p j).natAbs ≤ 1125899906842624 ∧ (q j).natAbs ≤ 1125899906842624) : ∃ ev od e2 o2 a0 a1 a2 a3 : Int, (p 0 + p 2 = ev ∧ p 0 - p 2 = od ∧ ev.tdiv 2 = e2 ∧ od.tdiv 2 = o2 ∧ e2 + p 1 = a0 ∧ o2 + q 1 = a1 ∧ e2 - p 1 = a2 ∧ o2 - q 1 = a3) ∧
    (wrap64 ev = ev ∧ wrap64 od = od ∧ wrap64 e2 = e2 ∧ wrap64 o2 = o2 ∧ wrap64 a0 = a0 ∧ wrap64 a1 = a1 ∧ wrap64 a2 = a2 ∧ wrap64 a3 = a3) ∧ (IntKind.i64.wrap ev = ev ∧ IntKind.i64.wrap od = od ∧ IntKind.i64.wrap e2 = e2 ∧ IntKind.i64.wrap o2 = o2 ∧ IntKind.i64.wrap a0 = a0 ∧ IntKind.i64.wrap a1 = a1 ∧ IntKind.i64.wrap a2 = a2 ∧ IntKind.i64.wrap a3 = a3) ∧ ∀ k < 4, IntKind.i64.wrap (tC p q k) = tC p q k ∧ wrap64 (tC p q k) = tC p q k := by
  have hd : ∀ (a : Int) (M : Nat), a.natAbs ≤ M → (a.tdiv 2).natAbs ≤ M := fun a M h => by rw [Int.natAbs_tdiv]; exact Nat.le_trans (Nat.div_le_self _ _) h
  have h0 := h 0 (by decide)
  have h1 := h 1 (by decide)
  have h2 := h 2 (by decide)
  have b1 : (p 0 + p 2).natAbs ≤ 4503599627370496 := by omega
  have b2 : (p 0 - p 2).natAbs ≤ 4503599627370496 := by omega
  have b3 := hd _ _ b1
  have b4 := hd _ _ b2
  have t : ∀ k < 4, (tC p q k).natAbs ≤ 18014398509481984 := all4 (hd _ _ (by omega)) (hd _ _ (by omega)) (hd _ _ (by omega)) (hd _ _ (by omega))
  obtain ⟨e2, he2⟩ : ∃ e, (p 0 + p 2).tdiv 2 = e := ⟨_, rfl⟩
  obtain ⟨o2, ho2⟩ : ∃ e, (p 0 - p 2).tdiv 2 = e := ⟨_, rfl⟩
  rw [he2] at b3
  rw [ho2] at b4
  refine ⟨p 0 + p 2, p 0 - p 2, e2, o2, e2 + p 1, o2 + q 1, e2 - p 1, o2 - q 1, ⟨rfl, rfl, he2, ho2, rfl, rfl, rfl, rfl⟩, ⟨IntWalk.wrap64_in _ (by omega), IntWalk.wrap64_in _ (by omega), IntWalk.wrap64_in _ (by omega), IntWalk.wrap64_in _ (by omega), IntWalk.wrap64_in _ (by omega), IntWalk.wrap64_in _ (by omega), IntWalk.wrap64_in _ (by omega), IntWalk.wrap64_in _ (by omega)⟩, ⟨IntWalk.i64_in _ (by omega), IntWalk.i64_in _ (by omega), IntWalk.i64_in _ (by omega), IntWalk.i64_in _ (by omega), IntWalk.i64_in _ (by omega), IntWalk.i64_in _ (by omega), IntWalk.i64_in _ (by omega), IntWalk.i64_in _ (by omega)⟩, fun k hk => ?_⟩
  have := t k hk
  clear he2 ho2 b3 b4 b1 b2
  exact ⟨IntWalk.i64_in _ (by omega), IntWalk.wrap64_in _ (by omega)⟩
theorem eq_num (w : World) (d : Nat) (a0 a1 b0 b1 : Int) : (Op.equalIn (d + 2) 62 (.agg #[.int .i64 a0, .int .i64 a1]) (.agg #[.int .i64 b0, .int .i64 b1])).run Try.prog w = .ok (decide (a0 = b0) && decide (a1 = b1)) w := by
  have e1 := Try.underlying62
  have e3 := fun w a b => run_equalIn_int (P := Try.prog) w d 3 .i64 .i64 a b Try.underlying3
  unfold Op.equalIn
  simp [run_underlying e1, go_sem, List.range', isAgg, run_underlying Try.underlying3, e3, sizeOf, show Try.t3.size = 1 from rfl]
  by_cases h0 : a0 = b0 <;> by_cases h1 : a1 = b1 <;> simp [h0, h1]
theorem eq_n (w : World) (d : Nat) (p q p' q' : Nat → Int) : (Op.equalIn (d + 3) 63 (nv p q) (nv p' q')).run Try.prog w = .ok (decide ((p 0 = p' 0 ∧ q 0 = q' 0) ∧ (p 1 = p' 1 ∧ q 1 = q' 1) ∧ (p 2 = p' 2 ∧ q 2 = q' 2) ∧ p 3 = p' 3 ∧ q 3 = q' 3)) w := by
  have e1 := Try.underlying63
  have e3 := fun w a b a' b' => eq_num w d a b a' b'
  unfold Op.equalIn
  simp [run_underlying e1, go_sem, List.range', isAgg, run_underlying Try.underlying62, e3, sizeOf, show Try.t62.size = 2 from rfl]
  (repeat' split) <;> simp_all
theorem neq_n (p q p' q' : Nat → Int) (w : World) : (binOp .neq 63 (nv p q) (nv p' q')).run Try.prog w = .ok (.bool (!decide ((p 0 = p' 0 ∧ q 0 = q' 0) ∧ (p 1 = p' 1 ∧ q 1 = q' 1) ∧ (p 2 = p' 2 ∧ q 2 = q' 2) ∧ p 3 = p' 3 ∧ q 3 = q' 3))) w := by
  rw [run_neq_struct, eq_n w 9997]; rfl
end Go.Proofs.Ythidfmkmklnhhaa
