/- Plain laws of right sums; Classes of them; Shift. -/
import Derived.Test.YthidfmkmklnhhaaProg
import Derived.Test.YthidfmkmklnhhaaYj
import Derived.Deep.RegionHeld3
namespace Go.Proofs.Ythidfmkmklnhhaa
open Go.RowKit
set_option linter.unusedVariables false

def szc (c : Nat → Int) : Nat := (c 0).natAbs + (c 1).natAbs + (c 2).natAbs + (c 3).natAbs
theorem sz4 (a b c d : Int) : sz [a, b, c, d] 4 = a.natAbs + b.natAbs + c.natAbs + d.natAbs := by simp [sz]
theorem cs4 (c : Nat → Int) : ∀ r < 4, cs [c 0, c 1, c 2, c 3] 4 r = c r := by
  refine all4 ?_ ?_ ?_ ?_ <;> simp [cs]
theorem d_ext {c d : Nat → Int} (h : ∀ r < 4, c r = d r) (j : Nat) : dR j c = dR j d ∧ dI j c = dI j d := by
  unfold dR dI
  rw [h 0 (by decide), h 1 (by decide), h 2 (by decide), h 3 (by decide)]
  exact ⟨rfl, rfl⟩
theorem d_le4 (c : Nat → Int) (j : Nat) (hj : j < 4) : (dR j c).natAbs ≤ szc c ∧ (dI j c).natAbs ≤ szc c := by
  have h := d_le j hj [c 0, c 1, c 2, c 3] 4
  rw [(d_ext (cs4 c) j).1, (d_ext (cs4 c) j).2, sz4] at h
  exact h
theorem szc_ext {c d : Nat → Int} (h : ∀ r < 4, c r = d r) : szc c = szc d := by
  unfold szc; rw [h 0 (by decide), h 1 (by decide), h 2 (by decide), h 3 (by decide)]
theorem szc_cs (l : List Int) (m : Nat) : szc (cs l m) ≤ sz l m := by
  induction m with
  | zero => simp [szc, cs, sz]
  | succ m ih =>
    show _ ≤ sz l m + (l.getD m 0).natAbs
    generalize hx : l.getD m 0 = x
    have hc : ∀ r, cs l (m + 1) r = cs l m r + if m % 4 = r then x else 0 := fun r => by rw [← hx]; rfl
    unfold szc at ih ⊢
    simp only [hc]
    rcases (show m % 4 = 0 ∨ m % 4 = 1 ∨ m % 4 = 2 ∨ m % 4 = 3 by omega) with h | h | h | h <;> rw [h] <;> simp <;> omega
/-- The numbers are the sums of class sums c. -/
def CIF (x y : Nat → Nat) (c : Nat → Int) : Prop := ∀ j < 4, FI (x j) (dR j c) ∧ FI (y j) (dI j c)
theorem CI4.f {x y : Nat → Nat} {c : Nat → Int} (h : CI4 (x 0) (y 0) (x 1) (y 1) (x 2) (y 2) (x 3) (y 3) c) : CIF x y c := all4 h.1 h.2.1 h.2.2.1 h.2.2.2
theorem CIF.ext {x y : Nat → Nat} {c d : Nat → Int} (h : CIF x y c) (e : ∀ r < 4, c r = d r) : CIF x y d := fun j hj => by
  have := h j hj
  rwa [(d_ext e j).1, (d_ext e j).2] at this
theorem p_ext {p q p' q' : Nat → Int} (r : Nat) : ∀ m, (∀ j < m, p j = p' j ∧ q j = q' j) → pR r p q m = pR r p' q' m ∧ pI r p q m = pI r p' q' m := by
  intro m
  induction m with
  | zero => intro _; exact ⟨rfl, rfl⟩
  | succ m ih =>
    intro h
    have h1 := ih fun j hj => h j (by omega)
    have h2 := h m (by omega)
    constructor
    · show pR r p q m + tRe _ (p m) (q m) = pR r p' q' m + tRe _ (p' m) (q' m); rw [h1.1, h2.1, h2.2]
    · show pI r p q m + tIm _ (p m) (q m) = pI r p' q' m + tIm _ (p' m) (q' m); rw [h1.2, h2.1, h2.2]
theorem right_of (c : Nat → Int) (h : szc c ≤ 1125899906842624) : Right4 (fun j => dR j c) (fun j => dI j c) := by
  have hp := fun r hr => p_right r hr c
  have h4 : ∀ r < 4, pR r (fun j => dR j c) (fun j => dI j c) 4 / 4 = c r := fun r hr => by rw [(hp r hr).1]; omega
  refine ⟨fun j hj => ?_, fun r hr => ⟨(hp r hr).2, by rw [(hp r hr).1]; omega⟩, ?_⟩
  · have := d_le4 c j hj
    show (dR j c).natAbs ≤ _ ∧ (dI j c).natAbs ≤ _
    omega
  · rw [h4 0 (by decide), h4 1 (by decide), h4 2 (by decide), h4 3 (by decide), sz4]
    exact h
theorem iv4_ext {c d : Nat → Int} (h : ∀ r < 4, c r = d r) : iv4 c = iv4 d := by unfold iv4; rw [h 0 (by decide), h 1 (by decide), h 2 (by decide), h 3 (by decide)]
theorem Classes_right (x y : Nat → Nat) (c : Nat → Int) (w : World) (hf : CIF x y c) (hc : szc c ≤ 1125899906842624) :
    Calls Try.prog 23 #[zf x y] w fun e w' => e = .returned (.tuple #[iv4 c, .int .i64 0]) ∧ Below w.heap.size w w' :=
  (Classes_any x y (fun j => dR j c) (fun j => dI j c) w hf (fun j hj => by have := d_le4 c j hj; show (dR j c).natAbs ≤ _ ∧ (dI j c).natAbs ≤ _; omega)).mono fun e w' h => by
    obtain ⟨c', err, rfl, hcl, hb⟩ := h
    refine ⟨?_, hb⟩
    rcases hcl with ⟨_, rfl, h2⟩ | ⟨h, _⟩
    · have h4 : ∀ r < 4, c' r = c r := fun r hr => by rw [h2 r hr, (p_right r hr c).1]; omega
      rw [iv4_ext h4]
    · exact absurd (right_of c hc) h

/-- The class sums behind m zeros (m from 0 to 3). -/
def shc (c : Nat → Int) (m : Nat) : Nat → Int := fun r => c ((r + 4 - m) % 4)
theorem d_shift (c : Nat → Int) (m j : Nat) (hm : m < 4) (hj : j < 4) : dR j (shc c m) = tRe (j * m % 4) (dR j c) (dI j c) ∧ dI j (shc c m) = tIm (j * m % 4) (dR j c) (dI j c) := by
  rcases (show m = 0 ∨ m = 1 ∨ m = 2 ∨ m = 3 by omega) with rfl | rfl | rfl | rfl <;>
  rcases (show j = 0 ∨ j = 1 ∨ j = 2 ∨ j = 3 by omega) with rfl | rfl | rfl | rfl <;>
  simp [shc, dR, dI, tRe, tIm, uRe, uIm] <;> omega
theorem szc_shift (c : Nat → Int) (m : Nat) (hm : m < 4) : szc (shc c m) = szc c := by
  rcases (show m = 0 ∨ m = 1 ∨ m = 2 ∨ m = 3 by omega) with rfl | rfl | rfl | rfl <;> simp [szc, shc] <;> omega

set_option maxRecDepth 20000 in
set_option maxHeartbeats 800000 in
theorem shift1_any (j : Nat) (i : Int) (hj : j < 4) (hi : i = (j : Int)) (b d : Nat) (x y : Nat → Nat) (c : Nat → Int) (n : Int) (w : World) (hb : Arr 26 w b #[.complex .f64 (x 0) (y 0), .complex .f64 (x 1) (y 1), .complex .f64 (x 2) (y 2), .complex .f64 (x 3) (y 3)]) (hd : Arr 3 w d #[.int .i64 n])
    (hf : CIF x y c) (hc : szc c ≤ 1125899906842624) (hn : -9223372036854775808 ≤ n ∧ n ≤ 9223372036854775807) :
    Calls Try.prog 38 #[.int .i64 i, .pointer (some ⟨b, 0, none⟩), .pointer (some ⟨d, 0, none⟩)] w fun e w' => ∃ u v, e = .returned (.complex .f64 u v) ∧ (FI u (dR j (shc c (n % 4).toNat)) ∧ FI v (dI j (shc c (n % 4).toNat))) ∧ Below w.heap.size w w' := by
  subst hi
  have hbj : w.cell? ⟨b, j, none⟩ = some (.complex .f64 (x j) (y j)) := by
    rw [hb.c j]
    rcases (show j = 0 ∨ j = 1 ∨ j = 2 ∨ j = 3 by omega) with rfl | rfl | rfl | rfl <;> rfl
  have hdn : w.cell? ⟨d, 0, none⟩ = some (.int .i64 n) := hd.c 0
  obtain ⟨t, ht⟩ : ∃ t, n.tmod 4 = t := ⟨_, rfl⟩
  have ht3 : -3 ≤ t ∧ t ≤ 3 ∧ t % 4 = n % 4 := by
    have h1 := Int.tmod_lt_of_pos n (show (0 : Int) < 4 by decide)
    have h2 := Int.lt_tmod_of_pos n (show (0 : Int) < 4 by decide)
    have h3 := Int.mul_tdiv_add_tmod n 4
    omega
  have hwt : IntKind.i64.wrap t = t := IntWalk.i64_in _ (by omega)
  obtain ⟨m, hm⟩ : ∃ m : Nat, (n % 4).toNat = m := ⟨_, rfl⟩
  have hm4 : m < 4 ∧ (m : Int) = n % 4 := by omega
  obtain ⟨s, hs⟩ : ∃ s, (j : Int) * t = s := ⟨_, rfl⟩
  have hs9 : -9 ≤ s ∧ s ≤ 9 ∧ Rt s (j * m % 4) := by
    rw [← hs]
    rcases (show j = 0 ∨ j = 1 ∨ j = 2 ∨ j = 3 by omega) with rfl | rfl | rfl | rfl
    · exact ⟨by omega, by omega, by omega, by omega⟩
    · exact ⟨by omega, by omega, by omega, by omega⟩
    · exact ⟨by omega, by omega, by omega, by omega⟩
    · exact ⟨by omega, by omega, by omega, by omega⟩
  have hws : IntKind.i64.wrap s = s := IntWalk.i64_in _ (by omega)
  have hle := d_le4 c j hj
  have hfj := hf j hj
  obtain ⟨u, v, g1, fu, fv⟩ := cmul_rt (j * m % 4) hfj.1 hfj.2 (by omega) (by omega)
  have hsh := d_shift c m j hm4.1 hj
  rw [← hsh.1] at fu
  rw [← hsh.2] at fv
  rw [hm]
  have HN := Lib.hid (And.intro fu fv)
  have HRT := Lib.hid hs9.2.2
  have hmul : ∀ w, (binOp .mul 25 (.complex .f64 (x j) (y j)) (.complex .f64 (rre (j * m % 4)) (rim (j * m % 4)))).run Try.prog w = .ok (.complex .f64 u v) w := fun w => run_complex_mul w _ _ _ _ _ _ _ g1
  have hji : (j : Int) < 4 := by omega
  have dj : decide ((j : Int) < 4) = true := by simp; omega
  have dj' : decide (j < 4) = true := by simp; omega
  have dj2 : decide ((4 : Int) ≤ (j : Int)) = false := by simp; omega
  have HJ4 := Lib.hid hj
  clear hb hd hf hc hn hm hm4 hs9 hle hfj g1 fu fv hsh ht3
  go_enter Try.func38, Try.ntmps38
  go_upto_region 1 with fail
  go_quiet ((go_at_call 39; exact Calls.quiet_of_same ((root_any _ _ _ HRT.out).mono (fun e w2 h => ⟨(show e = .returned (.complex .f64 (rre (j * m % 4)) (rim (j * m % 4))) from h.1), h.2⟩))))
  go_wp2_with fail
  go_ret
  exact ⟨u, v, rfl, HN.out, below_drewN (Below.refl _ _) _⟩
theorem Arr.new2 (t : TypeId) (W : World) (o o2 : Obj) (cs : Array Value) : Arr t (((W.alloc o).alloc o2).alloc (.cells cs t)) (W.heap.size + 1 + 1) cs := by
  have h := Arr.new1 t (W.alloc o) o2 cs
  rwa [show (W.alloc o).heap.size = W.heap.size + 1 by simp] at h
theorem below_al {w W : World} (h : Below w.heap.size w W) (o : Obj) : Below w.heap.size w (W.alloc o) := h.alloc h.size _
theorem f4 {x y : Nat → Nat} {Q : Nat → Nat → Nat → Prop} (h : Q 0 (x 0) (y 0) ∧ Q 1 (x 1) (y 1) ∧ Q 2 (x 2) (y 2) ∧ Q 3 (x 3) (y 3)) : ∀ j < 4, Q j (x j) (y j) := all4 (Q := fun j => Q j (x j) (y j)) h.1 h.2.1 h.2.2.1 h.2.2.2

set_option maxRecDepth 20000 in
set_option maxHeartbeats 800000 in
theorem Shift_right (x y : Nat → Nat) (c : Nat → Int) (n : Int) (w : World) (hf : CIF x y c) (hc : szc c ≤ 1125899906842624) (hn : -9223372036854775808 ≤ n ∧ n ≤ 9223372036854775807) :
    Calls Try.prog 18 #[zf x y, .int .i64 n] w fun e w' => ∃ u v, e = .returned (.tuple #[zf u v, .int .i64 0]) ∧ CIF u v (shc c (n % 4).toNat) ∧ Below w.heap.size w w' := by
  have hmf : ∀ (fn : Fn) (first cap : Array Value) (w : World), (Instr.makeFunc fn first cap).run Try.prog w = .ok (.func fn first cap) w := fun _ _ _ _ => rfl
  obtain ⟨W, hW⟩ : ∃ W, ((w.alloc (.cells #[.complex .f64 (x 0) (y 0), .complex .f64 (x 1) (y 1), .complex .f64 (x 2) (y 2), .complex .f64 (x 3) (y 3)] 26)).alloc (.cells #[.int .i64 n] 3)).alloc ZO = W := ⟨_, rfl⟩
  have A1 : Arr 26 W w.heap.size #[.complex .f64 (x 0) (y 0), .complex .f64 (x 1) (y 1), .complex .f64 (x 2) (y 2), .complex .f64 (x 3) (y 3)] := by rw [← hW]; exact ((Arr.new _ _ _).al _).al _
  have A2 : Arr 3 W (w.heap.size + 1) #[.int .i64 n] := by rw [← hW]; exact (Arr.new1 _ _ _ _).al _
  have A3 : Arr 26 W (w.heap.size + 1 + 1) #[.complex .f64 0 0, .complex .f64 0 0, .complex .f64 0 0, .complex .f64 0 0] := by rw [← hW]; exact Arr.new2 _ _ _ _ _
  have hB : Below w.heap.size w W := by rw [← hW]; exact below_al (below_al (below_al (Below.refl _ _) _) _) _
  have HA := Lib.hid (And.intro A1 (And.intro A2 (And.intro A3 hB)))
  have HF := Lib.hid hf
  have HC := Lib.hid hc
  have HN := Lib.hid hn
  have HW := Lib.hid hW
  have hst := st_c
  clear hf hc hn A1 A2 A3 hB hW
  go_enter Try.func18, Try.ntmps18
  go_upto_region 1 with fail
  rw [HW.out]
  obtain ⟨⟨b0, b1, b2, b3⟩, -⟩ := HA.out.1.four
  go_upto_region 2 with (go_at_call 23; refine (Classes_right x y c _ HF.out HC.out).mono ?_; rintro e w1 ⟨rfl, k1⟩; have k2 := below_al k1 (.cells (ic4 c) 40); have B1 := Lib.hid (And.intro (HA.out.1.step k2) (And.intro (HA.out.2.1.step k2) (And.intro (HA.out.2.2.1.step k2) (below_step HA.out.2.2.2 k2)))); clear k1 k2)
  generalize w1.alloc (.cells (ic4 c) 40) = W2 at B1 ⊢
  clear b0 b1 b2 b3 HA
  have HD : Hid (Does 38 #[.pointer (some ⟨w.heap.size, 0, none⟩), .pointer (some ⟨w.heap.size + 1, 0, none⟩)] W2.heap.size W2 fun j u v => FI u (dR j (shc c (n % 4).toNat)) ∧ FI v (dI j (shc c (n % 4).toNat))) := Lib.hid fun j i W' hj hi k => shift1_any j i hj hi w.heap.size (w.heap.size + 1) x y c n W' (B1.out.1.step k) (B1.out.2.1.step k) HF.out HC.out HN.out
  go_wp2_with (go_at_call 37; refine (eachShift_any _ _ _ _ HD.out).mono ?_; rintro e w3 ⟨x0, y0, x1, y1, x2, y2, x3, y3, rfl, o3, k3⟩; have B3 := Lib.hid (And.intro (B1.out.2.2.1.step k3) (below_step B1.out.2.2.2 k3)); obtain ⟨u, v, rfl, rfl, rfl, rfl, rfl, rfl, rfl, rfl⟩ := fun4 x0 y0 x1 y1 x2 y2 x3 y3; have O3 : Hid (CIF u v (shc c (n % 4).toNat)) := Lib.hid (f4 (Q := fun j a b => FI a (dR j (shc c (n % 4).toNat)) ∧ FI b (dI j (shc c (n % 4).toNat))) o3); obtain ⟨⟨s0, s1, s2, s3⟩, q0, q1, q2, q3⟩ := B3.out.1.four; clear o3 k3)
  have P9 := B3.out.1.put4 (.complex .f64 (u 0) (v 0)) (.complex .f64 (u 1) (v 1)) (.complex .f64 (u 2) (v 2)) (.complex .f64 (u 3) (v 3))
  obtain ⟨⟨z0, z1, z2, z3⟩, -⟩ := P9.four
  exact bodyPost_ret (v := .tuple #[zf u v, .int .i64 0]) (by simp [results, Try.results18, go_sem, z0, z1, z2, z3]) rfl ⟨_, _, rfl, O3.out, below_set4 B3.out.2 (by omega) _ _ _ _⟩
end Go.Proofs.Ythidfmkmklnhhaa
