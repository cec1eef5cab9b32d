/- Walks: Times, Norms, of right sums. -/
import Derived.Test.YthidfmkmklnhhaaProg
import Derived.Test.YthidfmkmklnhhaaYl
import Derived.Deep.RegionHeld3
namespace Go.Proofs.Ythidfmkmklnhhaa
open Go.RowKit
set_option linter.unusedVariables false

theorem small_ok (x y : Nat → Nat) (c : Nat → Int) (w : World) (hf : CIF x y c) (hc : szc c ≤ 16777216) :
    Calls Try.prog 40 #[zf x y] w fun e w' => e = .returned (.int .i64 0) ∧ Below w.heap.size w w' :=
  (small_right x y c w hf (Nat.le_trans hc (by decide))).mono fun e w' h => by
    obtain ⟨err, rfl, h, k⟩ := h
    rcases h with ⟨_, rfl⟩ | ⟨h, _⟩
    · exact ⟨rfl, k⟩
    · exact absurd hc h
/-- What the two arguments and the result's box hold. -/
def TB (w0 : World) (b d r : Nat) (x y x' y' : Nat → Nat) (w : World) : Prop := Arr 26 w b #[.complex .f64 (x 0) (y 0), .complex .f64 (x 1) (y 1), .complex .f64 (x 2) (y 2), .complex .f64 (x 3) (y 3)] ∧ Arr 26 w d #[.complex .f64 (x' 0) (y' 0), .complex .f64 (x' 1) (y' 1), .complex .f64 (x' 2) (y' 2), .complex .f64 (x' 3) (y' 3)] ∧ Arr 26 w r #[.complex .f64 0 0, .complex .f64 0 0, .complex .f64 0 0, .complex .f64 0 0] ∧ Below w0.heap.size w0 w
abbrev C4 (b : Nat) (x y : Nat → Nat) (w : World) : Prop := w.cell? ⟨b, 0, none⟩ = some (.complex .f64 (x 0) (y 0)) ∧ w.cell? ⟨b, 1, none⟩ = some (.complex .f64 (x 1) (y 1)) ∧ w.cell? ⟨b, 2, none⟩ = some (.complex .f64 (x 2) (y 2)) ∧ w.cell? ⟨b, 3, none⟩ = some (.complex .f64 (x 3) (y 3))
theorem TB.step {w0 : World} {b d r : Nat} {x y x' y' : Nat → Nat} {w w' : World} (h : TB w0 b d r x y x' y' w) (k : Below w.heap.size w w') : TB w0 b d r x y x' y' w' := ⟨h.1.step k, h.2.1.step k, h.2.2.1.step k, below_step h.2.2.2 k⟩
theorem keepT {w0 w1 w2 : World} {b d r : Nat} {x y x' y' : Nat → Nat} (h : (C4 b x y w1 ∧ C4 d x' y' w1) ∧ TB w0 b d r x y x' y' w1) (k : Below w1.heap.size w1 w2) : (C4 b x y w2 ∧ C4 d x' y' w2) ∧ TB w0 b d r x y x' y' w2 :=
  have h2 := h.2.step k
  ⟨⟨h2.1.four.1, h2.2.1.four.1⟩, h2⟩
theorem keepT0 {w0 w1 : World} {b d r : Nat} {x y x' y' : Nat → Nat} (h : (C4 b x y w1 ∧ C4 d x' y' w1) ∧ TB w0 b d r x y x' y' w1) : (C4 b x y w1.drew ∧ C4 d x' y' w1.drew) ∧ TB w0 b d r x y x' y' w1.drew := keepT h (Below.refl _ _).drew

set_option maxRecDepth 20000 in
set_option maxHeartbeats 1600000 in
theorem Times_right (x y x' y' : Nat → Nat) (c c' : Nat → Int) (w : World) (hf : CIF x y c) (hf' : CIF x' y' c') (hc : szc c ≤ 16777216) (hc' : szc c' ≤ 16777216) :
    Calls Try.prog 20 #[zf x y, zf x' y'] w fun e w' => ∃ u v, e = .returned (.tuple #[zf u v, .int .i64 0]) ∧ CIF u v (mulc c c') ∧ Below w.heap.size w w' := by
  have hmf : ∀ (fn : Fn) (first cap : Array Value) (w : World), (Instr.makeFunc fn first cap).run Try.prog w = .ok (.func fn first cap) w := fun _ _ _ _ => rfl
  obtain ⟨W, hW⟩ : ∃ W, ((w.alloc (.cells #[.complex .f64 (x 0) (y 0), .complex .f64 (x 1) (y 1), .complex .f64 (x 2) (y 2), .complex .f64 (x 3) (y 3)] 26)).alloc (.cells #[.complex .f64 (x' 0) (y' 0), .complex .f64 (x' 1) (y' 1), .complex .f64 (x' 2) (y' 2), .complex .f64 (x' 3) (y' 3)] 26)).alloc ZO = W := ⟨_, rfl⟩
  have HA : Hid (TB w w.heap.size (w.heap.size + 1) (w.heap.size + 1 + 1) x y x' y' W) := Lib.hid ⟨by rw [← hW]; exact ((Arr.new _ _ _).al _).al _, by rw [← hW]; exact (Arr.new1 _ _ _ _).al _, by rw [← hW]; exact Arr.new2 _ _ _ _ _, by rw [← hW]; exact below_al (below_al (below_al (Below.refl _ _) _) _) _⟩
  have HF := Lib.hid (And.intro hf hf')
  have HC := Lib.hid (And.intro hc hc')
  have HW := Lib.hid hW
  have hst := st_c
  clear hf hc hf' hc' hW
  go_enter Try.func20, Try.ntmps20
  go_upto_region 1 with fail
  rw [HW.out]
  clear HW
  have hS0 : (C4 w.heap.size x y W ∧ C4 (w.heap.size + 1) x' y' W) ∧ TB w w.heap.size (w.heap.size + 1) (w.heap.size + 1 + 1) x y x' y' W := ⟨⟨HA.out.1.four.1, HA.out.2.1.four.1⟩, HA.out⟩
  go_region_held3 (fun w' => (C4 w.heap.size x y w' ∧ C4 (w.heap.size + 1) x' y' w') ∧ TB w w.heap.size (w.heap.size + 1) (w.heap.size + 1 + 1) x y x' y' w') (first | exact keepT0 hS0 | exact keepT (by assumption) (by assumption) | assumption) (first
    | (go_at_call_of 40 (Value.agg #[.complex .f64 (x 0) (y 0), .complex .f64 (x 1) (y 1), .complex .f64 (x 2) (y 2), .complex .f64 (x 3) (y 3)]); refine (small_ok x y c _ HF.out.1 HC.out.1).mono ?_; rintro e w' ⟨rfl, kk⟩)
    | (go_at_call_of 40 (Value.agg #[.complex .f64 (x' 0) (y' 0), .complex .f64 (x' 1) (y' 1), .complex .f64 (x' 2) (y' 2), .complex .f64 (x' 3) (y' 3)]); refine (small_ok x' y' c' _ HF.out.2 HC.out.2).mono ?_; rintro e w' ⟨rfl, kk⟩))
  rename_i hH
  have B1 := Lib.hid hH.2
  clear hH hS0 HA
  go_upto_region 6 with fail
  have HD : Hid (Does 41 #[.pointer (some ⟨w.heap.size, 0, none⟩), .pointer (some ⟨w.heap.size + 1, 0, none⟩)] w'.heap.size w' fun j u v => FI u (dR j (mulc c c')) ∧ FI v (dI j (mulc c c'))) := Lib.hid fun j i W' hj hi k => times1_any j i hj hi w.heap.size (w.heap.size + 1) x y x' y' c c' W' (B1.out.1.step k) (B1.out.2.1.step k) HF.out.1 HF.out.2 HC.out.1 HC.out.2
  go_wp2_with (go_at_call 37; refine (eachTimes_any _ _ _ _ HD.out).mono ?_; rintro e w3 ⟨x0, y0, x1, y1, x2, y2, x3, y3, rfl, o3, k3⟩; have B3 := Lib.hid (And.intro (B1.out.2.2.1.step k3) (below_step B1.out.2.2.2 k3)); obtain ⟨u, v, rfl, rfl, rfl, rfl, rfl, rfl, rfl, rfl⟩ := fun4 x0 y0 x1 y1 x2 y2 x3 y3; have O3 : Hid (CIF u v (mulc c c')) := Lib.hid (f4 (Q := fun j a b => FI a (dR j (mulc c c')) ∧ FI b (dI j (mulc c c'))) o3); obtain ⟨⟨s0, s1, s2, s3⟩, q0, q1, q2, q3⟩ := B3.out.1.four; clear o3 k3)
  have P9 := B3.out.1.put4 (.complex .f64 (u 0) (v 0)) (.complex .f64 (u 1) (v 1)) (.complex .f64 (u 2) (v 2)) (.complex .f64 (u 3) (v 3))
  obtain ⟨⟨z0, z1, z2, z3⟩, -⟩ := P9.four
  exact bodyPost_ret (v := .tuple #[zf u v, .int .i64 0]) (by simp [results, Try.results20, go_sem, z0, z1, z2, z3]) rfl ⟨_, _, rfl, O3.out, below_set4 B3.out.2 (by omega) _ _ _ _⟩

/-- The squares of the absolute values. -/
def nrm (c : Nat → Int) (j : Nat) : Int := dR j c * dR j c + dI j c * dI j c
theorem nrm_le (c : Nat → Int) (j : Nat) (hj : j < 4) (h : szc c ≤ 16777216) : (dR j c * dR j c).natAbs ≤ 281474976710656 ∧ (dI j c * dI j c).natAbs ≤ 281474976710656 := by
  have h1 := d_le4 c j hj
  have m1 := mul_le (show (dR j c).natAbs ≤ 16777216 by omega) (show (dR j c).natAbs ≤ 16777216 by omega)
  have m2 := mul_le (show (dI j c).natAbs ≤ 16777216 by omega) (show (dI j c).natAbs ≤ 16777216 by omega)
  exact ⟨Nat.le_trans m1 (by decide), Nat.le_trans m2 (by decide)⟩
theorem fmul_fi {x y : Nat} {a b : Int} (hx : FI x a) (hy : FI y b) (h : (a * b).natAbs ≤ 9007199254740992) : ∃ r, FI r (a * b) ∧ ∀ w, (binOp .mul 50 (.float .f64 x) (.float .f64 y)).run Try.prog w = .ok (.float .f64 r) w := by
  obtain ⟨r, e1, f1⟩ := FQ.mul hx hy (by decide) h
  exact ⟨r, f1, fun w => run_float_arith w .mul _ .f64 x y r e1⟩
theorem fadd_fi {x y : Nat} {a b : Int} (hx : FI x a) (hy : FI y b) (h : (a + b).natAbs ≤ 9007199254740992) : ∃ r, FI r (a + b) ∧ ∀ w, (binOp .add 50 (.float .f64 x) (.float .f64 y)).run Try.prog w = .ok (.float .f64 r) w := by
  obtain ⟨r, e1, f1⟩ := FQ.add hx hy (by decide) h
  exact ⟨r, f1, fun w => run_float_arith w .add _ .f64 x y r e1⟩

set_option maxRecDepth 20000 in
set_option maxHeartbeats 1600000 in
theorem Norms_right (x y : Nat → Nat) (c : Nat → Int) (w : World) (hf : CIF x y c) (hc : szc c ≤ 16777216) :
    Calls Try.prog 22 #[zf x y] w fun e w' => e = .returned (.tuple #[iv4 (nrm c), .int .i64 0]) ∧ Below w.heap.size w w' := by
  obtain ⟨W, hW⟩ : ∃ W, (w.alloc (.cells #[.complex .f64 (x 0) (y 0), .complex .f64 (x 1) (y 1), .complex .f64 (x 2) (y 2), .complex .f64 (x 3) (y 3)] 26)).alloc (.cells #[.int .i64 0, .int .i64 0, .int .i64 0, .int .i64 0] 40) = W := ⟨_, rfl⟩
  have A1 : Arr 26 W w.heap.size #[.complex .f64 (x 0) (y 0), .complex .f64 (x 1) (y 1), .complex .f64 (x 2) (y 2), .complex .f64 (x 3) (y 3)] := by rw [← hW]; exact (Arr.new _ _ _).al _
  have A2 : Arr 40 W (w.heap.size + 1) #[.int .i64 0, .int .i64 0, .int .i64 0, .int .i64 0] := by rw [← hW]; exact Arr.new1 _ _ _ _
  have hB : Below w.heap.size w W := by rw [← hW]; exact below_al (below_al (Below.refl _ _) _) _
  have HA := Lib.hid (And.intro A1 (And.intro A2 hB))
  have HF := Lib.hid hf
  have HC := Lib.hid hc
  have HW := Lib.hid hW
  clear hf hc A1 A2 hB hW
  go_enter Try.func22, Try.ntmps22
  go_upto_region 1 with fail
  rw [HW.out]
  obtain ⟨⟨b0, b1, b2, b3⟩, -⟩ := HA.out.1.four
  go_upto_region 4 with (go_at_call 40; refine (small_ok x y c _ HF.out HC.out).mono ?_; rintro e w1 ⟨rfl, k1⟩; have B1 := Lib.hid (And.intro (HA.out.1.step k1) (And.intro (HA.out.2.1.step k1) (below_step HA.out.2.2 k1))); clear k1)
  clear b0 b1 b2 b3 HA
  go_upto_region 5 with fail
  have B3 : Hid (Arr 26 (w1.alloc (.cells #[.int .i64 0, .int .i64 0, .int .i64 0, .int .i64 0] 40)) w.heap.size #[.complex .f64 (x 0) (y 0), .complex .f64 (x 1) (y 1), .complex .f64 (x 2) (y 2), .complex .f64 (x 3) (y 3)] ∧ Arr 40 (w1.alloc (.cells #[.int .i64 0, .int .i64 0, .int .i64 0, .int .i64 0] 40)) (w.heap.size + 1) #[.int .i64 0, .int .i64 0, .int .i64 0, .int .i64 0] ∧ Arr 40 (w1.alloc (.cells #[.int .i64 0, .int .i64 0, .int .i64 0, .int .i64 0] 40)) w1.heap.size (ic4 (cut4 (nrm c) 0)) ∧ Below w.heap.size w (w1.alloc (.cells #[.int .i64 0, .int .i64 0, .int .i64 0, .int .i64 0] 40)) ∧ (w.heap.size + 1 ≠ w1.heap.size ∧ w.heap.size ≠ w1.heap.size ∧ w.heap.size ≤ w1.heap.size)) := Lib.hid ⟨B1.out.1.al _, B1.out.2.1.al _, Arr.new _ _ _, B1.out.2.2.alloc B1.out.2.2.size _, by have := B1.out.2.1.lt; omega, by have := B1.out.1.lt; omega, B1.out.2.2.size⟩
  generalize w1.alloc (.cells #[.int .i64 0, .int .i64 0, .int .i64 0, .int .i64 0] 40) = W3 at B3 ⊢
  generalize w1.heap.size = b7 at B3 ⊢
  clear B1
  obtain ⟨⟨b0, b1, b2, b3⟩, -⟩ := B3.out.1.four
  go_wp2_with fail
  clear b0 b1 b2 b3
  go_loopw [15] (fun iv wr => ∃ k : Nat, Hid (k ≤ 4) ∧ iv = .int .i64 (k : Int) ∧ Hid (Arr 40 wr (w.heap.size + 1) #[.int .i64 0, .int .i64 0, .int .i64 0, .int .i64 0] ∧ Arr 40 wr b7 (ic4 (cut4 (nrm c) k)) ∧ Below w.heap.size w wr)) (fun iv _ => 4 - (intOf iv).toNat)
  case atStart => exact ⟨0, Lib.hid (Nat.zero_le _), rfl, Lib.hid ⟨B3.out.2.1, B3.out.2.2.1, B3.out.2.2.2.1⟩⟩
  case round =>
    have HNE := Lib.hid B3.out.2.2.2.2
    clear B3
    obtain ⟨k, HK, rfl, HA⟩ := hrel
    by_cases hlt : k < 4
    · have d0 : decide ((k : Int) < 4) = true := by simp; omega
      have d0' : decide (k < 4) = true := by simp; omega
      have hk3 : (k : Int) ≤ 3 := by omega
      have hix := ix_z x y k hlt
      have hok := HF.out k hlt
      have hle := nrm_le c k hlt HC.out
      obtain ⟨a, fa, ha⟩ := fmul_fi hok.1 hok.1 (by omega)
      obtain ⟨b, fb, hb⟩ := fmul_fi hok.2 hok.2 (by omega)
      obtain ⟨s, fs, hs⟩ := fadd_fi fa fb (by omega)
      have hcv := toInt_fi fs (by omega)
      obtain ⟨N, hN⟩ : ∃ N, nrm c k = N := ⟨_, rfl⟩
      rw [show dR k c * dR k c + dI k c * dI k c = N from hN] at hcv
      have hc7 : wr.cell? ⟨b7, k, none⟩ = some (.int .i64 0) := (HA.out.2.1.c k).trans (cut4_get _ k hlt)
      have hf7 := HA.out.2.1.f k
      have HLT := Lib.hid hlt
      have HA2 : Hid (Arr 40 (wr.setCell ⟨b7, k, none⟩ (.int .i64 N)) (w.heap.size + 1) #[.int .i64 0, .int .i64 0, .int .i64 0, .int .i64 0] ∧ Arr 40 (wr.setCell ⟨b7, k, none⟩ (.int .i64 N)) b7 (ic4 (cut4 (nrm c) (k + 1))) ∧ Below w.heap.size w (wr.setCell ⟨b7, k, none⟩ (.int .i64 N))) := Lib.hid ⟨HA.out.1.other (k := k) (.int .i64 N) HNE.out.1, by have h := cut4_set (nrm c) k hlt; rw [hN] at h; rw [← h]; exact HA.out.2.1.set k (.int .i64 N), HA.out.2.2.setCell (show w.heap.size ≤ (⟨b7, k, none⟩ : Addr).block from HNE.out.2.2) (.int .i64 N)⟩
      clear hlt hok hle fa fb fs hN
      go_wp2_with fail
      go_roundw
      case rel => exact ⟨k + 1, Lib.hid HLT.out, by go_num, HA2⟩
      case measure => have := HLT.out; simp [intOf]; omega
    · obtain rfl : k = 4 := by have := HK.out; omega
      clear hlt HK
      have A7 : Arr 40 wr b7 (ic4 (nrm c)) := by have h := HA.out.2.1; rwa [cut4_all] at h
      obtain ⟨⟨c0, c1, c2, c3⟩, -⟩ := A7.four
      obtain ⟨⟨s0, s1, s2, s3⟩, q0, q1, q2, q3⟩ := HA.out.1.four
      clear A7
      go_wp2_with fail
      have P9 := HA.out.1.put4 (.int .i64 (nrm c 0)) (.int .i64 (nrm c 1)) (.int .i64 (nrm c 2)) (.int .i64 (nrm c 3))
      obtain ⟨⟨z0, z1, z2, z3⟩, -⟩ := P9.four
      exact bodyPost_ret (v := .tuple #[iv4 (nrm c), .int .i64 0]) (by simp [results, Try.results22, go_sem, z0, z1, z2, z3]) rfl ⟨rfl, below_set4 HA.out.2.2 (Nat.le_succ _) _ _ _ _⟩
end Go.Proofs.Ythidfmkmklnhhaa
