/- Walks: PhaseNorms. Printed by gen_yw.py. -/
import Derived.Test.YthidfmkmklnhhaaProg
import Derived.Test.YthidfmkmklnhhaaYv
import Derived.Deep.DeepCutAuto
namespace Go.Proofs.Ythidfmkmklnhhaa
open Go.RowKit
set_option linter.unusedVariables false

theorem prod_le {a b : Int} (ha : 0 ≤ a) (hb : 0 ≤ b) (h1 : a ≤ 33488928) (h2 : b ≤ 33488928) : 0 ≤ a * b ∧ a * b ≤ 1121508298637184 := by
  have h3 := Int.mul_nonneg ha hb
  have h4 : a * b ≤ 33488928 * 33488928 := Int.mul_le_mul h1 h2 hb (by decide)
  exact ⟨h3, by omega⟩
theorem nrm_small (c : Nat → Int) (j : Nat) (hj : j < 4) (h : szc c ≤ 4092) : 0 ≤ nrm c j ∧ nrm c j ≤ 33488928 := by
  have h1 := d_le4 c j hj
  have a := sq_le (show (dR j c).natAbs ≤ 4092 by omega)
  have b := sq_le (show (dI j c).natAbs ≤ 4092 by omega)
  unfold nrm
  omega

set_option maxRecDepth 20000 in
set_option maxHeartbeats 4000000 in
theorem PhaseNorms_any (c d : Nat → Int) (n : Int) (w : World) (hn : -9223372036854775808 ≤ n ∧ n ≤ 9223372036854775807) :
    Calls Try.prog 10 #[iv4 c, iv4 d, .int .i64 n] w fun e w' => e = .returned (.bool true) ∧ Below w.heap.size w w' := by
  have hst := st_c
  have hni := neq_i
  obtain ⟨W, hW⟩ : ∃ W, (w.alloc (.cells (ic4 c) 40)).alloc (.cells (ic4 d) 40) = W := ⟨_, rfl⟩
  have A1 : Arr 40 W w.heap.size (ic4 (mix c 0)) := by rw [← hW, show ic4 (mix c 0) = ic4 c by simp [mix]]; exact (Arr.new _ _ _).al _
  have A2 : Arr 40 W (w.heap.size + 1) (ic4 (mix d 0)) := by rw [← hW, show ic4 (mix d 0) = ic4 d by simp [mix]]; exact Arr.new1 _ _ _ _
  have hB : Below w.heap.size w W := by rw [← hW]; exact below_al (below_al (Below.refl _ _) _) _
  have HA := Lib.hid (And.intro A1 (And.intro A2 hB))
  have HW := Lib.hid hW
  have HN := Lib.hid hn
  clear A1 A2 hB hW hn
  go_enter Try.func10, Try.ntmps10
  go_wp2_with (go_at_call 13; rw [HW.out]; refine (awake_any _).mono ?_; rintro e w0 ⟨rfl, k0⟩; have HB0 : Hid (Arr 40 w0 w.heap.size (ic4 (mix c 0)) ∧ Arr 40 w0 (w.heap.size + 1) (ic4 (mix d 0)) ∧ Below w.heap.size w w0) := Lib.hid ⟨HA.out.1.step k0, HA.out.2.1.step k0, below_step HA.out.2.2 k0⟩; clear k0)
  clear HA HW
  go_loopw [7, 28] (fun sv iv wr => ∃ k : Nat, Hid (k ≤ 4) ∧ iv = .int .i64 (k : Int) ∧ sv = .int .i64 (sqs c k) ∧ Hid (Arr 40 wr w.heap.size (ic4 (mix c k)) ∧ Arr 40 wr (w.heap.size + 1) (ic4 (mix d k)) ∧ Below w.heap.size w wr)) (fun _ iv _ => 4 - (intOf iv).toNat)
  case atStart => exact ⟨0, Lib.hid (Nat.zero_le _), rfl, rfl, HB0⟩
  case round =>
    clear HB0
    obtain ⟨k, HK, rfl, rfl, HB⟩ := hrel
    have hsq := sqs_le c k
    by_cases hlt : k < 4
    · have d0 : decide ((k : Int) < 4) = true := by simp; omega
      have d0' : decide (k < 4) = true := by simp; omega
      have hk3 : (k : Int) ≤ 3 := by omega
      have hk4 : (k : Int) < 4 := by omega
      have e0 : wr.cell? ⟨w.heap.size, k, none⟩ = some (.int .i64 (c k)) := (HB.out.1.c k).trans (mix_get c k hlt)
      have e1 : wr.cell? ⟨w.heap.size + 1, k, none⟩ = some (.int .i64 (d k)) := (HB.out.2.1.c k).trans (mix_get d k hlt)
      have f0 := HB.out.1.f k
      have f1 := HB.out.2.1.f k
      have hcl := red_le c k
      have hdl := red_le d k
      have hms := mix_set c k hlt
      have hmd := mix_set d k hlt
      have hqn : sqs c (k + 1) = sqs c k + red c k * red c k := rfl
      have hql := sq_le hcl
      have hq2 := sqs_le c (k + 1)
      obtain ⟨t, ht⟩ : ∃ t, (c k).tmod 1024 = t := ⟨_, rfl⟩
      obtain ⟨u, hu⟩ : ∃ u, (d k).tmod 1024 = u := ⟨_, rfl⟩
      rw [show red c k = t from ht] at hcl hqn hql
      rw [show red d k = u from hu] at hdl
      rw [ht] at hms
      rw [hu] at hmd
      obtain ⟨s, hs⟩ : ∃ s, sqs c k = s := ⟨_, rfl⟩
      rw [hs] at hqn hsq ⊢
      obtain ⟨tt, htt⟩ : ∃ tt, t * t = tt := ⟨_, rfl⟩
      rw [htt] at hqn hql
      rw [hqn] at hq2
      have hwt : IntKind.i64.wrap t = t := IntWalk.i64_in _ (by omega)
      have hwu : IntKind.i64.wrap u = u := IntWalk.i64_in _ (by omega)
      have hwtt : IntKind.i64.wrap tt = tt := IntWalk.i64_in _ (by omega)
      have hwtt2 : wrap64 tt = tt := IntWalk.wrap64_in _ (by omega)
      have hws : wrap64 (s + tt) = s + tt := IntWalk.wrap64_in _ (by omega)
      have hws2 : IntKind.i64.wrap (s + tt) = s + tt := IntWalk.i64_in _ (by omega)
      have HQ := Lib.hid hqn
      have HLT := Lib.hid hlt
      have HB2 : Hid (Arr 40 ((wr.setCell ⟨w.heap.size, k, none⟩ (.int .i64 t)).setCell ⟨w.heap.size + 1, k, none⟩ (.int .i64 u)) w.heap.size (ic4 (mix c (k + 1))) ∧ Arr 40 ((wr.setCell ⟨w.heap.size, k, none⟩ (.int .i64 t)).setCell ⟨w.heap.size + 1, k, none⟩ (.int .i64 u)) (w.heap.size + 1) (ic4 (mix d (k + 1))) ∧ Below w.heap.size w ((wr.setCell ⟨w.heap.size, k, none⟩ (.int .i64 t)).setCell ⟨w.heap.size + 1, k, none⟩ (.int .i64 u))) := Lib.hid ⟨by rw [← hms]; exact (HB.out.1.set k (.int .i64 t)).other (k := k) (.int .i64 u) (by omega), by rw [← hmd]; exact (HB.out.2.1.other (k := k) (.int .i64 t) (by omega)).set k (.int .i64 u), (HB.out.2.2.setCell (show w.heap.size ≤ (⟨w.heap.size, k, none⟩ : Addr).block from Nat.le_refl _) _).setCell (show w.heap.size ≤ (⟨w.heap.size + 1, k, none⟩ : Addr).block from Nat.le_succ _) _⟩
      have HB3 : Hid (Arr 40 ((wr.setCell ⟨w.heap.size + 1, k, none⟩ (.int .i64 u)).setCell ⟨w.heap.size, k, none⟩ (.int .i64 t)) w.heap.size (ic4 (mix c (k + 1))) ∧ Arr 40 ((wr.setCell ⟨w.heap.size + 1, k, none⟩ (.int .i64 u)).setCell ⟨w.heap.size, k, none⟩ (.int .i64 t)) (w.heap.size + 1) (ic4 (mix d (k + 1))) ∧ Below w.heap.size w ((wr.setCell ⟨w.heap.size + 1, k, none⟩ (.int .i64 u)).setCell ⟨w.heap.size, k, none⟩ (.int .i64 t))) := Lib.hid ⟨by rw [← hms]; exact (HB.out.1.other (k := k) (.int .i64 u) (by omega)).set k (.int .i64 t), by rw [← hmd]; exact (HB.out.2.1.set k (.int .i64 u)).other (k := k) (.int .i64 t) (by omega), (HB.out.2.2.setCell (show w.heap.size ≤ (⟨w.heap.size + 1, k, none⟩ : Addr).block from Nat.le_succ _) _).setCell (show w.heap.size ≤ (⟨w.heap.size, k, none⟩ : Addr).block from Nat.le_refl _) _⟩
      have hmk : (ic4 (mix c (k + 1)))[k]? = some (.int .i64 t) := by rw [cs_get _ k hlt]; simp [mix, ht]
      have HMK := Lib.hid hmk
      clear hlt hcl hdl hms hmd hqn hql hq2 hs hsq hmk HB3
      go_wp2_with fail
      go_region
      have HB4 : Hid (Arr 40 (((wr.setCell ⟨w.heap.size, k, none⟩ (.int .i64 t)).setCell ⟨w.heap.size + 1, k, none⟩ (.int .i64 u)).drew) w.heap.size (ic4 (mix c (k + 1))) ∧ Arr 40 (((wr.setCell ⟨w.heap.size, k, none⟩ (.int .i64 t)).setCell ⟨w.heap.size + 1, k, none⟩ (.int .i64 u)).drew) (w.heap.size + 1) (ic4 (mix d (k + 1))) ∧ Below w.heap.size w (((wr.setCell ⟨w.heap.size, k, none⟩ (.int .i64 t)).setCell ⟨w.heap.size + 1, k, none⟩ (.int .i64 u)).drew)) := Lib.hid ⟨HB2.out.1, HB2.out.2.1, HB2.out.2.2.drew⟩
      generalize ((wr.setCell ⟨w.heap.size, k, none⟩ (.int .i64 t)).setCell ⟨w.heap.size + 1, k, none⟩ (.int .i64 u)).drew = V at HB4 ⊢
      clear HB2 e0 e1 f0 f1 HB
      have e2 : V.cell? ⟨w.heap.size, k, none⟩ = some (.int .i64 t) := (HB4.out.1.c k).trans HMK.out
      go_wp2_with fail
      go_quiet (fail)
      go_wp2_with fail
      go_roundw
      case rel => exact ⟨k + 1, Lib.hid HLT.out, by go_num, by rw [HQ.out], Lib.hid ⟨HB4.out.1, HB4.out.2.1, below_drewN HB4.out.2.2 _⟩⟩
      case measure => have := HLT.out; simp [intOf]; omega
    · obtain rfl : k = 4 := by have := HK.out; omega
      clear hlt
      have hm1 := mix_all c
      have hm2 := mix_all d
      have hs4 := sqs4 c
      have hnsum := nrm_sum (red c)
      have HCR := Lib.hid (szc_red c)
      have HDR := Lib.hid (szc_red d)
      obtain ⟨a, ha⟩ : ∃ a, red c = a := ⟨_, rfl⟩
      obtain ⟨b, hb⟩ : ∃ b, red d = b := ⟨_, rfl⟩
      rw [ha] at hm1 hs4 hnsum HCR
      rw [hb] at hm2 HDR
      rw [← hs4] at hnsum
      obtain ⟨s, hs⟩ : ∃ s, sqs c 4 = s := ⟨_, rfl⟩
      rw [hs] at hnsum hsq ⊢
      have B0 : Hid (Below w.heap.size w wr ∧ Arr 40 wr w.heap.size (ic4 a) ∧ Arr 40 wr (w.heap.size + 1) (ic4 b)) := Lib.hid ⟨HB.out.2.2, by rw [← hm1]; exact HB.out.1, by rw [← hm2]; exact HB.out.2.1⟩
      have HNS := Lib.hid (And.intro hnsum hsq)
      clear hm1 hm2 hs4 ha hb hs hsq hnsum HB HK
      generalize hV0 : wr = V0 at B0 ⊢
      clear hV0
      obtain ⟨m, hm⟩ : ∃ m : Nat, (n % 4).toNat = m := ⟨_, rfl⟩
      have HM := Lib.hid (And.intro hm (show m < 4 by omega))
      clear hm
      obtain ⟨⟨p0, p1, p2, p3⟩, -⟩ := (B0.out.2.1).four
      go_upto_region 11 with (go_at_call 27; refine (Row_right a _ (by have := HCR.out; omega)).mono ?_; rintro e w1 ⟨xa, ya, rfl, f, kk⟩; have Fa := Lib.hid f; clear f; have B1 : Hid (Below w.heap.size w (w1.alloc (.cells #[.complex .f64 (xa 0) (ya 0), .complex .f64 (xa 1) (ya 1), .complex .f64 (xa 2) (ya 2), .complex .f64 (xa 3) (ya 3)] 26)) ∧ Arr 40 (w1.alloc (.cells #[.complex .f64 (xa 0) (ya 0), .complex .f64 (xa 1) (ya 1), .complex .f64 (xa 2) (ya 2), .complex .f64 (xa 3) (ya 3)] 26)) w.heap.size (ic4 a) ∧ Arr 40 (w1.alloc (.cells #[.complex .f64 (xa 0) (ya 0), .complex .f64 (xa 1) (ya 1), .complex .f64 (xa 2) (ya 2), .complex .f64 (xa 3) (ya 3)] 26)) (w.heap.size + 1) (ic4 b) ∧ Arr 26 (w1.alloc (.cells #[.complex .f64 (xa 0) (ya 0), .complex .f64 (xa 1) (ya 1), .complex .f64 (xa 2) (ya 2), .complex .f64 (xa 3) (ya 3)] 26)) w1.heap.size #[.complex .f64 (xa 0) (ya 0), .complex .f64 (xa 1) (ya 1), .complex .f64 (xa 2) (ya 2), .complex .f64 (xa 3) (ya 3)]) := Lib.hid ⟨below_al (below_step (B0.out.1) kk) (.cells #[.complex .f64 (xa 0) (ya 0), .complex .f64 (xa 1) (ya 1), .complex .f64 (xa 2) (ya 2), .complex .f64 (xa 3) (ya 3)] 26), ((B0.out.2.1).step kk).al (.cells #[.complex .f64 (xa 0) (ya 0), .complex .f64 (xa 1) (ya 1), .complex .f64 (xa 2) (ya 2), .complex .f64 (xa 3) (ya 3)] 26), ((B0.out.2.2).step kk).al (.cells #[.complex .f64 (xa 0) (ya 0), .complex .f64 (xa 1) (ya 1), .complex .f64 (xa 2) (ya 2), .complex .f64 (xa 3) (ya 3)] 26), Arr.new _ _ _⟩; clear kk; (try skip))
      generalize w1.alloc (.cells #[.complex .f64 (xa 0) (ya 0), .complex .f64 (xa 1) (ya 1), .complex .f64 (xa 2) (ya 2), .complex .f64 (xa 3) (ya 3)] 26) = V1 at B1 ⊢
      generalize w1.heap.size = g1 at B1 ⊢
      clear B0
      clear p0 p1 p2 p3
      obtain ⟨⟨p0, p1, p2, p3⟩, -⟩ := (B1.out.2.2.1).four
      go_upto_region 12 with (go_at_call 27; refine (Row_right b _ (by have := HDR.out; omega)).mono ?_; rintro e w2 ⟨xb, yb, rfl, f, kk⟩; have Fb := Lib.hid f; clear f; have B2 : Hid (Below w.heap.size w (w2.alloc (.cells #[.complex .f64 (xb 0) (yb 0), .complex .f64 (xb 1) (yb 1), .complex .f64 (xb 2) (yb 2), .complex .f64 (xb 3) (yb 3)] 26)) ∧ Arr 40 (w2.alloc (.cells #[.complex .f64 (xb 0) (yb 0), .complex .f64 (xb 1) (yb 1), .complex .f64 (xb 2) (yb 2), .complex .f64 (xb 3) (yb 3)] 26)) w.heap.size (ic4 a) ∧ Arr 40 (w2.alloc (.cells #[.complex .f64 (xb 0) (yb 0), .complex .f64 (xb 1) (yb 1), .complex .f64 (xb 2) (yb 2), .complex .f64 (xb 3) (yb 3)] 26)) (w.heap.size + 1) (ic4 b) ∧ Arr 26 (w2.alloc (.cells #[.complex .f64 (xb 0) (yb 0), .complex .f64 (xb 1) (yb 1), .complex .f64 (xb 2) (yb 2), .complex .f64 (xb 3) (yb 3)] 26)) g1 #[.complex .f64 (xa 0) (ya 0), .complex .f64 (xa 1) (ya 1), .complex .f64 (xa 2) (ya 2), .complex .f64 (xa 3) (ya 3)] ∧ Arr 26 (w2.alloc (.cells #[.complex .f64 (xb 0) (yb 0), .complex .f64 (xb 1) (yb 1), .complex .f64 (xb 2) (yb 2), .complex .f64 (xb 3) (yb 3)] 26)) w2.heap.size #[.complex .f64 (xb 0) (yb 0), .complex .f64 (xb 1) (yb 1), .complex .f64 (xb 2) (yb 2), .complex .f64 (xb 3) (yb 3)]) := Lib.hid ⟨below_al (below_step (B1.out.1) kk) (.cells #[.complex .f64 (xb 0) (yb 0), .complex .f64 (xb 1) (yb 1), .complex .f64 (xb 2) (yb 2), .complex .f64 (xb 3) (yb 3)] 26), ((B1.out.2.1).step kk).al (.cells #[.complex .f64 (xb 0) (yb 0), .complex .f64 (xb 1) (yb 1), .complex .f64 (xb 2) (yb 2), .complex .f64 (xb 3) (yb 3)] 26), ((B1.out.2.2.1).step kk).al (.cells #[.complex .f64 (xb 0) (yb 0), .complex .f64 (xb 1) (yb 1), .complex .f64 (xb 2) (yb 2), .complex .f64 (xb 3) (yb 3)] 26), ((B1.out.2.2.2).step kk).al (.cells #[.complex .f64 (xb 0) (yb 0), .complex .f64 (xb 1) (yb 1), .complex .f64 (xb 2) (yb 2), .complex .f64 (xb 3) (yb 3)] 26), Arr.new _ _ _⟩; clear kk; (try skip))
      generalize w2.alloc (.cells #[.complex .f64 (xb 0) (yb 0), .complex .f64 (xb 1) (yb 1), .complex .f64 (xb 2) (yb 2), .complex .f64 (xb 3) (yb 3)] 26) = V2 at B2 ⊢
      generalize w2.heap.size = g2 at B2 ⊢
      clear B1
      clear p0 p1 p2 p3
      obtain ⟨⟨p0, p1, p2, p3⟩, -⟩ := (B2.out.2.2.2.1).four
      go_upto_region 13 with (go_at_call 22; refine (Norms_right xa ya a _ Fa.out (by have := HCR.out; omega)).mono ?_; rintro e w3 ⟨rfl, kk⟩; have B3 : Hid (Below w.heap.size w (w3.alloc (.cells (ic4 (nrm a)) 40)) ∧ Arr 40 (w3.alloc (.cells (ic4 (nrm a)) 40)) w.heap.size (ic4 a) ∧ Arr 40 (w3.alloc (.cells (ic4 (nrm a)) 40)) (w.heap.size + 1) (ic4 b) ∧ Arr 26 (w3.alloc (.cells (ic4 (nrm a)) 40)) g1 #[.complex .f64 (xa 0) (ya 0), .complex .f64 (xa 1) (ya 1), .complex .f64 (xa 2) (ya 2), .complex .f64 (xa 3) (ya 3)] ∧ Arr 26 (w3.alloc (.cells (ic4 (nrm a)) 40)) g2 #[.complex .f64 (xb 0) (yb 0), .complex .f64 (xb 1) (yb 1), .complex .f64 (xb 2) (yb 2), .complex .f64 (xb 3) (yb 3)] ∧ Arr 40 (w3.alloc (.cells (ic4 (nrm a)) 40)) w3.heap.size (ic4 (nrm a))) := Lib.hid ⟨below_al (below_step (B2.out.1) kk) (.cells (ic4 (nrm a)) 40), ((B2.out.2.1).step kk).al (.cells (ic4 (nrm a)) 40), ((B2.out.2.2.1).step kk).al (.cells (ic4 (nrm a)) 40), ((B2.out.2.2.2.1).step kk).al (.cells (ic4 (nrm a)) 40), ((B2.out.2.2.2.2).step kk).al (.cells (ic4 (nrm a)) 40), Arr.new _ _ _⟩; clear kk; (try skip))
      generalize w3.alloc (.cells (ic4 (nrm a)) 40) = V3 at B3 ⊢
      generalize w3.heap.size = g3 at B3 ⊢
      clear B2
      clear p0 p1 p2 p3
      obtain ⟨⟨p0, p1, p2, p3⟩, -⟩ := (B3.out.2.2.2.1).four
      go_upto_region 14 with (go_at_call 18; refine (Shift_right xa ya a n _ Fa.out (by have := HCR.out; omega) HN.out).mono ?_; rw [HM.out.1]; rintro e w4 ⟨xs, ys, rfl, f, kk⟩; have Fs := Lib.hid f; clear f; have B4 : Hid (Below w.heap.size w (w4.alloc (.cells #[.complex .f64 (xs 0) (ys 0), .complex .f64 (xs 1) (ys 1), .complex .f64 (xs 2) (ys 2), .complex .f64 (xs 3) (ys 3)] 26)) ∧ Arr 40 (w4.alloc (.cells #[.complex .f64 (xs 0) (ys 0), .complex .f64 (xs 1) (ys 1), .complex .f64 (xs 2) (ys 2), .complex .f64 (xs 3) (ys 3)] 26)) w.heap.size (ic4 a) ∧ Arr 40 (w4.alloc (.cells #[.complex .f64 (xs 0) (ys 0), .complex .f64 (xs 1) (ys 1), .complex .f64 (xs 2) (ys 2), .complex .f64 (xs 3) (ys 3)] 26)) (w.heap.size + 1) (ic4 b) ∧ Arr 26 (w4.alloc (.cells #[.complex .f64 (xs 0) (ys 0), .complex .f64 (xs 1) (ys 1), .complex .f64 (xs 2) (ys 2), .complex .f64 (xs 3) (ys 3)] 26)) g1 #[.complex .f64 (xa 0) (ya 0), .complex .f64 (xa 1) (ya 1), .complex .f64 (xa 2) (ya 2), .complex .f64 (xa 3) (ya 3)] ∧ Arr 26 (w4.alloc (.cells #[.complex .f64 (xs 0) (ys 0), .complex .f64 (xs 1) (ys 1), .complex .f64 (xs 2) (ys 2), .complex .f64 (xs 3) (ys 3)] 26)) g2 #[.complex .f64 (xb 0) (yb 0), .complex .f64 (xb 1) (yb 1), .complex .f64 (xb 2) (yb 2), .complex .f64 (xb 3) (yb 3)] ∧ Arr 40 (w4.alloc (.cells #[.complex .f64 (xs 0) (ys 0), .complex .f64 (xs 1) (ys 1), .complex .f64 (xs 2) (ys 2), .complex .f64 (xs 3) (ys 3)] 26)) g3 (ic4 (nrm a)) ∧ Arr 26 (w4.alloc (.cells #[.complex .f64 (xs 0) (ys 0), .complex .f64 (xs 1) (ys 1), .complex .f64 (xs 2) (ys 2), .complex .f64 (xs 3) (ys 3)] 26)) w4.heap.size #[.complex .f64 (xs 0) (ys 0), .complex .f64 (xs 1) (ys 1), .complex .f64 (xs 2) (ys 2), .complex .f64 (xs 3) (ys 3)]) := Lib.hid ⟨below_al (below_step (B3.out.1) kk) (.cells #[.complex .f64 (xs 0) (ys 0), .complex .f64 (xs 1) (ys 1), .complex .f64 (xs 2) (ys 2), .complex .f64 (xs 3) (ys 3)] 26), ((B3.out.2.1).step kk).al (.cells #[.complex .f64 (xs 0) (ys 0), .complex .f64 (xs 1) (ys 1), .complex .f64 (xs 2) (ys 2), .complex .f64 (xs 3) (ys 3)] 26), ((B3.out.2.2.1).step kk).al (.cells #[.complex .f64 (xs 0) (ys 0), .complex .f64 (xs 1) (ys 1), .complex .f64 (xs 2) (ys 2), .complex .f64 (xs 3) (ys 3)] 26), ((B3.out.2.2.2.1).step kk).al (.cells #[.complex .f64 (xs 0) (ys 0), .complex .f64 (xs 1) (ys 1), .complex .f64 (xs 2) (ys 2), .complex .f64 (xs 3) (ys 3)] 26), ((B3.out.2.2.2.2.1).step kk).al (.cells #[.complex .f64 (xs 0) (ys 0), .complex .f64 (xs 1) (ys 1), .complex .f64 (xs 2) (ys 2), .complex .f64 (xs 3) (ys 3)] 26), ((B3.out.2.2.2.2.2).step kk).al (.cells #[.complex .f64 (xs 0) (ys 0), .complex .f64 (xs 1) (ys 1), .complex .f64 (xs 2) (ys 2), .complex .f64 (xs 3) (ys 3)] 26), Arr.new _ _ _⟩; clear kk; (try skip))
      generalize w4.alloc (.cells #[.complex .f64 (xs 0) (ys 0), .complex .f64 (xs 1) (ys 1), .complex .f64 (xs 2) (ys 2), .complex .f64 (xs 3) (ys 3)] 26) = V4 at B4 ⊢
      generalize w4.heap.size = g4 at B4 ⊢
      clear B3
      clear p0 p1 p2 p3
      obtain ⟨⟨p0, p1, p2, p3⟩, -⟩ := (B4.out.2.2.2.2.2.2).four
      go_upto_region 15 with (go_at_call 22; refine (Norms_right xs ys (shc a m) _ Fs.out (by rw [szc_shift a m HM.out.2]; have := HCR.out; omega)).mono ?_; rw [iv4_ext (d := nrm a) (fun j hj => nrm_shift a m j HM.out.2 hj)]; rintro e w5 ⟨rfl, kk⟩; have B5 : Hid (Below w.heap.size w (w5.alloc (.cells (ic4 (nrm a)) 40)) ∧ Arr 40 (w5.alloc (.cells (ic4 (nrm a)) 40)) w.heap.size (ic4 a) ∧ Arr 40 (w5.alloc (.cells (ic4 (nrm a)) 40)) (w.heap.size + 1) (ic4 b) ∧ Arr 26 (w5.alloc (.cells (ic4 (nrm a)) 40)) g1 #[.complex .f64 (xa 0) (ya 0), .complex .f64 (xa 1) (ya 1), .complex .f64 (xa 2) (ya 2), .complex .f64 (xa 3) (ya 3)] ∧ Arr 26 (w5.alloc (.cells (ic4 (nrm a)) 40)) g2 #[.complex .f64 (xb 0) (yb 0), .complex .f64 (xb 1) (yb 1), .complex .f64 (xb 2) (yb 2), .complex .f64 (xb 3) (yb 3)] ∧ Arr 40 (w5.alloc (.cells (ic4 (nrm a)) 40)) g3 (ic4 (nrm a)) ∧ Arr 26 (w5.alloc (.cells (ic4 (nrm a)) 40)) g4 #[.complex .f64 (xs 0) (ys 0), .complex .f64 (xs 1) (ys 1), .complex .f64 (xs 2) (ys 2), .complex .f64 (xs 3) (ys 3)] ∧ Arr 40 (w5.alloc (.cells (ic4 (nrm a)) 40)) w5.heap.size (ic4 (nrm a))) := Lib.hid ⟨below_al (below_step (B4.out.1) kk) (.cells (ic4 (nrm a)) 40), ((B4.out.2.1).step kk).al (.cells (ic4 (nrm a)) 40), ((B4.out.2.2.1).step kk).al (.cells (ic4 (nrm a)) 40), ((B4.out.2.2.2.1).step kk).al (.cells (ic4 (nrm a)) 40), ((B4.out.2.2.2.2.1).step kk).al (.cells (ic4 (nrm a)) 40), ((B4.out.2.2.2.2.2.1).step kk).al (.cells (ic4 (nrm a)) 40), ((B4.out.2.2.2.2.2.2).step kk).al (.cells (ic4 (nrm a)) 40), Arr.new _ _ _⟩; clear kk; (try skip))
      generalize w5.alloc (.cells (ic4 (nrm a)) 40) = V5 at B5 ⊢
      generalize w5.heap.size = g5 at B5 ⊢
      clear B4
      clear p0 p1 p2 p3
      obtain ⟨⟨p0, p1, p2, p3⟩, -⟩ := (B5.out.2.2.2.1).four
      obtain ⟨⟨q0, q1, q2, q3⟩, -⟩ := (B5.out.2.2.2.2.1).four
      go_upto_region 16 with (go_at_call 20; refine (Times_right xa ya xb yb a b _ Fa.out Fb.out (by have := HCR.out; omega) (by have := HDR.out; omega)).mono ?_; rintro e w6 ⟨xt, yt, rfl, f, kk⟩; have Ft := Lib.hid f; clear f; have B6 : Hid (Below w.heap.size w (w6.alloc (.cells #[.complex .f64 (xt 0) (yt 0), .complex .f64 (xt 1) (yt 1), .complex .f64 (xt 2) (yt 2), .complex .f64 (xt 3) (yt 3)] 26)) ∧ Arr 40 (w6.alloc (.cells #[.complex .f64 (xt 0) (yt 0), .complex .f64 (xt 1) (yt 1), .complex .f64 (xt 2) (yt 2), .complex .f64 (xt 3) (yt 3)] 26)) w.heap.size (ic4 a) ∧ Arr 40 (w6.alloc (.cells #[.complex .f64 (xt 0) (yt 0), .complex .f64 (xt 1) (yt 1), .complex .f64 (xt 2) (yt 2), .complex .f64 (xt 3) (yt 3)] 26)) (w.heap.size + 1) (ic4 b) ∧ Arr 26 (w6.alloc (.cells #[.complex .f64 (xt 0) (yt 0), .complex .f64 (xt 1) (yt 1), .complex .f64 (xt 2) (yt 2), .complex .f64 (xt 3) (yt 3)] 26)) g1 #[.complex .f64 (xa 0) (ya 0), .complex .f64 (xa 1) (ya 1), .complex .f64 (xa 2) (ya 2), .complex .f64 (xa 3) (ya 3)] ∧ Arr 26 (w6.alloc (.cells #[.complex .f64 (xt 0) (yt 0), .complex .f64 (xt 1) (yt 1), .complex .f64 (xt 2) (yt 2), .complex .f64 (xt 3) (yt 3)] 26)) g2 #[.complex .f64 (xb 0) (yb 0), .complex .f64 (xb 1) (yb 1), .complex .f64 (xb 2) (yb 2), .complex .f64 (xb 3) (yb 3)] ∧ Arr 40 (w6.alloc (.cells #[.complex .f64 (xt 0) (yt 0), .complex .f64 (xt 1) (yt 1), .complex .f64 (xt 2) (yt 2), .complex .f64 (xt 3) (yt 3)] 26)) g3 (ic4 (nrm a)) ∧ Arr 26 (w6.alloc (.cells #[.complex .f64 (xt 0) (yt 0), .complex .f64 (xt 1) (yt 1), .complex .f64 (xt 2) (yt 2), .complex .f64 (xt 3) (yt 3)] 26)) g4 #[.complex .f64 (xs 0) (ys 0), .complex .f64 (xs 1) (ys 1), .complex .f64 (xs 2) (ys 2), .complex .f64 (xs 3) (ys 3)] ∧ Arr 40 (w6.alloc (.cells #[.complex .f64 (xt 0) (yt 0), .complex .f64 (xt 1) (yt 1), .complex .f64 (xt 2) (yt 2), .complex .f64 (xt 3) (yt 3)] 26)) g5 (ic4 (nrm a)) ∧ Arr 26 (w6.alloc (.cells #[.complex .f64 (xt 0) (yt 0), .complex .f64 (xt 1) (yt 1), .complex .f64 (xt 2) (yt 2), .complex .f64 (xt 3) (yt 3)] 26)) w6.heap.size #[.complex .f64 (xt 0) (yt 0), .complex .f64 (xt 1) (yt 1), .complex .f64 (xt 2) (yt 2), .complex .f64 (xt 3) (yt 3)]) := Lib.hid ⟨below_al (below_step (B5.out.1) kk) (.cells #[.complex .f64 (xt 0) (yt 0), .complex .f64 (xt 1) (yt 1), .complex .f64 (xt 2) (yt 2), .complex .f64 (xt 3) (yt 3)] 26), ((B5.out.2.1).step kk).al (.cells #[.complex .f64 (xt 0) (yt 0), .complex .f64 (xt 1) (yt 1), .complex .f64 (xt 2) (yt 2), .complex .f64 (xt 3) (yt 3)] 26), ((B5.out.2.2.1).step kk).al (.cells #[.complex .f64 (xt 0) (yt 0), .complex .f64 (xt 1) (yt 1), .complex .f64 (xt 2) (yt 2), .complex .f64 (xt 3) (yt 3)] 26), ((B5.out.2.2.2.1).step kk).al (.cells #[.complex .f64 (xt 0) (yt 0), .complex .f64 (xt 1) (yt 1), .complex .f64 (xt 2) (yt 2), .complex .f64 (xt 3) (yt 3)] 26), ((B5.out.2.2.2.2.1).step kk).al (.cells #[.complex .f64 (xt 0) (yt 0), .complex .f64 (xt 1) (yt 1), .complex .f64 (xt 2) (yt 2), .complex .f64 (xt 3) (yt 3)] 26), ((B5.out.2.2.2.2.2.1).step kk).al (.cells #[.complex .f64 (xt 0) (yt 0), .complex .f64 (xt 1) (yt 1), .complex .f64 (xt 2) (yt 2), .complex .f64 (xt 3) (yt 3)] 26), ((B5.out.2.2.2.2.2.2.1).step kk).al (.cells #[.complex .f64 (xt 0) (yt 0), .complex .f64 (xt 1) (yt 1), .complex .f64 (xt 2) (yt 2), .complex .f64 (xt 3) (yt 3)] 26), ((B5.out.2.2.2.2.2.2.2).step kk).al (.cells #[.complex .f64 (xt 0) (yt 0), .complex .f64 (xt 1) (yt 1), .complex .f64 (xt 2) (yt 2), .complex .f64 (xt 3) (yt 3)] 26), Arr.new _ _ _⟩; clear kk; (try skip))
      generalize w6.alloc (.cells #[.complex .f64 (xt 0) (yt 0), .complex .f64 (xt 1) (yt 1), .complex .f64 (xt 2) (yt 2), .complex .f64 (xt 3) (yt 3)] 26) = V6 at B6 ⊢
      generalize w6.heap.size = g6 at B6 ⊢
      clear B5
      clear p0 p1 p2 p3
      clear q0 q1 q2 q3
      obtain ⟨⟨p0, p1, p2, p3⟩, -⟩ := (B6.out.2.2.2.2.2.2.2.2).four
      go_upto_region 17 with (go_at_call 22; refine (Norms_right xt yt (mulc a b) _ Ft.out (Nat.le_trans (szc_mul a b) (Nat.le_trans (Nat.mul_le_mul HCR.out HDR.out) (by decide)))).mono ?_; rw [iv4_ext (d := fun j => nrm a j * nrm b j) (fun j hj => nrm_mul a b j hj)]; rintro e w7 ⟨rfl, kk⟩; have B7 : Hid (Below w.heap.size w (w7.alloc (.cells (ic4 (fun j => nrm a j * nrm b j)) 40)) ∧ Arr 40 (w7.alloc (.cells (ic4 (fun j => nrm a j * nrm b j)) 40)) w.heap.size (ic4 a) ∧ Arr 40 (w7.alloc (.cells (ic4 (fun j => nrm a j * nrm b j)) 40)) (w.heap.size + 1) (ic4 b) ∧ Arr 26 (w7.alloc (.cells (ic4 (fun j => nrm a j * nrm b j)) 40)) g1 #[.complex .f64 (xa 0) (ya 0), .complex .f64 (xa 1) (ya 1), .complex .f64 (xa 2) (ya 2), .complex .f64 (xa 3) (ya 3)] ∧ Arr 26 (w7.alloc (.cells (ic4 (fun j => nrm a j * nrm b j)) 40)) g2 #[.complex .f64 (xb 0) (yb 0), .complex .f64 (xb 1) (yb 1), .complex .f64 (xb 2) (yb 2), .complex .f64 (xb 3) (yb 3)] ∧ Arr 40 (w7.alloc (.cells (ic4 (fun j => nrm a j * nrm b j)) 40)) g3 (ic4 (nrm a)) ∧ Arr 26 (w7.alloc (.cells (ic4 (fun j => nrm a j * nrm b j)) 40)) g4 #[.complex .f64 (xs 0) (ys 0), .complex .f64 (xs 1) (ys 1), .complex .f64 (xs 2) (ys 2), .complex .f64 (xs 3) (ys 3)] ∧ Arr 40 (w7.alloc (.cells (ic4 (fun j => nrm a j * nrm b j)) 40)) g5 (ic4 (nrm a)) ∧ Arr 26 (w7.alloc (.cells (ic4 (fun j => nrm a j * nrm b j)) 40)) g6 #[.complex .f64 (xt 0) (yt 0), .complex .f64 (xt 1) (yt 1), .complex .f64 (xt 2) (yt 2), .complex .f64 (xt 3) (yt 3)] ∧ Arr 40 (w7.alloc (.cells (ic4 (fun j => nrm a j * nrm b j)) 40)) w7.heap.size (ic4 (fun j => nrm a j * nrm b j))) := Lib.hid ⟨below_al (below_step (B6.out.1) kk) (.cells (ic4 (fun j => nrm a j * nrm b j)) 40), ((B6.out.2.1).step kk).al (.cells (ic4 (fun j => nrm a j * nrm b j)) 40), ((B6.out.2.2.1).step kk).al (.cells (ic4 (fun j => nrm a j * nrm b j)) 40), ((B6.out.2.2.2.1).step kk).al (.cells (ic4 (fun j => nrm a j * nrm b j)) 40), ((B6.out.2.2.2.2.1).step kk).al (.cells (ic4 (fun j => nrm a j * nrm b j)) 40), ((B6.out.2.2.2.2.2.1).step kk).al (.cells (ic4 (fun j => nrm a j * nrm b j)) 40), ((B6.out.2.2.2.2.2.2.1).step kk).al (.cells (ic4 (fun j => nrm a j * nrm b j)) 40), ((B6.out.2.2.2.2.2.2.2.1).step kk).al (.cells (ic4 (fun j => nrm a j * nrm b j)) 40), ((B6.out.2.2.2.2.2.2.2.2).step kk).al (.cells (ic4 (fun j => nrm a j * nrm b j)) 40), Arr.new _ _ _⟩; clear kk; (try skip))
      generalize w7.alloc (.cells (ic4 (fun j => nrm a j * nrm b j)) 40) = V7 at B7 ⊢
      generalize w7.heap.size = g7 at B7 ⊢
      clear B6
      clear p0 p1 p2 p3
      obtain ⟨⟨p0, p1, p2, p3⟩, -⟩ := (B7.out.2.2.2.2.1).four
      go_upto_region 18 with (go_at_call 22; refine (Norms_right xb yb b _ Fb.out (by have := HDR.out; omega)).mono ?_; rintro e w8 ⟨rfl, kk⟩; have B8 : Hid (Below w.heap.size w (w8.alloc (.cells (ic4 (nrm b)) 40)) ∧ Arr 40 (w8.alloc (.cells (ic4 (nrm b)) 40)) w.heap.size (ic4 a) ∧ Arr 40 (w8.alloc (.cells (ic4 (nrm b)) 40)) (w.heap.size + 1) (ic4 b) ∧ Arr 26 (w8.alloc (.cells (ic4 (nrm b)) 40)) g1 #[.complex .f64 (xa 0) (ya 0), .complex .f64 (xa 1) (ya 1), .complex .f64 (xa 2) (ya 2), .complex .f64 (xa 3) (ya 3)] ∧ Arr 26 (w8.alloc (.cells (ic4 (nrm b)) 40)) g2 #[.complex .f64 (xb 0) (yb 0), .complex .f64 (xb 1) (yb 1), .complex .f64 (xb 2) (yb 2), .complex .f64 (xb 3) (yb 3)] ∧ Arr 40 (w8.alloc (.cells (ic4 (nrm b)) 40)) g3 (ic4 (nrm a)) ∧ Arr 26 (w8.alloc (.cells (ic4 (nrm b)) 40)) g4 #[.complex .f64 (xs 0) (ys 0), .complex .f64 (xs 1) (ys 1), .complex .f64 (xs 2) (ys 2), .complex .f64 (xs 3) (ys 3)] ∧ Arr 40 (w8.alloc (.cells (ic4 (nrm b)) 40)) g5 (ic4 (nrm a)) ∧ Arr 26 (w8.alloc (.cells (ic4 (nrm b)) 40)) g6 #[.complex .f64 (xt 0) (yt 0), .complex .f64 (xt 1) (yt 1), .complex .f64 (xt 2) (yt 2), .complex .f64 (xt 3) (yt 3)] ∧ Arr 40 (w8.alloc (.cells (ic4 (nrm b)) 40)) g7 (ic4 (fun j => nrm a j * nrm b j)) ∧ Arr 40 (w8.alloc (.cells (ic4 (nrm b)) 40)) w8.heap.size (ic4 (nrm b))) := Lib.hid ⟨below_al (below_step (B7.out.1) kk) (.cells (ic4 (nrm b)) 40), ((B7.out.2.1).step kk).al (.cells (ic4 (nrm b)) 40), ((B7.out.2.2.1).step kk).al (.cells (ic4 (nrm b)) 40), ((B7.out.2.2.2.1).step kk).al (.cells (ic4 (nrm b)) 40), ((B7.out.2.2.2.2.1).step kk).al (.cells (ic4 (nrm b)) 40), ((B7.out.2.2.2.2.2.1).step kk).al (.cells (ic4 (nrm b)) 40), ((B7.out.2.2.2.2.2.2.1).step kk).al (.cells (ic4 (nrm b)) 40), ((B7.out.2.2.2.2.2.2.2.1).step kk).al (.cells (ic4 (nrm b)) 40), ((B7.out.2.2.2.2.2.2.2.2.1).step kk).al (.cells (ic4 (nrm b)) 40), ((B7.out.2.2.2.2.2.2.2.2.2).step kk).al (.cells (ic4 (nrm b)) 40), Arr.new _ _ _⟩; clear kk; (try skip))
      generalize w8.alloc (.cells (ic4 (nrm b)) 40) = V8 at B8 ⊢
      generalize w8.heap.size = g8 at B8 ⊢
      clear B7
      clear p0 p1 p2 p3
      obtain ⟨⟨p0, p1, p2, p3⟩, -⟩ := (B8.out.2.2.2.2.2.1).four
      obtain ⟨⟨q0, q1, q2, q3⟩, -⟩ := (B8.out.2.2.2.2.2.2.2.1).four
      have hb0 := nrm_small a 0 (by decide) HCR.out
      have hb1 := nrm_small a 1 (by decide) HCR.out
      have hb2 := nrm_small a 2 (by decide) HCR.out
      have hb3 := nrm_small a 3 (by decide) HCR.out
      obtain ⟨hnsum, hsq⟩ := HNS.out
      obtain ⟨N0, hN0⟩ : ∃ N, nrm a 0 = N := ⟨_, rfl⟩
      rw [hN0] at p0 q0 hb0 hnsum
      obtain ⟨N1, hN1⟩ : ∃ N, nrm a 1 = N := ⟨_, rfl⟩
      rw [hN1] at p1 q1 hb1 hnsum
      obtain ⟨N2, hN2⟩ : ∃ N, nrm a 2 = N := ⟨_, rfl⟩
      rw [hN2] at p2 q2 hb2 hnsum
      obtain ⟨N3, hN3⟩ : ∃ N, nrm a 3 = N := ⟨_, rfl⟩
      rw [hN3] at p3 q3 hb3 hnsum
      obtain ⟨t1, ht1⟩ : ∃ t, N0 + N1 = t := ⟨_, rfl⟩
      obtain ⟨t2, ht2⟩ : ∃ t, t1 + N2 = t := ⟨_, rfl⟩
      obtain ⟨t3, ht3⟩ : ∃ t, t2 + N3 = t := ⟨_, rfl⟩
      have v1 : wrap64 (N0 + N1) = t1 := by rw [ht1]; exact IntWalk.wrap64_in _ (by omega)
      have v2 : wrap64 (t1 + N2) = t2 := by rw [ht2]; exact IntWalk.wrap64_in _ (by omega)
      have v3 : wrap64 (t2 + N3) = t3 := by rw [ht3]; exact IntWalk.wrap64_in _ (by omega)
      have v4 : IntKind.i64.wrap (N0 + N1) = t1 := by rw [ht1]; exact IntWalk.i64_in _ (by omega)
      have v5 : IntKind.i64.wrap (t1 + N2) = t2 := by rw [ht2]; exact IntWalk.i64_in _ (by omega)
      have v6 : IntKind.i64.wrap (t2 + N3) = t3 := by rw [ht3]; exact IntWalk.i64_in _ (by omega)
      have h43 : 4 * s = t3 := by omega
      have v7 : wrap64 (4 * s) = t3 := by rw [h43]; exact IntWalk.wrap64_in _ (by omega)
      have v8 : IntKind.i64.wrap (4 * s) = t3 := by rw [h43]; exact IntWalk.i64_in _ (by omega)
      clear hb0 hb1 hb2 hb3 hnsum hsq hN0 hN1 hN2 hN3 h43 ht1 ht2 ht3
      go_wp2_with fail
      clear p0 p1 p2 p3 q0 q1 q2 q3 v1 v2 v3 v4 v5 v6 v7 v8
      go_loopw [132] (fun iv wr => ∃ k : Nat, Hid (k ≤ 4) ∧ iv = .int .i64 (k : Int) ∧ Hid (Below w.heap.size w (wr) ∧ Arr 40 (wr) w.heap.size (ic4 a) ∧ Arr 40 (wr) (w.heap.size + 1) (ic4 b) ∧ Arr 26 (wr) g1 #[.complex .f64 (xa 0) (ya 0), .complex .f64 (xa 1) (ya 1), .complex .f64 (xa 2) (ya 2), .complex .f64 (xa 3) (ya 3)] ∧ Arr 26 (wr) g2 #[.complex .f64 (xb 0) (yb 0), .complex .f64 (xb 1) (yb 1), .complex .f64 (xb 2) (yb 2), .complex .f64 (xb 3) (yb 3)] ∧ Arr 40 (wr) g3 (ic4 (nrm a)) ∧ Arr 26 (wr) g4 #[.complex .f64 (xs 0) (ys 0), .complex .f64 (xs 1) (ys 1), .complex .f64 (xs 2) (ys 2), .complex .f64 (xs 3) (ys 3)] ∧ Arr 40 (wr) g5 (ic4 (nrm a)) ∧ Arr 26 (wr) g6 #[.complex .f64 (xt 0) (yt 0), .complex .f64 (xt 1) (yt 1), .complex .f64 (xt 2) (yt 2), .complex .f64 (xt 3) (yt 3)] ∧ Arr 40 (wr) g7 (ic4 (fun j => nrm a j * nrm b j)) ∧ Arr 40 (wr) g8 (ic4 (nrm b)))) (fun iv _ => 4 - (intOf iv).toNat)
      case atStart => exact ⟨0, Lib.hid (Nat.zero_le _), rfl, B8⟩
      case round =>
        clear B8
        obtain ⟨k, HK, rfl, B8⟩ := hrel
        by_cases hlt : k < 4
        · have d0 : decide ((k : Int) < 4) = true := by simp; omega
          have d0' : decide (k < 4) = true := by simp; omega
          have hk3 : (k : Int) ≤ 3 := by omega
          have hk4 : (k : Int) < 4 := by omega
          have e8 : _ = some (Value.int .i64 (nrm a k * nrm b k)) := (B8.out.2.2.2.2.2.2.2.2.2.1.c k).trans (cs_get (fun j => nrm a j * nrm b j) k hlt)
          have e4 : _ = some (Value.int .i64 (nrm a k)) := (B8.out.2.2.2.2.2.1.c k).trans (cs_get (nrm a) k hlt)
          have e9 : _ = some (Value.int .i64 (nrm b k)) := (B8.out.2.2.2.2.2.2.2.2.2.2.c k).trans (cs_get (nrm b) k hlt)
          have h1 := nrm_small a k hlt HCR.out
          have h2 := nrm_small b k hlt HDR.out
          have h3 := prod_le h1.1 h2.1 h1.2 h2.2
          obtain ⟨x, hx⟩ : ∃ x, nrm a k = x := ⟨_, rfl⟩
          obtain ⟨y, hy⟩ : ∃ y, nrm b k = y := ⟨_, rfl⟩
          rw [hx, hy] at e8 h3
          rw [hx] at e4
          rw [hy] at e9
          have v1 : wrap64 (x * y) = x * y := IntWalk.wrap64_in _ (by omega)
          have v2 : IntKind.i64.wrap (x * y) = x * y := IntWalk.i64_in _ (by omega)
          have HLT := Lib.hid hlt
          clear hlt h1 h2 h3 hx hy
          go_wp2_with fail
          go_quiet (fail)
          go_wp2_with fail
          go_roundw
          case rel => exact ⟨k + 1, Lib.hid HLT.out, by go_num, Lib.hid ⟨below_drewN (B8.out.1) _, B8.out.2.1, B8.out.2.2.1, B8.out.2.2.2.1, B8.out.2.2.2.2.1, B8.out.2.2.2.2.2.1, B8.out.2.2.2.2.2.2.1, B8.out.2.2.2.2.2.2.2.1, B8.out.2.2.2.2.2.2.2.2.1, B8.out.2.2.2.2.2.2.2.2.2.1, B8.out.2.2.2.2.2.2.2.2.2.2⟩⟩
          case measure => have := HLT.out; simp [intOf]; omega
        · obtain rfl : k = 4 := by have := HK.out; omega
          clear hlt
          go_wp2_with fail
          go_ret
          exact ⟨rfl, B8.out.1⟩
end Go.Proofs.Ythidfmkmklnhhaa
