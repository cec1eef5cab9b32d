/- Walks of the reference: Norms, Times. Printed by gen_uj.py. -/
import Derived.Test.YthidfmkmklnhhaaProg
import Derived.Test.YthidfmkmklnhhaaUi
import Derived.Deep.DeepCutAuto
import Derived.BigRegion
namespace Go.Proofs.Ythidfmkmklnhhaa
open Go.RowKit
set_option linter.unusedVariables false

theorem Arr.al4 {t : TypeId} {W : World} {b : Nat} {c : Nat → Int} (h : Arr t W b (ic4 c)) : Sees W 1 (some ⟨b, 0, none⟩) 4 4 ([c 0, c 1, c 2, c 3].map (Value.int .i64)) := (sees_block h rfl (Nat.le_refl _) (by decide) ⟨[], rfl⟩ : Sees W 1 _ 4 4 [Value.int .i64 (c 0), Value.int .i64 (c 1), Value.int .i64 (c 2), Value.int .i64 (c 3)])
theorem dd8 (c : Nat → Int) : (#[.int .i64 (dR 0 c), .int .i64 (dI 0 c), .int .i64 (dR 1 c), .int .i64 (dI 1 c), .int .i64 (dR 2 c), .int .i64 (dI 2 c), .int .i64 (dR 3 c), .int .i64 (dI 3 c)] : Array Value) = ic8 (pq8 (fun j => dR j c) (fun j => dI j c)) := rfl

set_option maxRecDepth 20000 in
set_option maxHeartbeats 1600000 in
theorem refNorms_any (c : Nat → Int) (w : World) (hc : szc c ≤ 1125899906842624) :
    Calls Try.prog 52 #[iv4 c] w fun e w' => ∃ m err, e = .returned (.tuple #[iv4 m, .int .i64 err]) ∧ ((szc c ≤ 16777216 ∧ err = 0 ∧ m = nrm c) ∨ (¬ szc c ≤ 16777216 ∧ err = 2 ∧ m = fun _ => 0)) ∧ Below w.heap.size w w' := by
  obtain ⟨W, hW⟩ : ∃ W, (w.alloc (.cells (ic4 c) 40)).alloc (.cells (ic4 fun _ => 0) 40) = W := ⟨_, rfl⟩
  have HA : Hid (Arr 40 W w.heap.size (ic4 c) ∧ Arr 40 W (w.heap.size + 1) (ic4 fun _ => 0) ∧ Below w.heap.size w W) := Lib.hid ⟨by rw [← hW]; exact (Arr.new _ _ _).al _, by rw [← hW]; exact Arr.new1 _ _ _ _, by rw [← hW]; exact below_al (below_al (Below.refl _ _) _) _⟩
  have HW := Lib.hid hW
  clear hW hc
  obtain ⟨b, hb⟩ : ∃ b, decide (szc c ≤ 16777216) = b := ⟨_, rfl⟩
  have HBB := Lib.hid hb
  go_enter Try.func52, Try.ntmps52
  go_upto_region 1 with fail
  rw [HW.out]
  clear HW
  cases b
  case false =>
    have HZ : Hid (¬ szc c ≤ 16777216) := Lib.hid (of_decide_eq_false HBB.out)
    clear HBB
    go_wp2_with (go_at_call 57; refine (refFits_any _ 4 4 16777216 [c 0, c 1, c 2, c 3] _ HA.out.1.al4 (by decide)).mono ?_; rintro e w1 ⟨rfl, k1⟩; rw [sz4, show (decide ((c 0).natAbs + (c 1).natAbs + (c 2).natAbs + (c 3).natAbs ≤ 16777216)) = false from hb]; have B1 := Lib.hid (And.intro (HA.out.1.step k1) (And.intro (HA.out.2.1.step k1) (below_step HA.out.2.2 k1))); obtain ⟨⟨s0, s1, s2, s3⟩, q0, q1, q2, q3⟩ := B1.out.2.1.four; obtain ⟨⟨a0, a1, a2, a3⟩, -⟩ := B1.out.1.four; clear k1)
    have P9 := B1.out.2.1.put4 (.int .i64 0) (.int .i64 0) (.int .i64 0) (.int .i64 0)
    obtain ⟨⟨z0, z1, z2, z3⟩, -⟩ := P9.four
    exact bodyPost_ret (v := .tuple #[iv4 fun _ => 0, .int .i64 2]) (by simp [results, Try.results52, go_sem, z0, z1, z2, z3]) rfl ⟨_, _, rfl, .inr ⟨HZ.out, rfl, rfl⟩, below_set4 B1.out.2.2 (Nat.le_succ _) _ _ _ _⟩
  case true =>
    have HZ : Hid (szc c ≤ 16777216) := Lib.hid (of_decide_eq_true HBB.out)
    clear HBB
    go_upto_region 4 with (first
      | (go_at_call 32; refine (refRow_any c _).mono ?_; rintro e w5 ⟨p, q, err, rfl, hR, kk⟩; obtain ⟨rfl, rfl, rfl⟩ : err = 0 ∧ p = (fun j => dR j c) ∧ q = fun j => dI j c := (by rcases hR with ⟨_, h⟩ | ⟨h, _⟩; exact h; exact absurd (Nat.le_trans HZ.out (by decide)) h); have B2 : Hid (Arr 40 (w5.alloc (.cells #[.int .i64 (dR 0 c), .int .i64 (dI 0 c), .int .i64 (dR 1 c), .int .i64 (dI 1 c), .int .i64 (dR 2 c), .int .i64 (dI 2 c), .int .i64 (dR 3 c), .int .i64 (dI 3 c)] 63)) (w.heap.size + 1) (ic4 fun _ => 0) ∧ Arr 63 (w5.alloc (.cells #[.int .i64 (dR 0 c), .int .i64 (dI 0 c), .int .i64 (dR 1 c), .int .i64 (dI 1 c), .int .i64 (dR 2 c), .int .i64 (dI 2 c), .int .i64 (dR 3 c), .int .i64 (dI 3 c)] 63)) w5.heap.size (ic8 (pq8 (fun j => dR j c) (fun j => dI j c))) ∧ Below w.heap.size w (w5.alloc (.cells #[.int .i64 (dR 0 c), .int .i64 (dI 0 c), .int .i64 (dR 1 c), .int .i64 (dI 1 c), .int .i64 (dR 2 c), .int .i64 (dI 2 c), .int .i64 (dR 3 c), .int .i64 (dI 3 c)] 63))) := Lib.hid ⟨(B1.out.2.1.step kk).al _, by rw [← dd8]; exact Arr.new _ _ _, below_al (below_step B1.out.2.2 kk) _⟩; clear kk hR)
      | (go_at_call 57; refine (refFits_any _ 4 4 16777216 [c 0, c 1, c 2, c 3] _ HA.out.1.al4 (by decide)).mono ?_; rintro e w1 ⟨rfl, k1⟩; rw [sz4, show (decide ((c 0).natAbs + (c 1).natAbs + (c 2).natAbs + (c 3).natAbs ≤ 16777216)) = true from hb]; have B1 := Lib.hid (And.intro (HA.out.1.step k1) (And.intro (HA.out.2.1.step k1) (below_step HA.out.2.2 k1))); obtain ⟨⟨s0, s1, s2, s3⟩, q0, q1, q2, q3⟩ := B1.out.2.1.four; obtain ⟨⟨a0, a1, a2, a3⟩, -⟩ := B1.out.1.four; clear k1))
    generalize w5.alloc (.cells #[.int .i64 (dR 0 c), .int .i64 (dI 0 c), .int .i64 (dR 1 c), .int .i64 (dI 1 c), .int .i64 (dR 2 c), .int .i64 (dI 2 c), .int .i64 (dR 3 c), .int .i64 (dI 3 c)] 63) = V at B2 ⊢
    generalize w5.heap.size = g1 at B2 ⊢
    clear B1 hb a0 a1 a2 a3 s0 s1 s2 s3 q0 q1 q2 q3 HA
    have B3 : Hid (Arr 40 (V.alloc (.cells (ic4 fun _ => 0) 40)) (w.heap.size + 1) (ic4 fun _ => 0) ∧ Arr 63 (V.alloc (.cells (ic4 fun _ => 0) 40)) g1 (ic8 (pq8 (fun j => dR j c) (fun j => dI j c))) ∧ Arr 40 (V.alloc (.cells (ic4 fun _ => 0) 40)) V.heap.size (ic4 (cut4 (nrm c) 0)) ∧ Below w.heap.size w (V.alloc (.cells (ic4 fun _ => 0) 40)) ∧ (w.heap.size + 1 ≠ V.heap.size ∧ g1 ≠ V.heap.size ∧ w.heap.size ≤ V.heap.size)) := Lib.hid ⟨B2.out.1.al _, B2.out.2.1.al _, Arr.new _ _ _, below_al B2.out.2.2 _, Nat.ne_of_lt B2.out.1.lt, Nat.ne_of_lt B2.out.2.1.lt, B2.out.2.2.size⟩
    go_upto_region 5 with fail
    generalize V.alloc (.cells #[.int .i64 0, .int .i64 0, .int .i64 0, .int .i64 0] 40) = V2 at B3 ⊢
    generalize V.heap.size = g2 at B3 ⊢
    clear B2
    go_wp2_with fail
    go_loopw [7] (fun iv wr => ∃ k : Nat, Hid (k ≤ 4) ∧ iv = .int .i64 (k : Int) ∧ Hid (Arr 40 wr (w.heap.size + 1) (ic4 fun _ => 0) ∧ Arr 63 wr g1 (ic8 (pq8 (fun j => dR j c) (fun j => dI j c))) ∧ Arr 40 wr g2 (ic4 (cut4 (nrm c) k)) ∧ Below w.heap.size w wr)) (fun iv _ => 4 - (intOf iv).toNat)
    case atStart => exact ⟨0, Lib.hid (Nat.zero_le _), rfl, Lib.hid ⟨B3.out.1, B3.out.2.1, B3.out.2.2.1, B3.out.2.2.2.1⟩⟩
    case round =>
      have HNE := Lib.hid B3.out.2.2.2.2
      clear B3
      obtain ⟨k, HK, rfl, HB⟩ := hrel
      by_cases hlt : k < 4
      · have d0 : decide ((k : Int) < 4) = true := decide_eq_true (Int.ofNat_lt.2 hlt)
        have d0' : decide (k < 4) = true := decide_eq_true hlt
        have hk4 : (k : Int) < 4 := Int.ofNat_lt.2 hlt
        obtain ⟨g8, g9⟩ := pq8_get (fun j => dR j c) (fun j => dI j c) k hlt
        have e1 := (HB.out.2.1.c (k * 2)).trans g8
        have e2 := (HB.out.2.1.c (k * 2 + 1)).trans g9
        have e3 := (HB.out.2.2.1.c k).trans (cut4_get _ k hlt)
        have f3 := HB.out.2.2.1.f k
        have hle := nrm_le c k hlt HZ.out
        have hset := cut4_set (nrm c) k hlt
        obtain ⟨N, hN⟩ : ∃ N, nrm c k = N := ⟨_, rfl⟩
        rw [hN] at hset
        have hN2 : dR k c * dR k c + dI k c * dI k c = N := hN
        obtain ⟨a, ha⟩ : ∃ a, dR k c = a := ⟨_, rfl⟩
        obtain ⟨b, hb⟩ : ∃ b, dI k c = b := ⟨_, rfl⟩
        rw [ha] at e1 hle hN2
        rw [hb] at e2 hle hN2
        obtain ⟨aa, haa⟩ : ∃ x, a * a = x := ⟨_, rfl⟩
        obtain ⟨bb, hbb⟩ : ∃ x, b * b = x := ⟨_, rfl⟩
        rw [haa, hbb] at hle hN2
        have v1 : IntKind.i64.wrap (a * a) = aa := by rw [haa]; exact IntWalk.i64_in _ (by omega)
        have v2 : wrap64 (a * a) = aa := by rw [haa]; exact IntWalk.wrap64_in _ (by omega)
        have v3 : IntKind.i64.wrap (b * b) = bb := by rw [hbb]; exact IntWalk.i64_in _ (by omega)
        have v4 : wrap64 (b * b) = bb := by rw [hbb]; exact IntWalk.wrap64_in _ (by omega)
        have v5 : IntKind.i64.wrap (aa + bb) = N := by rw [hN2]; exact IntWalk.i64_in _ (by omega)
        have v6 : wrap64 (aa + bb) = N := by rw [hN2]; exact IntWalk.wrap64_in _ (by omega)
        have HLT := Lib.hid hlt
        have HB2 : Hid (Arr 40 (wr.setCell ⟨g2, k, none⟩ (.int .i64 N)) (w.heap.size + 1) (ic4 fun _ => 0) ∧ Arr 63 (wr.setCell ⟨g2, k, none⟩ (.int .i64 N)) g1 (ic8 (pq8 (fun j => dR j c) (fun j => dI j c))) ∧ Arr 40 (wr.setCell ⟨g2, k, none⟩ (.int .i64 N)) g2 (ic4 (cut4 (nrm c) (k + 1))) ∧ Below w.heap.size w (wr.setCell ⟨g2, k, none⟩ (.int .i64 N))) := Lib.hid ⟨HB.out.1.other (k := k) (.int .i64 N) HNE.out.1, HB.out.2.1.other (k := k) (.int .i64 N) HNE.out.2.1, by rw [← hset]; exact HB.out.2.2.1.set k (.int .i64 N), HB.out.2.2.2.setCell (show w.heap.size ≤ (⟨g2, k, none⟩ : Addr).block from HNE.out.2.2) _⟩
        clear hlt g8 g9 hle hset hN hN2 ha hb haa hbb
        go_wp2_with fail
        go_region
        go_wp2_with fail
        go_roundw
        case rel => exact ⟨k + 1, Lib.hid HLT.out, by go_num, Lib.hid ⟨HB2.out.1, HB2.out.2.1, HB2.out.2.2.1, HB2.out.2.2.2.drew⟩⟩
        case measure => have h1 := HLT.out; clear v1 v2 v3 v4 v5 v6; simp [intOf]; omega
      · obtain rfl : k = 4 := Nat.le_antisymm HK.out (Nat.not_lt.1 hlt)
        clear hlt HK
        have hall := cut4_all (nrm c)
        rw [hall] at HB
        obtain ⟨M, hM⟩ : ∃ M, nrm c = M := ⟨_, rfl⟩
        rw [hM] at HB
        have HMM := Lib.hid hM
        clear hall hM
        obtain ⟨⟨a0, a1, a2, a3⟩, -⟩ := HB.out.2.2.1.four
        obtain ⟨⟨s0, s1, s2, s3⟩, q0, q1, q2, q3⟩ := HB.out.1.four
        go_wp2_with fail
        have P9 := HB.out.1.put4 (.int .i64 (M 0)) (.int .i64 (M 1)) (.int .i64 (M 2)) (.int .i64 (M 3))
        obtain ⟨⟨z0, z1, z2, z3⟩, -⟩ := P9.four
        exact bodyPost_ret (v := .tuple #[iv4 M, .int .i64 0]) (by simp [results, Try.results52, go_sem, z0, z1, z2, z3]) rfl ⟨_, _, rfl, .inl ⟨HZ.out, rfl, HMM.out.symm⟩, below_set4 HB.out.2.2.2 (Nat.le_succ _) _ _ _ _⟩
end Go.Proofs.Ythidfmkmklnhhaa
