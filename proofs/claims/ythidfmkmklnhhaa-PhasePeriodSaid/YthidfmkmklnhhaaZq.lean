/- Walks: PhasePeriod. Printed by gen_zq.py. -/
import Derived.Test.YthidfmkmklnhhaaProg
import Derived.Test.YthidfmkmklnhhaaZp
import Derived.Test.YthidfmkmklnhhaaYx
import Derived.Deep.DeepCutAuto
import Derived.Deep.QuietTactic
namespace Go.Proofs.Ythidfmkmklnhhaa
open Go.RowKit
set_option linter.unusedVariables false

set_option maxRecDepth 20000 in
set_option maxHeartbeats 4000000 in
theorem PhasePeriod_any (c : Nat → Int) (p rn : Nat) (w : World) (hp : p < 256) (hr : rn < 256) :
    Calls Try.prog 7 #[iv4 c, .int .u8 (p : Int), .int .u8 (rn : Int)] w fun e w' => e = .returned (.bool true) ∧ Below w.heap.size w w' := by
  have hst := st_c
  obtain ⟨q, n, hpq, hwq, hq3, hq4, hPn, hlit⟩ := period_p p
  obtain ⟨u, ct, N, hwr, hru, hwu, hct', hwc, hwc2, hN', hwN, hwN2, hN9, hN1, hN2, hN3⟩ := period_r rn hr
  have dq : decide ((q : Int) < 3) = true := decide_eq_true hq3
  have dq' : decide (q < 3) = true := decide_eq_true hq4
  have HPN := Lib.hid hPn
  have HLIT := Lib.hid hlit
  have HN := Lib.hid (And.intro hN1 (And.intro hN2 hN3))
  obtain ⟨W, hW⟩ : ∃ W, w.alloc (.cells (ic4 c) 40) = W := ⟨_, rfl⟩
  have HA : Hid (Arr 40 W w.heap.size (ic4 c) ∧ Below w.heap.size w W) := Lib.hid ⟨by rw [← hW]; exact Arr.new _ _ _, by rw [← hW]; exact below_al (Below.refl _ _) _⟩
  have HW := Lib.hid hW
  obtain ⟨hn0, hn1, hn9⟩ := pw_facts hPn
  clear hW hp hr hPn hlit hq4 hN1 hN2 hN3
  go_enter Try.func7, Try.ntmps7
  go_upto_region 3 with (go_at_call 13; rw [HW.out]; refine (awake_any _).mono ?_; rintro e w0 ⟨rfl, k0⟩; have HV : Hid (Arr 40 (w0.alloc (.cells #[.int .i64 1, .int .i64 2, .int .i64 4] 3)) w.heap.size (ic4 c) ∧ Below w.heap.size w (w0.alloc (.cells #[.int .i64 1, .int .i64 2, .int .i64 4] 3))) := Lib.hid ⟨(HA.out.1.step k0).al _, below_al (below_step HA.out.2 k0) _⟩; clear k0)
  have e0 : (w0.alloc (.cells #[.int .i64 1, .int .i64 2, .int .i64 4] 3)).cell? ⟨w0.heap.size, q, none⟩ = some (.int .i64 (n : Int)) := ((Arr.new _ _ _).c q).trans HLIT.out
  go_upto_region 5 with fail
  generalize w0.alloc (.cells #[.int .i64 1, .int .i64 2, .int .i64 4] 3) = V at HV e0 ⊢
  clear HA HW e0 HLIT
  go_wp2_with fail
  try simp only [hwr]
  go_loopw [9, 30] (fun sv iv wr => ∃ (k : Nat) (A2 : Option Addr) (c2 : Nat), Hid (k ≤ N) ∧ iv = .int .i64 (k : Int) ∧ sv = .slice A2 k c2 ∧ Hid (wr.ownsRow V.heap.size 3 1 (.slice A2 k c2) k ((rp c n k).map (Value.int .i64)) ∧ Below V.heap.size V wr)) (fun _ iv _ => N - (intOf iv).toNat)
  case atStart => exact ⟨0, none, 0, Lib.hid (Nat.zero_le _), rfl, rfl, Lib.hid ⟨World.ownsRow_nil _ _ _ _, Below.refl _ _⟩⟩
  case round =>
    obtain ⟨k, A2, c2, HK, rfl, rfl, HO⟩ := hrel
    by_cases hlt : k < N
    · have d0 : decide ((k : Int) < (N : Int)) = true := by simp; omega
      have d0' : decide (k < N) = true := by simp; omega
      have hkN : (k : Int) < (N : Int) := by omega
      obtain ⟨m, hm⟩ : ∃ m, k % n = m := ⟨_, rfl⟩
      have hm4 : m < 4 := by have := Nat.mod_lt k (show 0 < n by omega); omega
      have hkm : (k : Int).tmod (n : Int) = (m : Int) := tmn k m n hm
      have hwm : IntKind.i64.wrap (m : Int) = (m : Int) := IntWalk.i64_in _ (by omega)
      have hm9 : (m : Int) < 4 := by omega
      have dm : decide ((m : Int) < 4) = true := by simp; omega
      have dm' : decide (m < 4) = true := by simp; omega
      have e1 : wr.cell? ⟨w.heap.size, m, none⟩ = some (.int .i64 (c m)) := ((HV.out.1.step HO.out.2).c m).trans (cs_get c m hm4)
      obtain ⟨v, hv⟩ : ∃ v, c m = v := ⟨_, rfl⟩
      rw [hv] at e1
      obtain ⟨t, ht⟩ : ∃ t, v.tmod 1099511627776 = t := ⟨_, rfl⟩
      have h1 := Int.tmod_lt_of_pos v (show (0 : Int) < 1099511627776 by decide)
      have h2 := Int.lt_tmod_of_pos v (show (0 : Int) < 1099511627776 by decide)
      have hwt : IntKind.i64.wrap t = t := IntWalk.i64_in _ (by omega)
      have HR : Hid (rp c n (k + 1) = rp c n k ++ [t]) := Lib.hid (by rw [rp_succ, hm, hv, ht])
      have HLT := Lib.hid hlt
      clear hlt hm hm4 hv h1 h2
      go_wp2_with (at_builtin; refine wpList_app E_ii rfl _ _ rfl rfl (HO.out.1.alloc _) rfl (Sees.one _ _ _) (one1 rfl) (by have := HN.out; have := HLT.out; simp [maxLen]; omega) (by have := HN.out; have := HLT.out; omega) (by have := HO.out.2.size; simp; omega) ?_; intro A4 c4 w4 hown4 hg4 hb4; have H4 : Hid (w4.ownsRow V.heap.size 3 1 (.slice A4 (k + 1) c4) (k + 1) ((rp c n (k + 1)).map (Value.int .i64)) ∧ Below V.heap.size V w4) := Lib.hid ⟨by rw [HR.out, List.map_append]; exact hown4, (HO.out.2.alloc HO.out.2.size _).trans hb4⟩; clear hown4 hg4 hb4)
      go_roundw
      case rel => exact ⟨k + 1, A4, c4, Lib.hid HLT.out, by go_num, rfl, H4⟩
      case measure => have := HLT.out; simp [intOf]; omega
    · obtain rfl : k = N := by have := HK.out; omega
      have d0 : decide ((k : Int) < (k : Int)) = false := by simp
      have d0' : decide (k < k) = false := by simp
      clear hlt HK
      have HLE : Hid (∀ x ∈ rp c n k, x.natAbs ≤ 1099511627776) := Lib.hid (rp_le c n k)
      have HLN := Lib.hid (rp_len c n k)
      have HP1 := Lib.hid (And.intro (rp_self c n k HPN.out) (rp_four c n k HPN.out))
      obtain ⟨gr, c3, hA3, hg3⟩ := own_addrK HO.out.1 (by have := HN.out; omega)
      cases hA3
      obtain ⟨HO2, hB2⟩ := HO.out
      have HB0 := Lib.hid (And.intro (below_step HV.out.2 hB2) (And.intro HO2 (And.intro hg3 (Nat.le_trans HV.out.2.size (Nat.le_refl _)))))
      generalize rp c n k = l at HLE HLN HP1 HB0
      clear HO hB2 HO2 hg3 hn0 hn1
      have HZ : Hid (sz l k ≤ 219902325555200) := Lib.hid (by have h1 := sz_le HLE.out k; have h2 := HN.out; omega)
      obtain ⟨C, hC⟩ : ∃ C, cs l k = C := ⟨_, rfl⟩
      have HC := Lib.hid hC
      clear hC
      go_upto_region 12 with (go_at_call 25; refine (Period_any _ k _ l _ (sees_own HB0.out.2.1)).mono ?_; rintro e w1 ⟨a, rfl, hR, k1⟩; have HG0 := Lib.hid hR; have B1 := Lib.hid (And.intro (below_step HB0.out.1 k1) (And.intro (own_below HB0.out.2.1 k1 (Nat.le_refl _)) HB0.out.2.2)); clear hR k1)
      clear HB0
      obtain ⟨g, rfl, hG⟩ := per_got HPN.out HP1.out.1 HP1.out.2 HG0.out
      have HG := Lib.hid hG
      clear hG HG0
      go_upto_region 13 with (go_at_call 15; refine (Of_right _ k _ l C _ (sees_own B1.out.2.1) (by have := HZ.out; omega) (fun r _ => by rw [HC.out])).mono ?_; rintro e w2 ⟨x, y, rfl, f, k2⟩; have FX := Lib.hid f; have B2 : Hid (Below w.heap.size w (w2.alloc (.cells #[.complex .f64 (x 0) (y 0), .complex .f64 (x 1) (y 1), .complex .f64 (x 2) (y 2), .complex .f64 (x 3) (y 3)] 26)) ∧ (w2.alloc (.cells #[.complex .f64 (x 0) (y 0), .complex .f64 (x 1) (y 1), .complex .f64 (x 2) (y 2), .complex .f64 (x 3) (y 3)] 26)).ownsRow V.heap.size 3 1 (.slice (some ⟨gr, 0, none⟩) k c2) k (l.map (Value.int .i64)) ∧ (V.heap.size ≤ gr ∧ w.heap.size ≤ V.heap.size) ∧ Arr 26 (w2.alloc (.cells #[.complex .f64 (x 0) (y 0), .complex .f64 (x 1) (y 1), .complex .f64 (x 2) (y 2), .complex .f64 (x 3) (y 3)] 26)) w2.heap.size #[.complex .f64 (x 0) (y 0), .complex .f64 (x 1) (y 1), .complex .f64 (x 2) (y 2), .complex .f64 (x 3) (y 3)]) := Lib.hid ⟨below_al (below_step B1.out.1 k2) _, (own_below B1.out.2.1 k2 (Nat.le_refl _)).alloc _, B1.out.2.2, Arr.new _ _ _⟩; clear f k2)
      generalize w2.alloc (.cells #[.complex .f64 (x 0) (y 0), .complex .f64 (x 1) (y 1), .complex .f64 (x 2) (y 2), .complex .f64 (x 3) (y 3)] 26) = V2 at B2 ⊢
      generalize w2.heap.size = g2 at B2 ⊢
      clear B1
      obtain ⟨⟨a0, a1, a2, a3⟩, -⟩ := B2.out.2.2.2.four
      have hng : (n : Int).tmod (g : Int) = 0 := tmn n 0 g HG.out.2.1
      obtain ⟨hg0, hg1, hg9⟩ := pw_facts HG.out.1
      have HGG := Lib.hid (pw_range HG.out.1)
      have HPG := Lib.hid HG.out.2.2.1
      rcases HG.out.1 with hg | hg | hg
      · have y1 : ((g : Int) == 1) = true := by simp; omega
        have z1 : decide (g = 1) = true := by simp; omega
        have z1' : decide ((g : Int) = 1) = true := by simp; omega
        have y2 : ((g : Int) == 2) = false := by simp; omega
        have z2 : decide (g = 2) = false := by simp; omega
        have z2' : decide ((g : Int) = 2) = false := by simp; omega
        have yg : decide (1 < (g : Int)) = false := by simp; omega
        have yg' : decide (1 < g) = false := by simp; omega
        have HCQ : k = 4 * ct := HN.out.2.2.symm
        have hper : per l k 2 := per_one_two (by have h := HPG.out; rw [hg] at h; exact h)
        rw [HCQ] at hper
        have hz2 := sums_two l ct hper
        rw [← HCQ, HC.out] at hz2
        have ze1 := hz2.1
        have ze3 := hz2.2
        have hper1 : per l k 1 := by have h := HPG.out; rw [hg] at h; exact h
        rw [HCQ] at hper1
        have ze2 := sums_one l ct hper1
        rw [← HCQ, HC.out] at ze2
        have f1 := FX.out 1 (by decide)
        rw [ze1.1, ze1.2] at f1
        have o1 := FI.ordE f1.1 fi0
        have o1' := FI.ordE f1.2 fi0
        have f2 := FX.out 2 (by decide)
        rw [ze2.1, ze2.2] at f2
        have o2 := FI.ordE f2.1 fi0
        have o2' := FI.ordE f2.2 fi0
        have f3 := FX.out 3 (by decide)
        rw [ze3.1, ze3.2] at f3
        have o3 := FI.ordE f3.1 fi0
        have o3' := FI.ordE f3.2 fi0
        clear HCQ hper hz2 ze1 ze3 hper1 ze2 f1 f2 f3
        clear hg
        go_wp2_with fail
        clear a0 a1 a2 a3
        go_loopw [14] (fun iv wr => ∃ j : Nat, Hid (g ≤ j ∧ j ≤ k) ∧ iv = .int .i64 (j : Int) ∧ Hid (Below V2.heap.size V2 wr)) (fun iv _ => k - (intOf iv).toNat)
        case atStart => exact ⟨g, Lib.hid ⟨Nat.le_refl _, Nat.le_trans HGG.out.2 (Nat.le_trans (by decide) HN.out.1)⟩, rfl, Lib.hid (Below.refl _ _)⟩
        case round =>
          obtain ⟨j, HJ, rfl, HB⟩ := hrel
          by_cases hlt : j < k
          · have hjk : (j : Int) < (k : Int) := Int.ofNat_lt.2 hlt
            have e1 : decide ((j : Int) < (k : Int)) = true := decide_eq_true hjk
            have e1' : decide (j < k) = true := decide_eq_true hlt
            have hgj := HJ.out.1
            obtain ⟨q', hq, hkp, hwq', hqn, hqn', dq1, dq2⟩ := ix_facts hlt hgj HN.out.2.1
            have g1 := (own_cellK (own_below B2.out.2.1 HB.out (Nat.le_refl _)) hlt).1
            have g2' := (own_cellK (own_below B2.out.2.1 HB.out (Nat.le_refl _)) (Nat.lt_of_le_of_lt (Nat.sub_le j g) hlt)).1
            rw [← HPG.out j hgj hlt] at g2'
            obtain ⟨x', hx⟩ : ∃ x, l.getD j 0 = x := ⟨_, rfl⟩
            rw [hx] at g1 g2'
            rw [hq] at g2'
            have HLT := Lib.hid (And.intro hlt hgj)
            clear hlt hx hq hgj hqn'
            go_wp2_with fail
            go_quiet (fail)
            go_wp2_with fail
            go_roundw
            case rel => exact ⟨j + 1, Lib.hid (le_next HLT.out.2 HLT.out.1), by go_num, Lib.hid (below_drewN HB.out _)⟩
            case measure => have := HLT.out; simp [intOf]; omega
          · obtain rfl : j = k := Nat.le_antisymm HJ.out.2 (Nat.not_lt.1 hlt)
            clear hlt
            have hO := own_below B2.out.2.1 HB.out (Nat.le_refl _)
            obtain ⟨q1, q2⟩ := own_cellK hO (show 5 < j by have := HN.out; omega)
            obtain ⟨v, hv⟩ : ∃ v, l.getD 5 0 = v := ⟨_, rfl⟩
            have hv2 : v.natAbs ≤ 1099511627776 := by rw [← hv]; exact HLE.out _ (by rw [List.getD_eq_getElem?_getD, List.getElem?_eq_getElem (by rw [HLN.out]; have := HN.out; omega)]; exact List.getElem_mem _)
            rw [hv] at q1
            have hk5 : (5 : Int) < (j : Int) := by have := HN.out; omega
            have d5 : decide ((5 : Int) < (j : Int)) = true := by simp; omega
            have d5' : decide (5 < j) = true := by simp; omega
            have hwv : wrap64 (v + 1) = v + 1 := IntWalk.wrap64_in _ (by omega)
            have hwv2 : IntKind.i64.wrap (v + 1) = v + 1 := IntWalk.i64_in _ (by omega)
            have hset := own_setK hO 5 (v + 1)
            have B5 := Lib.hid (And.intro ((below_step B2.out.1 HB.out).setCell (show w.heap.size ≤ (⟨gr, 5, none⟩ : Addr).block from Nat.le_trans B2.out.2.2.1.2 B2.out.2.2.1.1) (.int .i64 (v + 1))) hset)
            have HV5 : Hid (∀ a, PerR (l.set 5 (v + 1)) j a → a = 0) := Lib.hid (fun a h => per_changed HLN.out (by have := HN.out; omega) HP1.out.2 (by rw [hv]; exact h))
            clear hO hv hv2 hset
            go_wp2_with (go_at_call 25; refine (Period_any _ j _ (l.set 5 (v + 1)) _ (sees_own B5.out.2)).mono ?_; rintro e w9 ⟨a, rfl, hR, k9⟩; obtain rfl := HV5.out a hR; have B9 := Lib.hid (below_step B5.out.1 k9); clear k9 hR)
            go_ret
            exact ⟨rfl, B9.out⟩
      · have y1 : ((g : Int) == 1) = false := by simp; omega
        have z1 : decide (g = 1) = false := by simp; omega
        have z1' : decide ((g : Int) = 1) = false := by simp; omega
        have y2 : ((g : Int) == 2) = true := by simp; omega
        have z2 : decide (g = 2) = true := by simp; omega
        have z2' : decide ((g : Int) = 2) = true := by simp; omega
        have yg : decide (1 < (g : Int)) = true := by simp; omega
        have yg' : decide (1 < g) = true := by simp; omega
        have HCQ : k = 4 * ct := HN.out.2.2.symm
        have hper : per l k 2 := by have h := HPG.out; rw [hg] at h; exact h
        rw [HCQ] at hper
        have hz2 := sums_two l ct hper
        rw [← HCQ, HC.out] at hz2
        have ze1 := hz2.1
        have ze3 := hz2.2
        have f1 := FX.out 1 (by decide)
        rw [ze1.1, ze1.2] at f1
        have o1 := FI.ordE f1.1 fi0
        have o1' := FI.ordE f1.2 fi0
        have f3 := FX.out 3 (by decide)
        rw [ze3.1, ze3.2] at f3
        have o3 := FI.ordE f3.1 fi0
        have o3' := FI.ordE f3.2 fi0
        clear HCQ hper hz2 ze1 ze3  f1 f3
        have HG4 := Lib.hid hg
        clear hg
        go_wp2_with fail
        clear a0 a1 a2 a3
        go_loopw [14] (fun iv wr => ∃ j : Nat, Hid (g ≤ j ∧ j ≤ k) ∧ iv = .int .i64 (j : Int) ∧ Hid (Below V2.heap.size V2 wr)) (fun iv _ => k - (intOf iv).toNat)
        case atStart => exact ⟨g, Lib.hid ⟨Nat.le_refl _, Nat.le_trans HGG.out.2 (Nat.le_trans (by decide) HN.out.1)⟩, rfl, Lib.hid (Below.refl _ _)⟩
        case round =>
          obtain ⟨j, HJ, rfl, HB⟩ := hrel
          by_cases hlt : j < k
          · have hjk : (j : Int) < (k : Int) := Int.ofNat_lt.2 hlt
            have e1 : decide ((j : Int) < (k : Int)) = true := decide_eq_true hjk
            have e1' : decide (j < k) = true := decide_eq_true hlt
            have hgj := HJ.out.1
            obtain ⟨q', hq, hkp, hwq', hqn, hqn', dq1, dq2⟩ := ix_facts hlt hgj HN.out.2.1
            have g1 := (own_cellK (own_below B2.out.2.1 HB.out (Nat.le_refl _)) hlt).1
            have g2' := (own_cellK (own_below B2.out.2.1 HB.out (Nat.le_refl _)) (Nat.lt_of_le_of_lt (Nat.sub_le j g) hlt)).1
            rw [← HPG.out j hgj hlt] at g2'
            obtain ⟨x', hx⟩ : ∃ x, l.getD j 0 = x := ⟨_, rfl⟩
            rw [hx] at g1 g2'
            rw [hq] at g2'
            have HLT := Lib.hid (And.intro hlt hgj)
            clear hlt hx hq hgj hqn'
            go_wp2_with fail
            go_quiet (fail)
            go_wp2_with fail
            go_roundw
            case rel => exact ⟨j + 1, Lib.hid (le_next HLT.out.2 HLT.out.1), by go_num, Lib.hid (below_drewN HB.out _)⟩
            case measure => have := HLT.out; simp [intOf]; omega
          · obtain rfl : j = k := Nat.le_antisymm HJ.out.2 (Nat.not_lt.1 hlt)
            clear hlt
            obtain ⟨h, hgh, hwh, hwh2, hh1⟩ := half_2 HG4.out
            have HH : Hid (1 ≤ h ∧ h ≤ 2 ∧ ¬ per l j h) := Lib.hid (by
              rw [hh1]
              exact ⟨by decide, by decide, HG.out.2.2.2.1 HG4.out⟩)
            have hh9 : (h : Int) ≤ 2 := by rw [hh1]; decide
            clear hh1
            go_wp2_with fail
            go_loopw [15, 16] (fun bv kv wq => ∃ (i : Nat) (b : Bool), Hid (h ≤ i ∧ i ≤ j) ∧ kv = .int .i64 (i : Int) ∧ bv = .bool b ∧ Hid (b = true ↔ per l i h) ∧ Hid (Below V2.heap.size V2 wq)) (fun _ kv _ => j - (intOf kv).toNat)
            case atStart => exact ⟨h, true, Lib.hid ⟨Nat.le_refl _, Nat.le_trans HH.out.2.1 (Nat.le_trans (by decide) HN.out.1)⟩, rfl, rfl, Lib.hid ⟨fun _ i h1 h2 => absurd h1 (Nat.not_le.2 h2), fun _ => rfl⟩, HB⟩
            case round =>
              clear HB
              obtain ⟨i, b, HI, rfl, rfl, HBB, HB⟩ := hrel
              by_cases hlt : i < j
              · have hij : (i : Int) < (j : Int) := Int.ofNat_lt.2 hlt
                have d1 : decide ((i : Int) < (j : Int)) = true := decide_eq_true hij
                have d1' : decide (i < j) = true := decide_eq_true hlt
                have hhi := HI.out.1
                obtain ⟨q', hq, hkp, hwq', hqn, hqn', dq1, dq2⟩ := ix_facts hlt hhi HN.out.2.1
                have g1 := (own_cellK (own_below B2.out.2.1 HB.out (Nat.le_refl _)) hlt).1
                have g2' := (own_cellK (own_below B2.out.2.1 HB.out (Nat.le_refl _)) (Nat.lt_of_le_of_lt (Nat.sub_le i h) hlt)).1
                obtain ⟨x', hx⟩ : ∃ x, l.getD i 0 = x := ⟨_, rfl⟩
                obtain ⟨y', hy⟩ : ∃ y, l.getD (i - h) 0 = y := ⟨_, rfl⟩
                rw [hx] at g1
                rw [hy] at g2'
                rw [hq] at g2'
                have HLT2 := Lib.hid (And.intro hlt hhi)
                have hst' := per_step (l := l) hhi
                rw [hx, hy] at hst'
                have HST := Lib.hid hst'
                clear hlt hx hy hq hst' hhi hqn'
                cases b with
                | false =>
                  have HN2 : Hid (false = true ↔ per l (i + 1) h) := Lib.hid ⟨fun h => by (cases h), fun h => HBB.out.2 (HST.out.1 h).1⟩
                  go_wp2_with fail
                  go_quiet (fail)
                  go_wp2_with fail
                  go_roundw
                  case rel => exact ⟨i + 1, false, Lib.hid (le_next HLT2.out.2 HLT2.out.1), by go_num, rfl, HN2, Lib.hid (below_drewN HB.out _)⟩
                  case measure => have h1 := HLT2.out; clear hgh hng; simp [intOf]; omega
                | true =>
                  by_cases he : x' = y'
                  · have hE : (x' == y') = true := by simpa using he
                    have hE' : decide (x' = y') = true := decide_eq_true he
                    have HN2 : Hid (True ↔ per l (i + 1) h) := Lib.hid ⟨fun _ => HST.out.2 ⟨HBB.out.1 rfl, he⟩, fun _ => trivial⟩
                    clear he
                    go_wp2_with fail
                    go_quiet (fail)
                    go_wp2_with fail
                    go_roundw
                    case rel => exact ⟨i + 1, true, Lib.hid (le_next HLT2.out.2 HLT2.out.1), by go_num, by simp [hE], Lib.hid ⟨fun _ => HN2.out.1 trivial, fun _ => rfl⟩, Lib.hid (below_drewN HB.out _)⟩
                    case measure => have h1 := HLT2.out; clear hgh hng; simp [intOf]; omega
                  · have hE : (x' == y') = false := by simpa using he
                    have hE' : decide (x' = y') = false := decide_eq_false he
                    have HN2 : Hid (false = true ↔ per l (i + 1) h) := Lib.hid ⟨fun h => by (cases h), fun h => absurd (HST.out.1 h).2 he⟩
                    clear he
                    go_wp2_with fail
                    go_quiet (fail)
                    go_wp2_with fail
                    go_roundw
                    case rel => exact ⟨i + 1, false, Lib.hid (le_next HLT2.out.2 HLT2.out.1), by go_num, by simp [hE], HN2, Lib.hid (below_drewN HB.out _)⟩
                    case measure => have h1 := HLT2.out; clear hgh hng; simp [intOf]; omega
              · obtain rfl : i = j := Nat.le_antisymm HI.out.2 (Nat.not_lt.1 hlt)
                obtain rfl : b = false := by
                  cases b with
                  | false => rfl
                  | true => exact absurd (HBB.out.1 rfl) HH.out.2.2
                clear hlt
                have hO := own_below B2.out.2.1 HB.out (Nat.le_refl _)
                obtain ⟨q1, q2⟩ := own_cellK hO (show 5 < i by have := HN.out; omega)
                obtain ⟨v, hv⟩ : ∃ v, l.getD 5 0 = v := ⟨_, rfl⟩
                have hv2 : v.natAbs ≤ 1099511627776 := by rw [← hv]; exact HLE.out _ (by rw [List.getD_eq_getElem?_getD, List.getElem?_eq_getElem (by rw [HLN.out]; have := HN.out; omega)]; exact List.getElem_mem _)
                rw [hv] at q1
                have hk5 : (5 : Int) < (i : Int) := by have := HN.out; omega
                have d5 : decide ((5 : Int) < (i : Int)) = true := by simp; omega
                have d5' : decide (5 < i) = true := by simp; omega
                have hwv : wrap64 (v + 1) = v + 1 := IntWalk.wrap64_in _ (by omega)
                have hwv2 : IntKind.i64.wrap (v + 1) = v + 1 := IntWalk.i64_in _ (by omega)
                have hset := own_setK hO 5 (v + 1)
                have B5 := Lib.hid (And.intro ((below_step B2.out.1 HB.out).setCell (show w.heap.size ≤ (⟨gr, 5, none⟩ : Addr).block from Nat.le_trans B2.out.2.2.1.2 B2.out.2.2.1.1) (.int .i64 (v + 1))) hset)
                have HV5 : Hid (∀ a, PerR (l.set 5 (v + 1)) i a → a = 0) := Lib.hid (fun a h => per_changed HLN.out (by have := HN.out; omega) HP1.out.2 (by rw [hv]; exact h))
                clear hO hv hv2 hset
                go_wp2_with (go_at_call 25; refine (Period_any _ i _ (l.set 5 (v + 1)) _ (sees_own B5.out.2)).mono ?_; rintro e w9 ⟨a, rfl, hR, k9⟩; obtain rfl := HV5.out a hR; have B9 := Lib.hid (below_step B5.out.1 k9); clear k9 hR)
                go_ret
                exact ⟨rfl, B9.out⟩
      · have y1 : ((g : Int) == 1) = false := by simp; omega
        have z1 : decide (g = 1) = false := by simp; omega
        have z1' : decide ((g : Int) = 1) = false := by simp; omega
        have y2 : ((g : Int) == 2) = false := by simp; omega
        have z2 : decide (g = 2) = false := by simp; omega
        have z2' : decide ((g : Int) = 2) = false := by simp; omega
        have yg : decide (1 < (g : Int)) = true := by simp; omega
        have yg' : decide (1 < g) = true := by simp; omega
        have HG4 := Lib.hid hg
        clear hg
        go_wp2_with fail
        clear a0 a1 a2 a3
        go_loopw [14] (fun iv wr => ∃ j : Nat, Hid (g ≤ j ∧ j ≤ k) ∧ iv = .int .i64 (j : Int) ∧ Hid (Below V2.heap.size V2 wr)) (fun iv _ => k - (intOf iv).toNat)
        case atStart => exact ⟨g, Lib.hid ⟨Nat.le_refl _, Nat.le_trans HGG.out.2 (Nat.le_trans (by decide) HN.out.1)⟩, rfl, Lib.hid (Below.refl _ _)⟩
        case round =>
          obtain ⟨j, HJ, rfl, HB⟩ := hrel
          by_cases hlt : j < k
          · have hjk : (j : Int) < (k : Int) := Int.ofNat_lt.2 hlt
            have e1 : decide ((j : Int) < (k : Int)) = true := decide_eq_true hjk
            have e1' : decide (j < k) = true := decide_eq_true hlt
            have hgj := HJ.out.1
            obtain ⟨q', hq, hkp, hwq', hqn, hqn', dq1, dq2⟩ := ix_facts hlt hgj HN.out.2.1
            have g1 := (own_cellK (own_below B2.out.2.1 HB.out (Nat.le_refl _)) hlt).1
            have g2' := (own_cellK (own_below B2.out.2.1 HB.out (Nat.le_refl _)) (Nat.lt_of_le_of_lt (Nat.sub_le j g) hlt)).1
            rw [← HPG.out j hgj hlt] at g2'
            obtain ⟨x', hx⟩ : ∃ x, l.getD j 0 = x := ⟨_, rfl⟩
            rw [hx] at g1 g2'
            rw [hq] at g2'
            have HLT := Lib.hid (And.intro hlt hgj)
            clear hlt hx hq hgj hqn'
            go_wp2_with fail
            go_quiet (fail)
            go_wp2_with fail
            go_roundw
            case rel => exact ⟨j + 1, Lib.hid (le_next HLT.out.2 HLT.out.1), by go_num, Lib.hid (below_drewN HB.out _)⟩
            case measure => have := HLT.out; simp [intOf]; omega
          · obtain rfl : j = k := Nat.le_antisymm HJ.out.2 (Nat.not_lt.1 hlt)
            clear hlt
            obtain ⟨h, hgh, hwh, hwh2, hh1⟩ := half_4 HG4.out
            have HH : Hid (1 ≤ h ∧ h ≤ 2 ∧ ¬ per l j h) := Lib.hid (by
              rw [hh1]
              exact ⟨by decide, by decide, HG.out.2.2.2.2 HG4.out⟩)
            have hh9 : (h : Int) ≤ 2 := by rw [hh1]; decide
            clear hh1
            go_wp2_with fail
            go_loopw [15, 16] (fun bv kv wq => ∃ (i : Nat) (b : Bool), Hid (h ≤ i ∧ i ≤ j) ∧ kv = .int .i64 (i : Int) ∧ bv = .bool b ∧ Hid (b = true ↔ per l i h) ∧ Hid (Below V2.heap.size V2 wq)) (fun _ kv _ => j - (intOf kv).toNat)
            case atStart => exact ⟨h, true, Lib.hid ⟨Nat.le_refl _, Nat.le_trans HH.out.2.1 (Nat.le_trans (by decide) HN.out.1)⟩, rfl, rfl, Lib.hid ⟨fun _ i h1 h2 => absurd h1 (Nat.not_le.2 h2), fun _ => rfl⟩, HB⟩
            case round =>
              clear HB
              obtain ⟨i, b, HI, rfl, rfl, HBB, HB⟩ := hrel
              by_cases hlt : i < j
              · have hij : (i : Int) < (j : Int) := Int.ofNat_lt.2 hlt
                have d1 : decide ((i : Int) < (j : Int)) = true := decide_eq_true hij
                have d1' : decide (i < j) = true := decide_eq_true hlt
                have hhi := HI.out.1
                obtain ⟨q', hq, hkp, hwq', hqn, hqn', dq1, dq2⟩ := ix_facts hlt hhi HN.out.2.1
                have g1 := (own_cellK (own_below B2.out.2.1 HB.out (Nat.le_refl _)) hlt).1
                have g2' := (own_cellK (own_below B2.out.2.1 HB.out (Nat.le_refl _)) (Nat.lt_of_le_of_lt (Nat.sub_le i h) hlt)).1
                obtain ⟨x', hx⟩ : ∃ x, l.getD i 0 = x := ⟨_, rfl⟩
                obtain ⟨y', hy⟩ : ∃ y, l.getD (i - h) 0 = y := ⟨_, rfl⟩
                rw [hx] at g1
                rw [hy] at g2'
                rw [hq] at g2'
                have HLT2 := Lib.hid (And.intro hlt hhi)
                have hst' := per_step (l := l) hhi
                rw [hx, hy] at hst'
                have HST := Lib.hid hst'
                clear hlt hx hy hq hst' hhi hqn'
                cases b with
                | false =>
                  have HN2 : Hid (false = true ↔ per l (i + 1) h) := Lib.hid ⟨fun h => by (cases h), fun h => HBB.out.2 (HST.out.1 h).1⟩
                  go_wp2_with fail
                  go_quiet (fail)
                  go_wp2_with fail
                  go_roundw
                  case rel => exact ⟨i + 1, false, Lib.hid (le_next HLT2.out.2 HLT2.out.1), by go_num, rfl, HN2, Lib.hid (below_drewN HB.out _)⟩
                  case measure => have h1 := HLT2.out; clear hgh hng; simp [intOf]; omega
                | true =>
                  by_cases he : x' = y'
                  · have hE : (x' == y') = true := by simpa using he
                    have hE' : decide (x' = y') = true := decide_eq_true he
                    have HN2 : Hid (True ↔ per l (i + 1) h) := Lib.hid ⟨fun _ => HST.out.2 ⟨HBB.out.1 rfl, he⟩, fun _ => trivial⟩
                    clear he
                    go_wp2_with fail
                    go_quiet (fail)
                    go_wp2_with fail
                    go_roundw
                    case rel => exact ⟨i + 1, true, Lib.hid (le_next HLT2.out.2 HLT2.out.1), by go_num, by simp [hE], Lib.hid ⟨fun _ => HN2.out.1 trivial, fun _ => rfl⟩, Lib.hid (below_drewN HB.out _)⟩
                    case measure => have h1 := HLT2.out; clear hgh hng; simp [intOf]; omega
                  · have hE : (x' == y') = false := by simpa using he
                    have hE' : decide (x' = y') = false := decide_eq_false he
                    have HN2 : Hid (false = true ↔ per l (i + 1) h) := Lib.hid ⟨fun h => by (cases h), fun h => absurd (HST.out.1 h).2 he⟩
                    clear he
                    go_wp2_with fail
                    go_quiet (fail)
                    go_wp2_with fail
                    go_roundw
                    case rel => exact ⟨i + 1, false, Lib.hid (le_next HLT2.out.2 HLT2.out.1), by go_num, by simp [hE], HN2, Lib.hid (below_drewN HB.out _)⟩
                    case measure => have h1 := HLT2.out; clear hgh hng; simp [intOf]; omega
              · obtain rfl : i = j := Nat.le_antisymm HI.out.2 (Nat.not_lt.1 hlt)
                obtain rfl : b = false := by
                  cases b with
                  | false => rfl
                  | true => exact absurd (HBB.out.1 rfl) HH.out.2.2
                clear hlt
                have hO := own_below B2.out.2.1 HB.out (Nat.le_refl _)
                obtain ⟨q1, q2⟩ := own_cellK hO (show 5 < i by have := HN.out; omega)
                obtain ⟨v, hv⟩ : ∃ v, l.getD 5 0 = v := ⟨_, rfl⟩
                have hv2 : v.natAbs ≤ 1099511627776 := by rw [← hv]; exact HLE.out _ (by rw [List.getD_eq_getElem?_getD, List.getElem?_eq_getElem (by rw [HLN.out]; have := HN.out; omega)]; exact List.getElem_mem _)
                rw [hv] at q1
                have hk5 : (5 : Int) < (i : Int) := by have := HN.out; omega
                have d5 : decide ((5 : Int) < (i : Int)) = true := by simp; omega
                have d5' : decide (5 < i) = true := by simp; omega
                have hwv : wrap64 (v + 1) = v + 1 := IntWalk.wrap64_in _ (by omega)
                have hwv2 : IntKind.i64.wrap (v + 1) = v + 1 := IntWalk.i64_in _ (by omega)
                have hset := own_setK hO 5 (v + 1)
                have B5 := Lib.hid (And.intro ((below_step B2.out.1 HB.out).setCell (show w.heap.size ≤ (⟨gr, 5, none⟩ : Addr).block from Nat.le_trans B2.out.2.2.1.2 B2.out.2.2.1.1) (.int .i64 (v + 1))) hset)
                have HV5 : Hid (∀ a, PerR (l.set 5 (v + 1)) i a → a = 0) := Lib.hid (fun a h => per_changed HLN.out (by have := HN.out; omega) HP1.out.2 (by rw [hv]; exact h))
                clear hO hv hv2 hset
                go_wp2_with (go_at_call 25; refine (Period_any _ i _ (l.set 5 (v + 1)) _ (sees_own B5.out.2)).mono ?_; rintro e w9 ⟨a, rfl, hR, k9⟩; obtain rfl := HV5.out a hR; have B9 := Lib.hid (below_step B5.out.1 k9); clear k9 hR)
                go_ret
                exact ⟨rfl, B9.out⟩
end Go.Proofs.Ythidfmkmklnhhaa
