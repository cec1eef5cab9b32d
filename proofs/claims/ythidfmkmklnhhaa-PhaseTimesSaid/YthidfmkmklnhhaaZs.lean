/- Walks: PhaseTimes. Printed by gen_zs.py. -/
import Derived.Test.YthidfmkmklnhhaaProg
import Derived.Test.YthidfmkmklnhhaaZr
import Derived.Test.YthidfmkmklnhhaaYz
import Derived.Deep.DeepCutAuto
import Derived.BigRegion
namespace Go.Proofs.Ythidfmkmklnhhaa
open Go.RowKit
set_option linter.unusedVariables false

theorem cut_facts (n : Nat) : ∃ j : Nat, j ≤ n ∧ j ≤ 30 ∧ (if (30 : Int) < (n : Int) then (30 : Int) else (n : Int)) = (j : Int) ∧ (if 30 < n then (30 : Int) else (n : Int)) = (j : Int) ∧ (j : Int) ≤ 30 ∧ (j : Int) ≤ (n : Int) := by
  obtain ⟨j, h1, h2, h3, h4⟩ := min_is n 30
  exact ⟨j, h1, h2, by split <;> omega, by split <;> omega, by omega, by omega⟩

theorem cell_facts {i j N : Nat} (h : i + j < N) (hN : N ≤ 60) : ∃ t : Nat, i + j = t ∧ (i : Int) + (j : Int) = (t : Int) ∧ IntKind.i64.wrap (t : Int) = (t : Int) ∧ wrap64 (t : Int) = (t : Int) ∧ (t : Int) < (N : Int) ∧ t < N ∧ decide ((t : Int) < (N : Int)) = true ∧ decide (t < N) = true := by
  have h2 : ((i + j : Nat) : Int) < (N : Int) := by omega
  exact ⟨i + j, rfl, by omega, IntWalk.i64_in _ (by omega), IntWalk.wrap64_in _ (by omega), h2, h, decide_eq_true h2, decide_eq_true h⟩
theorem one_more {j : Nat} (h : j < 30) : wrap64 ((j : Int) + 1) = (j : Int) + 1 ∧ IntKind.i64.wrap ((j : Int) + 1) = (j : Int) + 1 := ⟨IntWalk.wrap64_in _ (by omega), IntWalk.i64_in _ (by omega)⟩
theorem n60 {a b N : Nat} (h1 : a ≤ 30) (h2 : b ≤ 30) (h : a + b = N) : N ≤ 60 := by omega
theorem ij_lt {i j a b N : Nat} (h1 : i < a) (h2 : j < b) (h : a + b = N) : i + j < N := by omega

set_option maxRecDepth 20000 in
set_option maxHeartbeats 4000000 in
theorem PhaseTimes_any (A B : Option Addr) (na ca nb cb : Nat) (la lb : List Int) (w : World) (h1 : Sees w 1 A na ca (la.map (Value.int .i64))) (h2 : Sees w 1 B nb cb (lb.map (Value.int .i64))) :
    Calls Try.prog 5 #[.slice A na ca, .slice B nb cb] w fun e w' => e = .returned (.bool true) ∧ Below w.heap.size w w' := by
  have hst := st_c
  have HS := Lib.hid (And.intro h1 h2)
  clear h1 h2
  go_enter Try.func5, Try.ntmps5
  go_upto_region 4 with (first
    | (go_at_call 14; have _q := K1; refine (row_any B nb cb lb _ (HS.out.2.below K1.out.2.2 (Nat.le_refl _))).mono ?_; rintro e w2 ⟨A2, c2, rfl, o2, k2⟩; have K2 := Lib.hid (And.intro (own_below K1.out.1 k2 (Nat.le_refl _)) (And.intro o2 (And.intro (fun q hq => (K1.out.1.lt q hq).2) (And.intro K1.out.2.1 (And.intro k2.size (below_step K1.out.2.2 k2)))))); clear o2 k2)
    | (go_at_call 14; have _q := K0; refine (row_any A na ca la _ (HS.out.1.below K0.out (Nat.le_refl _))).mono ?_; rintro e w1 ⟨A1, c1, rfl, o1, k1⟩; have K1 := Lib.hid (And.intro o1 (And.intro (And.intro K0.out.size k1.size) (below_step K0.out k1))); clear o1 k1)
    | (go_at_call 13; refine (awake_any _).mono ?_; rintro e w0 ⟨rfl, k0⟩; have K0 := Lib.hid k0; clear k0))
  clear K0 K1 HS
  obtain ⟨n1, hn1⟩ : ∃ n, min na 200 = n := ⟨_, rfl⟩
  obtain ⟨n2, hn2⟩ : ∃ n, min nb 200 = n := ⟨_, rfl⟩
  rw [hn1, hn2] at K2
  rw [hn1, hn2]
  clear hn1 hn2
  generalize rw40 la n1 = ka at K2
  generalize rw40 lb n2 = kb at K2
  obtain ⟨j1, hj1, hj2, hm1, hm1', hj3, hj4⟩ := cut_facts n1
  obtain ⟨j2, hk1, hk2, hm2, hm2', hk3, hk4⟩ := cut_facts n2
  have hc1 : n1 ≤ c1 := (sees_own K2.out.1).cap
  have hc2 : n2 ≤ c2 := (sees_own K2.out.2.1).cap
  have hcut1 := fun w => run_cutr E_ii A1 n1 c1 j1 (Nat.le_trans hj1 hc1) w
  have hcut2 := fun w => run_cutr E_ii A2 n2 c2 j2 (Nat.le_trans hk1 hc2) w
  have HJ := Lib.hid (And.intro hj1 (And.intro hj2 (And.intro hk1 hk2)))
  have K3 := Lib.hid (And.intro (own_cut K2.out.1 hj1) (And.intro (own_cut K2.out.2.1 hk1) K2.out.2.2))
  clear K2 hj1 hj2 hk1 hk2 hc1 hc2
  rw [← List.map_take, ← List.map_take] at K3
  have HL := Lib.hid (And.intro (show (ka.take j1).length = j1 from by have := (sees_own K3.out.1).length; simpa using this) (show (kb.take j2).length = j2 from by have := (sees_own K3.out.2.1).length; simpa using this))
  generalize ka.take j1 = ka at K3 HL
  generalize kb.take j2 = kb at K3 HL
  go_wp2_with fail
  go_region
  generalize hV0 : w2.drew = V0
  have K4 : Hid (V0.ownsRow w0.heap.size 3 1 (.slice A1 j1 c1) j1 (ka.map (Value.int .i64)) ∧ V0.ownsRow w1.heap.size 3 1 (.slice A2 j2 c2) j2 (kb.map (Value.int .i64)) ∧ (∀ q, (Value.slice A1 n1 c1).ownBlock = some q → q < w1.heap.size) ∧ (w.heap.size ≤ w0.heap.size ∧ w0.heap.size ≤ w1.heap.size) ∧ w1.heap.size ≤ V0.heap.size ∧ Below w.heap.size w V0) := Lib.hid (by
    rw [← hV0]
    exact ⟨K3.out.1.drew, K3.out.2.1.drew, K3.out.2.2.1, K3.out.2.2.2.1, K3.out.2.2.2.2.1, K3.out.2.2.2.2.2.drew⟩)
  clear hV0 K3
  generalize w0.heap.size = b0 at K4
  generalize w1.heap.size = b1 at K4
  obtain ⟨N, hN⟩ : ∃ N : Nat, j1 + j2 = N := ⟨_, rfl⟩
  have hsum : (j1 : Int) + (j2 : Int) = (N : Int) := by omega
  have hN9 : (N : Int) ≤ 60 := by omega
  have hwN : wrap64 (N : Int) = (N : Int) := IntWalk.wrap64_in _ (by omega)
  have hwN2 : IntKind.i64.wrap (N : Int) = (N : Int) := IntWalk.i64_in _ (by omega)
  have HN := Lib.hid hN
  clear hN
  go_wp2_with (at_make; refine wpList_mkF E_ii rfl _ _ rfl N rfl rfl (by rfl) (by rfl) (by omega) (by simp [maxLen]; omega) ?_; intro w3 hown3 hg3 hb3; have T0 : Hid (T3 w (.slice A1 j1 c1) (.slice A2 j2 c2) (.slice (some ⟨V0.heap.size, 0, none⟩) N N) b0 b1 V0.heap.size j1 j2 N (mx ka j1 0) (mx kb j2 0) (List.replicate N 0) w3) := Lib.hid ⟨by rw [mx_zero _ _ HL.out.1]; exact own_below K4.out.1 hb3 (Nat.le_refl _), by rw [mx_zero _ _ HL.out.2]; exact own_below K4.out.2.1 hb3 (Nat.le_refl _), hown3, fun q hq => K4.out.2.2.1 q (by cases A1 <;> exact hq), fun q hq => (K4.out.2.1.lt q hq).2, ⟨K4.out.2.2.2.1.1, K4.out.2.2.2.1.2, K4.out.2.2.2.2.1⟩, below_step K4.out.2.2.2.2.2 hb3⟩; clear hown3 hg3 hb3)
  clear K4
  generalize V0.heap.size = gp at T0 ⊢
  go_loopw [46] (fun iv wr => ∃ k : Nat, Hid (k ≤ j1) ∧ iv = .int .i64 (k : Int) ∧ Hid (T3 w (.slice A1 j1 c1) (.slice A2 j2 c2) (.slice (some ⟨gp, 0, none⟩) N N) b0 b1 gp j1 j2 N (mx ka j1 k) (mx kb j2 0) (List.replicate N 0) wr)) (fun iv _ => j1 - (intOf iv).toNat)
  case atStart => exact ⟨0, Lib.hid (Nat.zero_le _), rfl, T0⟩
  case round =>
    clear T0
    obtain ⟨k, HK, rfl, T0⟩ := hrel
    by_cases hlt : k < j1
    · have hkj : (k : Int) < (j1 : Int) := Int.ofNat_lt.2 hlt
      have d0 : decide ((k : Int) < (j1 : Int)) = true := decide_eq_true hkj
      have d0' : decide (k < j1) = true := decide_eq_true hlt
      obtain ⟨g, c', hA, _⟩ := own_addrK T0.out.rk (Nat.lt_of_le_of_lt (Nat.zero_le _) hlt)
      cases hA
      obtain ⟨g1, g2⟩ := own_cellK T0.out.rk hlt
      rw [mx_get _ _ _ hlt] at g1
      have hset := mx_set ka j1 k hlt
      obtain ⟨v, hv⟩ : ∃ v, ka.getD k 0 = v := ⟨_, rfl⟩
      rw [hv] at g1 hset
      have ht18 := tm18 v
      obtain ⟨t, ht⟩ : ∃ t, v.tmod 262144 = t := ⟨_, rfl⟩
      rw [ht] at hset ht18
      have hwt : IntKind.i64.wrap t = t := IntWalk.i64_in _ (by clear ht; omega)
      have T1 := Lib.hid (T0.out.setK k t)
      rw [hset] at T1
      have HLT := Lib.hid hlt
      clear hlt hv ht18 hset
      go_wp2_with fail
      go_roundw
      case rel => exact ⟨k + 1, Lib.hid HLT.out, by go_num, T1⟩
      case measure => have := HLT.out; simp [intOf]; omega
    · obtain rfl : j1 = k := Nat.le_antisymm (Nat.not_lt.1 hlt) HK.out
      have d0 : decide ((j1 : Int) < (j1 : Int)) = false := by simp
      have d0' : decide (j1 < j1) = false := by simp
      clear hlt HK
      go_wp2_with fail
      clear d0 d0'
      go_loopw [60] (fun iv wr => ∃ k : Nat, Hid (k ≤ j2) ∧ iv = .int .i64 (k : Int) ∧ Hid (T3 w (.slice A1 j1 c1) (.slice A2 j2 c2) (.slice (some ⟨gp, 0, none⟩) N N) b0 b1 gp j1 j2 N (mx ka j1 j1) (mx kb j2 k) (List.replicate N 0) wr)) (fun iv _ => j2 - (intOf iv).toNat)
      case atStart => exact ⟨0, Lib.hid (Nat.zero_le _), rfl, T0⟩
      case round =>
        clear T0
        obtain ⟨k, HK, rfl, T0⟩ := hrel
        by_cases hlt : k < j2
        · have hkj : (k : Int) < (j2 : Int) := Int.ofNat_lt.2 hlt
          have d0 : decide ((k : Int) < (j2 : Int)) = true := decide_eq_true hkj
          have d0' : decide (k < j2) = true := decide_eq_true hlt
          obtain ⟨g, c', hA, _⟩ := own_addrK T0.out.rl (Nat.lt_of_le_of_lt (Nat.zero_le _) hlt)
          cases hA
          obtain ⟨g1, g2⟩ := own_cellK T0.out.rl hlt
          rw [mx_get _ _ _ hlt] at g1
          have hset := mx_set kb j2 k hlt
          obtain ⟨v, hv⟩ : ∃ v, kb.getD k 0 = v := ⟨_, rfl⟩
          rw [hv] at g1 hset
          have ht18 := tm18 v
          obtain ⟨t, ht⟩ : ∃ t, v.tmod 262144 = t := ⟨_, rfl⟩
          rw [ht] at hset ht18
          have hwt : IntKind.i64.wrap t = t := IntWalk.i64_in _ (by clear ht; omega)
          have T1 := Lib.hid (T0.out.setL k t)
          rw [hset] at T1
          have HLT := Lib.hid hlt
          clear hlt hv ht18 hset
          go_wp2_with fail
          go_roundw
          case rel => exact ⟨k + 1, Lib.hid HLT.out, by go_num, T1⟩
          case measure => have := HLT.out; simp [intOf]; omega
        · obtain rfl : j2 = k := Nat.le_antisymm (Nat.not_lt.1 hlt) HK.out
          have d0 : decide ((j2 : Int) < (j2 : Int)) = false := by simp
          have d0' : decide (j2 < j2) = false := by simp
          clear hlt HK
          go_wp2_with fail
          clear d0 d0'
          have HKE := Lib.hid (mx_le ka j1)
          have HLE := Lib.hid (mx_le kb j2)
          generalize mx ka j1 j1 = K at T0 HKE
          generalize mx kb j2 j2 = L at T0 HLE
          have HX := Lib.hid (And.intro (PI.start K L j2 N) T0.out)
          clear T0
          go_loopw [74] (fun iv wr => ∃ (i : Nat) (R : List Int), Hid (i ≤ j1) ∧ iv = .int .i64 (i : Int) ∧ Hid (PI K L R j2 N i 0 ∧ T3 w (.slice A1 j1 c1) (.slice A2 j2 c2) (.slice (some ⟨gp, 0, none⟩) N N) b0 b1 gp j1 j2 N K L R wr)) (fun iv _ => j1 - (intOf iv).toNat)
          case atStart => exact ⟨0, _, Lib.hid (Nat.zero_le _), rfl, HX⟩
          case round =>
            clear HX
            obtain ⟨i, R, HI, rfl, HX⟩ := hrel
            by_cases hlt : i < j1
            · have hij : (i : Int) < (j1 : Int) := Int.ofNat_lt.2 hlt
              have d0 : decide ((i : Int) < (j1 : Int)) = true := decide_eq_true hij
              have d0' : decide (i < j1) = true := decide_eq_true hlt
              obtain ⟨g, c', hA, _⟩ := own_addrK HX.out.2.rk (Nat.lt_of_le_of_lt (Nat.zero_le _) hlt)
              cases hA
              have g1 := (own_cellK HX.out.2.rk hlt).1
              obtain ⟨x, hx⟩ : ∃ x, K.getD i 0 = x := ⟨_, rfl⟩
              have HXX := Lib.hid hx
              rw [hx] at g1
              have HLT := Lib.hid hlt
              clear hlt hx
              go_wp2_with fail
              clear g1
              go_loopw [81] (fun iv wr => ∃ (j : Nat) (R : List Int), Hid (j ≤ j2) ∧ iv = .int .i64 (j : Int) ∧ Hid (PI K L R j2 N i j ∧ T3 w (.slice (some ⟨g, 0, none⟩) j1 c1) (.slice A2 j2 c2) (.slice (some ⟨gp, 0, none⟩) N N) b0 b1 gp j1 j2 N K L R wr)) (fun iv _ => j2 - (intOf iv).toNat)
              case atStart => exact ⟨0, _, Lib.hid (Nat.zero_le _), rfl, HX⟩
              case round =>
                clear HX
                obtain ⟨j, R, HI2, rfl, HX⟩ := hrel
                by_cases hlt : j < j2
                · have hjj : (j : Int) < (j2 : Int) := Int.ofNat_lt.2 hlt
                  have d1 : decide ((j : Int) < (j2 : Int)) = true := decide_eq_true hjj
                  have d1' : decide (j < j2) = true := decide_eq_true hlt
                  obtain ⟨g', c', hA, _⟩ := own_addrK HX.out.2.rl (Nat.lt_of_le_of_lt (Nat.zero_le _) hlt)
                  cases hA
                  have g1 := (own_cellK HX.out.2.rl hlt).1
                  have htN : i + j < N := ij_lt HLT.out hlt HN.out
                  obtain ⟨g3, g4⟩ := own_cellK HX.out.2.rp htN
                  have hx := HXX.out
                  have hxl := all_getD HKE.out i
                  have hyl := all_getD HLE.out j
                  obtain ⟨⟨m1, m2⟩, m3, m4⟩ := HX.out.1.get htN (Nat.lt_of_lt_of_le HLT.out HJ.out.2.1) (Nat.lt_of_lt_of_le hlt HJ.out.2.2.2) hxl hyl
                  have hPI := HX.out.1.step htN hxl hyl
                  have hT := fun z => HX.out.2.setP (i + j) z
                  obtain ⟨t, ht, hijt, hwt, hwt2, htN2, htN3, dt, dt'⟩ := cell_facts htN (n60 HJ.out.2.1 HJ.out.2.2.2 HN.out)
                  obtain ⟨hwj, hwj2⟩ := one_more (Nat.lt_of_lt_of_le hlt HJ.out.2.2.2)
                  rw [ht] at g3 g4 m3 m4 hPI hT
                  rw [hx] at m1 m2 m3 m4 hPI
                  obtain ⟨y, hy⟩ : ∃ y, L.getD j 0 = y := ⟨_, rfl⟩
                  rw [hy] at g1 m1 m2 m3 m4 hPI
                  obtain ⟨z, hz⟩ : ∃ z, R.getD t 0 = z := ⟨_, rfl⟩
                  rw [hz] at g3 m3 m4 hPI
                  obtain ⟨xy, hxy⟩ : ∃ xy, x * y = xy := ⟨_, rfl⟩
                  rw [hxy] at m1 m2 m3 m4 hPI
                  have hwxy : IntKind.i64.wrap (x * y) = xy := by rw [hxy]; exact IntWalk.i64_in _ ⟨m1, m2⟩
                  have hwxy2 : wrap64 (x * y) = xy := by rw [hxy]; exact IntWalk.wrap64_in _ ⟨m1, m2⟩
                  have hwz : IntKind.i64.wrap (z + xy) = z + xy := IntWalk.i64_in _ ⟨m3, m4⟩
                  have hwz2 : wrap64 (z + xy) = z + xy := IntWalk.wrap64_in _ ⟨m3, m4⟩
                  have HX2 := Lib.hid (And.intro hPI (hT (z + xy)))
                  have HLT2 := Lib.hid hlt
                  clear hlt htN htN3 hx hxl hyl m1 m2 m3 m4 hPI hT ht hy hz hxy
                  go_wp2_with fail
                  go_roundw
                  case rel => exact ⟨j + 1, _, Lib.hid HLT2.out, by go_num, HX2⟩
                  case measure => have h := HLT2.out; clear hijt hwt hwt2 htN2 dt dt' hwxy hwxy2 hwz hwz2 hsum hN9 hwN hwN2 hij hj3 hj4 hk3 hk4 hm1 hm1' hm2 hm2' hcut1 hcut2; simp [intOf]; omega
                · obtain rfl : j2 = j := Nat.le_antisymm (Nat.not_lt.1 hlt) HI2.out
                  have d1 : decide ((j2 : Int) < (j2 : Int)) = false := by simp
                  have d1' : decide (j2 < j2) = false := by simp
                  clear hlt
                  have HX2 := Lib.hid (And.intro (HX.out.1.row HJ.out.2.2.2) HX.out.2)
                  go_wp2_with fail
                  go_roundw
                  case rel => exact ⟨i + 1, _, Lib.hid HLT.out, by go_num, HX2⟩
                  case measure => have := HLT.out; simp [intOf]; omega
            · obtain rfl : j1 = i := Nat.le_antisymm (Nat.not_lt.1 hlt) HI.out
              have d0 : decide ((j1 : Int) < (j1 : Int)) = false := by simp
              have d0' : decide (j1 < j1) = false := by simp
              clear hlt HI
              have HPA := Lib.hid (HX.out.1.all HJ.out.2.1)
              have HZ1 := Lib.hid (sz30 HKE.out HJ.out.2.1)
              have HZ2 := Lib.hid (sz30 HLE.out HJ.out.2.2.2)
              obtain ⟨C1, hC1⟩ : ∃ C, cs K j1 = C := ⟨_, rfl⟩
              obtain ⟨C2, hC2⟩ : ∃ C, cs L j2 = C := ⟨_, rfl⟩
              have HC := Lib.hid (And.intro hC1 hC2)
              have HSC : Hid (szc C1 ≤ 16777216 ∧ szc C2 ≤ 16777216) := Lib.hid ⟨by rw [← hC1]; have h1 := szc_cs K j1; have h2 := HZ1.out; omega, by rw [← hC2]; have h1 := szc_cs L j2; have h2 := HZ2.out; omega⟩
              rw [hC1, hC2] at HPA
              clear hC1 hC2
              have B0 := Lib.hid HX.out.2
              clear HX
              generalize hV1 : wr = VV at B0 ⊢
              clear hV1
              go_upto_region 26 with (go_at_call 15; refine (Of_right A1 j1 c1 K C1 _ (sees_own (B0.out).rk) (by have := HZ1.out; omega) (fun r _ => by rw [HC.out.1])).mono ?_; rintro e w10 ⟨x0, y0, rfl, f, kk⟩; have F0 := Lib.hid f; clear f; have B1 : Hid (T3 w (.slice A1 j1 c1) (.slice A2 j2 c2) (.slice (some ⟨gp, 0, none⟩) N N) b0 b1 gp j1 j2 N K L R (w10.alloc (.cells #[.complex .f64 (x0 0) (y0 0), .complex .f64 (x0 1) (y0 1), .complex .f64 (x0 2) (y0 2), .complex .f64 (x0 3) (y0 3)] 26)) ∧ Arr 26 (w10.alloc (.cells #[.complex .f64 (x0 0) (y0 0), .complex .f64 (x0 1) (y0 1), .complex .f64 (x0 2) (y0 2), .complex .f64 (x0 3) (y0 3)] 26)) w10.heap.size #[.complex .f64 (x0 0) (y0 0), .complex .f64 (x0 1) (y0 1), .complex .f64 (x0 2) (y0 2), .complex .f64 (x0 3) (y0 3)]) := Lib.hid ⟨((B0.out).step kk).step (below_al (Below.refl _ _) (.cells #[.complex .f64 (x0 0) (y0 0), .complex .f64 (x0 1) (y0 1), .complex .f64 (x0 2) (y0 2), .complex .f64 (x0 3) (y0 3)] 26)), Arr.new _ _ _⟩; clear kk; (try skip))
              generalize w10.alloc (.cells #[.complex .f64 (x0 0) (y0 0), .complex .f64 (x0 1) (y0 1), .complex .f64 (x0 2) (y0 2), .complex .f64 (x0 3) (y0 3)] 26) = V1 at B1 ⊢
              generalize w10.heap.size = g1 at B1 ⊢
              clear B0
              go_upto_region 27 with (go_at_call 15; refine (Of_right A2 j2 c2 L C2 _ (sees_own (B1.out.1).rl) (by have := HZ2.out; omega) (fun r _ => by rw [HC.out.2])).mono ?_; rintro e w11 ⟨x1, y1, rfl, f, kk⟩; have F1 := Lib.hid f; clear f; have B2 : Hid (T3 w (.slice A1 j1 c1) (.slice A2 j2 c2) (.slice (some ⟨gp, 0, none⟩) N N) b0 b1 gp j1 j2 N K L R (w11.alloc (.cells #[.complex .f64 (x1 0) (y1 0), .complex .f64 (x1 1) (y1 1), .complex .f64 (x1 2) (y1 2), .complex .f64 (x1 3) (y1 3)] 26)) ∧ Arr 26 (w11.alloc (.cells #[.complex .f64 (x1 0) (y1 0), .complex .f64 (x1 1) (y1 1), .complex .f64 (x1 2) (y1 2), .complex .f64 (x1 3) (y1 3)] 26)) g1 #[.complex .f64 (x0 0) (y0 0), .complex .f64 (x0 1) (y0 1), .complex .f64 (x0 2) (y0 2), .complex .f64 (x0 3) (y0 3)] ∧ Arr 26 (w11.alloc (.cells #[.complex .f64 (x1 0) (y1 0), .complex .f64 (x1 1) (y1 1), .complex .f64 (x1 2) (y1 2), .complex .f64 (x1 3) (y1 3)] 26)) w11.heap.size #[.complex .f64 (x1 0) (y1 0), .complex .f64 (x1 1) (y1 1), .complex .f64 (x1 2) (y1 2), .complex .f64 (x1 3) (y1 3)]) := Lib.hid ⟨((B1.out.1).step kk).step (below_al (Below.refl _ _) (.cells #[.complex .f64 (x1 0) (y1 0), .complex .f64 (x1 1) (y1 1), .complex .f64 (x1 2) (y1 2), .complex .f64 (x1 3) (y1 3)] 26)), ((B1.out.2).step kk).al (.cells #[.complex .f64 (x1 0) (y1 0), .complex .f64 (x1 1) (y1 1), .complex .f64 (x1 2) (y1 2), .complex .f64 (x1 3) (y1 3)] 26), Arr.new _ _ _⟩; clear kk; (try skip))
              generalize w11.alloc (.cells #[.complex .f64 (x1 0) (y1 0), .complex .f64 (x1 1) (y1 1), .complex .f64 (x1 2) (y1 2), .complex .f64 (x1 3) (y1 3)] 26) = V2 at B2 ⊢
              generalize w11.heap.size = g2 at B2 ⊢
              clear B1
              obtain ⟨⟨p0, p1, p2, p3⟩, -⟩ := (B2.out.2.1).four
              obtain ⟨⟨q0, q1, q2, q3⟩, -⟩ := (B2.out.2.2).four
              go_upto_region 28 with (go_at_call 20; refine (Times_right x0 y0 x1 y1 C1 C2 _ F0.out F1.out HSC.out.1 HSC.out.2).mono ?_; rintro e w12 ⟨x2, y2, rfl, f, kk⟩; have F2 := Lib.hid f; clear f; have B3 : Hid (T3 w (.slice A1 j1 c1) (.slice A2 j2 c2) (.slice (some ⟨gp, 0, none⟩) N N) b0 b1 gp j1 j2 N K L R (w12.alloc (.cells #[.complex .f64 (x2 0) (y2 0), .complex .f64 (x2 1) (y2 1), .complex .f64 (x2 2) (y2 2), .complex .f64 (x2 3) (y2 3)] 26)) ∧ Arr 26 (w12.alloc (.cells #[.complex .f64 (x2 0) (y2 0), .complex .f64 (x2 1) (y2 1), .complex .f64 (x2 2) (y2 2), .complex .f64 (x2 3) (y2 3)] 26)) g1 #[.complex .f64 (x0 0) (y0 0), .complex .f64 (x0 1) (y0 1), .complex .f64 (x0 2) (y0 2), .complex .f64 (x0 3) (y0 3)] ∧ Arr 26 (w12.alloc (.cells #[.complex .f64 (x2 0) (y2 0), .complex .f64 (x2 1) (y2 1), .complex .f64 (x2 2) (y2 2), .complex .f64 (x2 3) (y2 3)] 26)) g2 #[.complex .f64 (x1 0) (y1 0), .complex .f64 (x1 1) (y1 1), .complex .f64 (x1 2) (y1 2), .complex .f64 (x1 3) (y1 3)] ∧ Arr 26 (w12.alloc (.cells #[.complex .f64 (x2 0) (y2 0), .complex .f64 (x2 1) (y2 1), .complex .f64 (x2 2) (y2 2), .complex .f64 (x2 3) (y2 3)] 26)) w12.heap.size #[.complex .f64 (x2 0) (y2 0), .complex .f64 (x2 1) (y2 1), .complex .f64 (x2 2) (y2 2), .complex .f64 (x2 3) (y2 3)]) := Lib.hid ⟨((B2.out.1).step kk).step (below_al (Below.refl _ _) (.cells #[.complex .f64 (x2 0) (y2 0), .complex .f64 (x2 1) (y2 1), .complex .f64 (x2 2) (y2 2), .complex .f64 (x2 3) (y2 3)] 26)), ((B2.out.2.1).step kk).al (.cells #[.complex .f64 (x2 0) (y2 0), .complex .f64 (x2 1) (y2 1), .complex .f64 (x2 2) (y2 2), .complex .f64 (x2 3) (y2 3)] 26), ((B2.out.2.2).step kk).al (.cells #[.complex .f64 (x2 0) (y2 0), .complex .f64 (x2 1) (y2 1), .complex .f64 (x2 2) (y2 2), .complex .f64 (x2 3) (y2 3)] 26), Arr.new _ _ _⟩; clear kk; (try skip))
              generalize w12.alloc (.cells #[.complex .f64 (x2 0) (y2 0), .complex .f64 (x2 1) (y2 1), .complex .f64 (x2 2) (y2 2), .complex .f64 (x2 3) (y2 3)] 26) = V3 at B3 ⊢
              generalize w12.heap.size = g3 at B3 ⊢
              clear B2
              clear p0 p1 p2 p3
              clear q0 q1 q2 q3
              obtain ⟨⟨p0, p1, p2, p3⟩, -⟩ := (B3.out.2.1).four
              obtain ⟨⟨q0, q1, q2, q3⟩, -⟩ := (B3.out.2.2.1).four
              go_upto_region 29 with (go_at_call 20; refine (Times_right x1 y1 x0 y0 C2 C1 _ F1.out F0.out HSC.out.2 HSC.out.1).mono ?_; rintro e w13 ⟨x3, y3, rfl, f, kk⟩; have F3 := Lib.hid f; clear f; have B4 : Hid (T3 w (.slice A1 j1 c1) (.slice A2 j2 c2) (.slice (some ⟨gp, 0, none⟩) N N) b0 b1 gp j1 j2 N K L R (w13.alloc (.cells #[.complex .f64 (x3 0) (y3 0), .complex .f64 (x3 1) (y3 1), .complex .f64 (x3 2) (y3 2), .complex .f64 (x3 3) (y3 3)] 26)) ∧ Arr 26 (w13.alloc (.cells #[.complex .f64 (x3 0) (y3 0), .complex .f64 (x3 1) (y3 1), .complex .f64 (x3 2) (y3 2), .complex .f64 (x3 3) (y3 3)] 26)) g1 #[.complex .f64 (x0 0) (y0 0), .complex .f64 (x0 1) (y0 1), .complex .f64 (x0 2) (y0 2), .complex .f64 (x0 3) (y0 3)] ∧ Arr 26 (w13.alloc (.cells #[.complex .f64 (x3 0) (y3 0), .complex .f64 (x3 1) (y3 1), .complex .f64 (x3 2) (y3 2), .complex .f64 (x3 3) (y3 3)] 26)) g2 #[.complex .f64 (x1 0) (y1 0), .complex .f64 (x1 1) (y1 1), .complex .f64 (x1 2) (y1 2), .complex .f64 (x1 3) (y1 3)] ∧ Arr 26 (w13.alloc (.cells #[.complex .f64 (x3 0) (y3 0), .complex .f64 (x3 1) (y3 1), .complex .f64 (x3 2) (y3 2), .complex .f64 (x3 3) (y3 3)] 26)) g3 #[.complex .f64 (x2 0) (y2 0), .complex .f64 (x2 1) (y2 1), .complex .f64 (x2 2) (y2 2), .complex .f64 (x2 3) (y2 3)] ∧ Arr 26 (w13.alloc (.cells #[.complex .f64 (x3 0) (y3 0), .complex .f64 (x3 1) (y3 1), .complex .f64 (x3 2) (y3 2), .complex .f64 (x3 3) (y3 3)] 26)) w13.heap.size #[.complex .f64 (x3 0) (y3 0), .complex .f64 (x3 1) (y3 1), .complex .f64 (x3 2) (y3 2), .complex .f64 (x3 3) (y3 3)]) := Lib.hid ⟨((B3.out.1).step kk).step (below_al (Below.refl _ _) (.cells #[.complex .f64 (x3 0) (y3 0), .complex .f64 (x3 1) (y3 1), .complex .f64 (x3 2) (y3 2), .complex .f64 (x3 3) (y3 3)] 26)), ((B3.out.2.1).step kk).al (.cells #[.complex .f64 (x3 0) (y3 0), .complex .f64 (x3 1) (y3 1), .complex .f64 (x3 2) (y3 2), .complex .f64 (x3 3) (y3 3)] 26), ((B3.out.2.2.1).step kk).al (.cells #[.complex .f64 (x3 0) (y3 0), .complex .f64 (x3 1) (y3 1), .complex .f64 (x3 2) (y3 2), .complex .f64 (x3 3) (y3 3)] 26), ((B3.out.2.2.2).step kk).al (.cells #[.complex .f64 (x3 0) (y3 0), .complex .f64 (x3 1) (y3 1), .complex .f64 (x3 2) (y3 2), .complex .f64 (x3 3) (y3 3)] 26), Arr.new _ _ _⟩; clear kk; (try skip))
              generalize w13.alloc (.cells #[.complex .f64 (x3 0) (y3 0), .complex .f64 (x3 1) (y3 1), .complex .f64 (x3 2) (y3 2), .complex .f64 (x3 3) (y3 3)] 26) = V4 at B4 ⊢
              generalize w13.heap.size = g4 at B4 ⊢
              clear B3
              clear p0 p1 p2 p3
              clear q0 q1 q2 q3
              go_upto_region 30 with (go_at_call 15; refine (Of_right _ N N R (mulc C1 C2) _ (sees_own (B4.out.1).rp) HPA.out.2 HPA.out.1).mono ?_; rintro e w14 ⟨x4, y4, rfl, f, kk⟩; have F4 := Lib.hid f; clear f; have B5 : Hid (T3 w (.slice A1 j1 c1) (.slice A2 j2 c2) (.slice (some ⟨gp, 0, none⟩) N N) b0 b1 gp j1 j2 N K L R (w14.alloc (.cells #[.complex .f64 (x4 0) (y4 0), .complex .f64 (x4 1) (y4 1), .complex .f64 (x4 2) (y4 2), .complex .f64 (x4 3) (y4 3)] 26)) ∧ Arr 26 (w14.alloc (.cells #[.complex .f64 (x4 0) (y4 0), .complex .f64 (x4 1) (y4 1), .complex .f64 (x4 2) (y4 2), .complex .f64 (x4 3) (y4 3)] 26)) g1 #[.complex .f64 (x0 0) (y0 0), .complex .f64 (x0 1) (y0 1), .complex .f64 (x0 2) (y0 2), .complex .f64 (x0 3) (y0 3)] ∧ Arr 26 (w14.alloc (.cells #[.complex .f64 (x4 0) (y4 0), .complex .f64 (x4 1) (y4 1), .complex .f64 (x4 2) (y4 2), .complex .f64 (x4 3) (y4 3)] 26)) g2 #[.complex .f64 (x1 0) (y1 0), .complex .f64 (x1 1) (y1 1), .complex .f64 (x1 2) (y1 2), .complex .f64 (x1 3) (y1 3)] ∧ Arr 26 (w14.alloc (.cells #[.complex .f64 (x4 0) (y4 0), .complex .f64 (x4 1) (y4 1), .complex .f64 (x4 2) (y4 2), .complex .f64 (x4 3) (y4 3)] 26)) g3 #[.complex .f64 (x2 0) (y2 0), .complex .f64 (x2 1) (y2 1), .complex .f64 (x2 2) (y2 2), .complex .f64 (x2 3) (y2 3)] ∧ Arr 26 (w14.alloc (.cells #[.complex .f64 (x4 0) (y4 0), .complex .f64 (x4 1) (y4 1), .complex .f64 (x4 2) (y4 2), .complex .f64 (x4 3) (y4 3)] 26)) g4 #[.complex .f64 (x3 0) (y3 0), .complex .f64 (x3 1) (y3 1), .complex .f64 (x3 2) (y3 2), .complex .f64 (x3 3) (y3 3)] ∧ Arr 26 (w14.alloc (.cells #[.complex .f64 (x4 0) (y4 0), .complex .f64 (x4 1) (y4 1), .complex .f64 (x4 2) (y4 2), .complex .f64 (x4 3) (y4 3)] 26)) w14.heap.size #[.complex .f64 (x4 0) (y4 0), .complex .f64 (x4 1) (y4 1), .complex .f64 (x4 2) (y4 2), .complex .f64 (x4 3) (y4 3)]) := Lib.hid ⟨((B4.out.1).step kk).step (below_al (Below.refl _ _) (.cells #[.complex .f64 (x4 0) (y4 0), .complex .f64 (x4 1) (y4 1), .complex .f64 (x4 2) (y4 2), .complex .f64 (x4 3) (y4 3)] 26)), ((B4.out.2.1).step kk).al (.cells #[.complex .f64 (x4 0) (y4 0), .complex .f64 (x4 1) (y4 1), .complex .f64 (x4 2) (y4 2), .complex .f64 (x4 3) (y4 3)] 26), ((B4.out.2.2.1).step kk).al (.cells #[.complex .f64 (x4 0) (y4 0), .complex .f64 (x4 1) (y4 1), .complex .f64 (x4 2) (y4 2), .complex .f64 (x4 3) (y4 3)] 26), ((B4.out.2.2.2.1).step kk).al (.cells #[.complex .f64 (x4 0) (y4 0), .complex .f64 (x4 1) (y4 1), .complex .f64 (x4 2) (y4 2), .complex .f64 (x4 3) (y4 3)] 26), ((B4.out.2.2.2.2).step kk).al (.cells #[.complex .f64 (x4 0) (y4 0), .complex .f64 (x4 1) (y4 1), .complex .f64 (x4 2) (y4 2), .complex .f64 (x4 3) (y4 3)] 26), Arr.new _ _ _⟩; clear kk; (try skip))
              generalize w14.alloc (.cells #[.complex .f64 (x4 0) (y4 0), .complex .f64 (x4 1) (y4 1), .complex .f64 (x4 2) (y4 2), .complex .f64 (x4 3) (y4 3)] 26) = V5 at B5 ⊢
              generalize w14.heap.size = g5 at B5 ⊢
              clear B4
              obtain ⟨⟨p0, p1, p2, p3⟩, -⟩ := (B5.out.2.2.2.1).four
              obtain ⟨⟨q0, q1, q2, q3⟩, -⟩ := (B5.out.2.2.2.2.1).four
              obtain ⟨⟨r0, r1, r2, r3⟩, -⟩ := (B5.out.2.2.2.2.2).four
              have m1 := eql_z (F2.out.same (F3.out.ext (mulc_comm C2 C1)))
              have m2 := eql_z (F2.out.same F4.out)
              go_wp2_with fail
              go_ret
              exact ⟨rfl, (B5.out.1).be⟩
end Go.Proofs.Ythidfmkmklnhhaa
