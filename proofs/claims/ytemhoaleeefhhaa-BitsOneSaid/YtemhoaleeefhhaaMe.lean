/- Walks: BitsOne. -/
import Derived.Test.YtemhoaleeefhhaaProg
import Derived.Test.YtemhoaleeefhhaaMd
import Derived.BigRegion
import Derived.Deep.DeepCutAuto
import Derived.Deep.RegionHeld3
namespace Go.Proofs.Ytemhoaleeefhhaa
open Go.RowKit
set_option linter.unusedVariables false

theorem keepC {W w w' : World} {b1 b2 b3 b4 b5 : Nat} {N : Int} {A1 A2 A3 A4 A5 : Option Addr} {n1 n2 n3 n4 n5 c1 c2 c3 c4 c5 : Nat} (h : (C2 b1 N A1 n1 c1 w ∧ C2 b2 N A2 n2 c2 w ∧ C2 b3 N A3 n3 c3 w ∧ C2 b4 N A4 n4 c4 w ∧ C2 b5 N A5 n5 c5 w) ∧ Below W.heap.size W w) (k : Below w.heap.size w w') :
    (C2 b1 N A1 n1 c1 w' ∧ C2 b2 N A2 n2 c2 w' ∧ C2 b3 N A3 n3 c3 w' ∧ C2 b4 N A4 n4 c4 w' ∧ C2 b5 N A5 n5 c5 w') ∧ Below W.heap.size W w' :=
  ⟨⟨h.1.1.keep k, h.1.2.1.keep k, h.1.2.2.1.keep k, h.1.2.2.2.1.keep k, h.1.2.2.2.2.keep k⟩, below_step h.2 k⟩
theorem keepC0 {W w : World} {b1 b2 b3 b4 b5 : Nat} {N : Int} {A1 A2 A3 A4 A5 : Option Addr} {n1 n2 n3 n4 n5 c1 c2 c3 c4 c5 : Nat} (h : (C2 b1 N A1 n1 c1 w ∧ C2 b2 N A2 n2 c2 w ∧ C2 b3 N A3 n3 c3 w ∧ C2 b4 N A4 n4 c4 w ∧ C2 b5 N A5 n5 c5 w) ∧ Below W.heap.size W w) :
    (C2 b1 N A1 n1 c1 w.drew ∧ C2 b2 N A2 n2 c2 w.drew ∧ C2 b3 N A3 n3 c3 w.drew ∧ C2 b4 N A4 n4 c4 w.drew ∧ C2 b5 N A5 n5 c5 w.drew) ∧ Below W.heap.size W w.drew := ⟨h.1, h.2.drew⟩

set_option maxRecDepth 20000 in
set_option maxHeartbeats 3200000 in
theorem BitsOne_any (n : Nat) (A0 : Option Addr) (m c0 tn : Nat) (l : List Int) (i : Int) (w : World) (hn : n < 65536) (hs : Sees w 1 A0 m c0 (l.map (Value.int .u64))) (hw : W64 l) (hi : -9223372036854775808 ≤ i ∧ i ≤ 9223372036854775807) (ht : tn < 256) :
    Calls Try.prog 6 #[.int .u16 (n : Int), .slice A0 m c0, .int .i64 i, .int .u8 (tn : Int)] w fun e w' => e = .returned (.bool true) ∧ Below w.heap.size w w' := by
  obtain ⟨N, hN⟩ : ∃ N, n % (64 * min m 16 + 1) = N := ⟨_, rfl⟩
  have hN1 : N ≤ 1024 := by have := Nat.mod_lt n (show 0 < 64 * min m 16 + 1 by omega); omega
  have HN := Lib.hid hN
  have HS := Lib.hid hs
  have HN1 := Lib.hid hN1
  have hN2 : (N : Int) ≤ 1024 := by omega
  have htn : (tn : Int) ≤ 255 := by omega
  have hwt : wrap64 (tn : Int) = (tn : Int) := IntWalk.wrap64_in _ (by omega)
  clear hN hs hN1 ht
  go_enter Try.func6, Try.ntmps6
  go_wp2_with (first
    | (go_at_call 16; refine (Members_any N A n2 c2 zs _ S2.out.see HW64.out.1).mono ?_; unfold membersF; rw [if_pos HW64.out.2, Int.toNat_natCast]; rintro e w3 ⟨A3, c3, rfl, o3, k3⟩; obtain ⟨T, hT⟩ : ∃ T, (mem zs N).length = T := ⟨_, rfl⟩; rw [hT] at o3 ⊢; rw [intsN_cast] at o3; have HT := Lib.hid hT; have O3 := Lib.hid o3; have S3 := Lib.hid (S2.out.step k3); have K3 := Lib.hid k3; clear k3 o3 hT)
    | (go_at_call 15; refine (made_any n A0 m c0 l _ hn (HS.out.below b1.out (Nat.le_refl _)) hw).mono ?_; rw [HN.out]; rintro e w2 ⟨v, zs, rfl, ⟨A, n2, c2, rfl, o2⟩, hzw, hzr, k2⟩; have HW64 := Lib.hid (And.intro hzw hzr); have S2 := Lib.hid (BS.new (N := (N : Int)) (below_step b1.out k2) (sees_own o2)); clear k2 o2 hzw hzr)
    | (go_at_call 13; refine (awake_any _).mono ?_; rintro e w1 ⟨rfl, k1⟩; have b1 := Lib.hid k1; clear k1))
  have hT1 : (T : Int) ≤ 1024 := by have h1 := mem_le zs N; have := HT.out; have := HN1.out; omega
  generalize w2.alloc (.cells #[.int .i64 (N : Int), .slice A n2 c2] 24) = W2 at S2 K3 O3
  generalize w2.heap.size = b at *
  go_loopw [32] (fun iv wr => ∃ (k : Nat) (M : List Int), Hid (k ≤ T) ∧ iv = .int .i64 (k : Int) ∧ Hid (wr.ownsRow W2.heap.size 3 1 (.slice A3 T c3) T (M.map (Value.int .i64))) ∧ Hid (Below W2.heap.size W2 wr) ∧ Hid (∀ x, x ∈ M ↔ x ∈ castN (mem zs N))) (fun iv _ => T - (intOf iv).toNat)
  case atStart => exact ⟨0, _, Lib.hid (Nat.zero_le _), rfl, O3, K3, Lib.hid fun x => Iff.rfl⟩
  case round =>
    obtain ⟨k, M, HK, rfl, O4, S4, HM⟩ := hrel
    by_cases hlt : k < T
    · obtain ⟨g, c', hv, hgb⟩ := own_addrK O4.out (by omega)
      cases hv
      have hML : M.length = T := by have := O4.out.1; simpa using this
      obtain ⟨q, hq⟩ : ∃ q, (k * tn) % T = q := ⟨_, rfl⟩
      have hqT : q < T := by rw [← hq]; exact Nat.mod_lt _ (by omega)
      obtain ⟨u0, u1⟩ := own_cellK O4.out hlt
      obtain ⟨v0, v1⟩ := own_cellK O4.out hqT
      obtain ⟨s0, s1⟩ := own_cellK (own_setK O4.out k (M.getD q 0)) hqT
      have hsw := own_setK (own_setK O4.out k (M.getD q 0)) q (M.getD k 0)
      have HSW := Lib.hid (And.intro hsw (And.intro (fun x => swapL_mem (M := M) (i := k) (j := q) (by omega) (by omega) x) hq))
      generalize hxx : M.getD k 0 = x at u0 hsw HSW
      have HXX := Lib.hid hxx
      clear hxx
      generalize hyy : M.getD q 0 = y at v0 hsw s0 s1 HSW
      have HYY := Lib.hid hyy
      clear hyy
      generalize (M.set k y).getD q 0 = z at s0
      have s2 : (wr.setCell ⟨g, k, none⟩ (.int .i64 y)).drew.cell? ⟨g, q, none⟩ = some (.int .i64 z) := s0
      have s3 : (wr.setCell ⟨g, k, none⟩ (.int .i64 y)).drew.frozen? ⟨g, q, none⟩ = false := s1
      obtain ⟨p, hp⟩ : ∃ p, k * tn = p := ⟨_, rfl⟩
      have hp1 : (k : Int) * (tn : Int) = (p : Int) := by rw [← hp]; push_cast; rfl
      have hp2 : p ≤ 1024 * 255 := by rw [← hp]; exact Nat.mul_le_mul (by omega) (by omega)
      have hp3 : (p : Int) ≤ 1024 * 255 := by omega
      rw [hp] at hq
      have hq1 : (p : Int) % (T : Int) = (q : Int) := by rw [← hq]; push_cast; rfl
      have hq2 : (p : Int).tmod (T : Int) = (q : Int) := by rw [Int.tmod_eq_emod_of_nonneg (by omega)]; exact hq1
      have hT0 : ((T : Int) == 0) = false := by simp; omega
      have hwp : IntKind.i64.wrap (p : Int) = (p : Int) := IntWalk.i64_in _ (by omega)
      have hwq : IntKind.i64.wrap (q : Int) = (q : Int) := IntWalk.i64_in _ (by omega)
      have hk2 : (k : Int) < (T : Int) := by omega
      have hq5 : (q : Int) < (T : Int) := by omega
      have d0 : decide ((k : Int) < (T : Int)) = true := by simp; omega
      have HLT := Lib.hid hlt
      have HG := Lib.hid hgb
      clear hlt hgb hq hqT hp hML hsw
      go_wp2_with fail
      go_region
      go_wp2
      go_roundw
      case rel =>
        have e : swapL M k q = (M.set k y).set q x := by unfold swapL; rw [HXX.out, HYY.out]
        exact ⟨k + 1, swapL M k q, Lib.hid HLT.out, by go_num, Lib.hid (by rw [e]; exact HSW.out.1.drew), Lib.hid ((S4.out.setCell HG.out _).setCell HG.out _).drew, Lib.hid fun x => (HSW.out.2.1 x).trans (HM.out x)⟩
      case measure => have := HLT.out; simp [intOf]; omega
    · have hkT : k = T := by have := HK.out; omega
      have d0 : decide ((k : Int) < (T : Int)) = false := by simp; omega
      have d0' : decide (k < T) = false := by simp; omega
      have hag := of_again HW64.out.1 HW64.out.2 HM.out
      have HAG := Lib.hid hag
      have OD := Lib.hid O4.out.drew
      have SD := Lib.hid (sees_own O4.out.drew)
      have hSr := S2.out.step S4.out
      have HSR := Lib.hid hSr
      have HZ := Lib.hid S4.out.size
      have y40 := hSr.box.c0
      have y41 := hSr.box.c1
      have HBX := Lib.hid S2.out.box.lt
      clear hlt hkT hag hSr
      have h0 := (S2.out.bel.trans (S4.out.mono S2.out.bel.size)).drew
      have HWD := Lib.hid h0
      clear h0
      have HND := Lib.hid (SetB.new wr 0 none 0 0).drew
      have y42 : (wr.alloc (.cells #[.int .i64 0, .slice none 0 0] 24)).drew.cell? ⟨b, 0, none⟩ = some (.int .i64 (N : Int)) := (HSR.out.box.alloc (.cells #[.int .i64 0, .slice none 0 0] 24)).drew.c0
      go_upto_region 10 with fail
      go_cut [12, 13] from 62 to 70 (fun pv ev wx => ∃ (b12 n6 c6 : Nat) (A6 : Option Addr), pv = .pointer (some ⟨b12, 0, none⟩) ∧ ev = .int .i64 0 ∧ Hid (BS w wx b N A n2 c2 zs) ∧ Hid (SetB wx b12 N A6 n6 c6 ∧ Sees wx 1 A6 n6 c6 (zs.map (Value.int .u64))))
      case first =>
        go_region_law (first
          | (refine step_wpX rfl ?_; go_simp; go_at_call 24; have _q := O5; refine (Of_in N A5 (T + T) c5 (M ++ M) _ (by have := HN1.out; omega) (by exact O5.out.below ((Below.refl w5.heap.size w5).alloc (Nat.le_refl _) (.cells #[.int .i64 0, .slice none 0 0] 24)) (Nat.le_refl _))).mono ?_; rintro e w6 ⟨h6, k6⟩; rcases h6 with ⟨_, v6, rfl, A6, n6, c6, rfl, o6⟩ | ⟨hbad, _⟩; rotate_left; exact absurd HAG.out.1 hbad; rw [HAG.out.2] at o6; have HB6 := Lib.hid ((HB5.out.alloc HB5.out.size (.cells #[.int .i64 0, .slice none 0 0] 24)).trans (k6.mono (HB5.out.alloc HB5.out.size (.cells #[.int .i64 0, .slice none 0 0] 24)).size)); have S6 := Lib.hid (S2.out.step HB6.out); have O6 := Lib.hid o6; have y60 := S6.out.box.c0; have y61 := S6.out.box.c1; have X6 := Lib.hid ((SetB.new w5 0 none 0 0).below k6 (Nat.le_refl _)); have q60 := X6.out.c0; have q61 := X6.out.c1; have q62 := X6.out.f 0; have q63 := X6.out.f 1; clear k6 o6)
          | (refine step_wpX rfl ?_; go_simp; go_at_call 24; have _q := O5; refine (Of_in N A5 (T + T) c5 (M ++ M) _ (by have := HN1.out; omega) (by exact O5.out)).mono ?_; rintro e w6 ⟨h6, k6⟩; rcases h6 with ⟨_, v6, rfl, A6, n6, c6, rfl, o6⟩ | ⟨hbad, _⟩; rotate_left; exact absurd HAG.out.1 hbad; rw [HAG.out.2] at o6; have HB6 := Lib.hid (HB5.out.trans (k6.mono HB5.out.size)); have S6 := Lib.hid (S2.out.step HB6.out); have O6 := Lib.hid o6; have y60 := S6.out.box.c0; have y61 := S6.out.box.c1; have X6 := Lib.hid (X5.out.below k6 (Nat.le_refl _)); have q60 := X6.out.c0; have q61 := X6.out.c1; have q62 := X6.out.f 0; have q63 := X6.out.f 1; clear k6 o6)
          | (refine step_wpX rfl ?_; go_simp; go_at_call 24; have _q := O5; refine (Of_in N A5 (T + T) c5 (M ++ M) _ (by have := HN1.out; omega) (by exact O5.out)).mono ?_; rintro e w6 ⟨h6, k6⟩; rcases h6 with ⟨_, v6, rfl, A6, n6, c6, rfl, o6⟩ | ⟨hbad, _⟩; rotate_left; exact absurd HAG.out.1 hbad; rw [HAG.out.2] at o6; have HB6 := Lib.hid (HB5.out.trans (k6.mono HB5.out.size)); have S6 := Lib.hid (S2.out.step HB6.out); have O6 := Lib.hid o6; have y60 := S6.out.box.c0; have y61 := S6.out.box.c1; clear k6 o6)
          | (refine step_app E_i64 rfl (.tmp 65) (.tmp 66) rfl rfl (base := W2.heap.size) (by first | exact OD.out | exact (O4.out.alloc _).drew) rfl (by first | exact SD.out | exact sees_own (O4.out.alloc (.cells #[.int .i64 0, .slice none 0 0] 24)).drew) (ints1 _ _) (by simp [maxLen]; omega) (by omega) (by have := HZ.out; simp; omega) ?_; intro A5 c5 w5 o5 g5 b5; have HB5 : Hid (Below W2.heap.size W2 w5) := Lib.hid (by first | exact S4.out.drew.trans b5 | exact (S4.out.alloc HZ.out _).drew.trans b5); have S5 := Lib.hid (S2.out.step HB5.out); have y50 := S5.out.box.c0; have y51 := S5.out.box.c1; have y52 := (S5.out.alloc (.cells #[.int .i64 0, .slice none 0 0] 24)).box.c0; have O5 := Lib.hid (show Sees w5 1 A5 (T + T) c5 ((M ++ M).map (Value.int .i64)) by rw [List.map_append]; exact sees_own o5); try (have X5 := Lib.hid (show SetB w5 wr.heap.size 0 none 0 0 from (g5.block wr.heap.size HND.out.lt (fun e => own_typeB (O4.out.alloc (.cells #[.int .i64 0, .slice none 0 0] 24)).drew HND.out (by decide) e.symm)).trans HND.out); have r50 := X5.out.c0; have r51 := X5.out.c1); clear o5 g5 b5))
        all_goals simp only [Act.put, List.getElem_toArray, List.getElem_cons_succ, List.getElem_cons_zero, List.setIfInBounds_toArray, List.set_cons_succ, List.set_cons_zero]
        all_goals go_wp2_with fail
        all_goals go_meet
        all_goals first
          | exact ⟨_, n6, c6, A6, rfl, rfl, Lib.hid (S6.out.alloc _), Lib.hid ⟨SetB.new _ _ _ _ _, (sees_own O6.out).below ((Below.refl _ _).alloc (Nat.le_refl _) _) (Nat.le_refl _)⟩⟩
          | exact ⟨wr.heap.size, n6, c6, A6, rfl, rfl, Lib.hid (S2.out.step (below_put HB6.out HZ.out _ _)), Lib.hid ⟨X6.out.put, sees_own (ownsRow_setCell_below (ownsRow_setCell_below O6.out X5.out.lt _) X5.out.lt _)⟩⟩
          | exact ⟨w5.heap.size, n6, c6, A6, rfl, rfl, Lib.hid (S2.out.step (below_put HB6.out HB5.out.size _ _)), Lib.hid ⟨X6.out.put, sees_own (ownsRow_setCell_below (ownsRow_setCell_below O6.out (by simp) _) (by simp) _)⟩⟩
      case rest =>
        obtain ⟨b12, n6, c6, A6, rfl, rfl, S7, X7⟩ := hcut
        -- REST
        have y70 := S7.out.box.c0
        have y71 := S7.out.box.c1
        have x71 := X7.out.1.c1
        by_cases hN0 : N = 0
        · have dN : ((N : Int) == 0) = true := by simp; omega
          clear hN0
          go_wp2_with (go_at_call 25; refine (SameNums_any A6 A n6 n2 c6 c2 zs zs _ X7.out.2 S7.out.see).mono ?_; rw [eqL_self]; rintro e w8 ⟨rfl, k8⟩; have S8 := Lib.hid (S7.out.step k8); have yS80 := S8.out.box.c0; have yS81 := S8.out.box.c1; clear k8)
          go_ret
          exact ⟨rfl, S8.out.bel⟩
        · have dN : ((N : Int) == 0) = false := by simp; omega
          obtain ⟨a, ha⟩ : ∃ a : Nat, i % (N : Int) = (a : Int) := ⟨(i % (N : Int)).toNat, by have := Int.emod_nonneg i (show (N : Int) ≠ 0 by omega); omega⟩
          have haN : a < N := by have := Int.emod_lt_of_pos i (show (0 : Int) < (N : Int) by omega); omega
          have HAI := Lib.hid ha
          have HA := Lib.hid haN
          have HNP := Lib.hid (show 1 ≤ N ∧ N ≤ 1000000 by have := HN1.out; omega)
          have hal : a < 64 * zs.length := by have := HW64.out.2.2.2.1; omega
          have HI := Lib.hid (And.intro (inB_w HW64.out.1 a) (inB_right HW64.out.1 HW64.out.2 haN))
          have HO := Lib.hid (And.intro (offB_w HW64.out.1 a) (offB_right HW64.out.1 HW64.out.2 haN))
          have HAL := Lib.hid hal
          have HX1 := Lib.hid (off_in HW64.out.1 hal)
          have HX2 := Lib.hid (in_off HW64.out.1 hal)
          have HHI := Lib.hid (has_in HW64.out.1 HW64.out.2 haN)
          have HHO := Lib.hid (has_off HW64.out.1 HW64.out.2 haN)
          have hcn := cnt_in_off hal N
          rw [decide_eq_true haN] at hcn
          obtain ⟨cn, hcn2⟩ : ∃ cn, cnt (offB zs a) N = cn := ⟨_, rfl⟩
          rw [hcn2] at hcn
          have HC1 : Hid (rankF (inB zs a) N 65536 = cn + 1) := Lib.hid ((count_is HI.out.2 (by omega)).trans hcn)
          have HC2 : Hid (rankF (offB zs a) N 65536 = cn) := Lib.hid ((count_is HO.out.2 (by omega)).trans hcn2)
          have hcn3 : (cn : Int) ≤ 1024 := by have := cnt_le (offB zs a) N; have := HN1.out; omega
          clear hN0 ha haN hal hcn hcn2
          go_wp2_with (first
            | (go_at_call 26; have _q := O11; refine (With_ok N a A10 n10 c10 (offB zs a) _ O11.out.see HO.out.1 HO.out.2 HA.out).mono ?_; rintro e w12 ⟨v, rfl, ⟨A12, n12, c12, rfl, o12⟩, k12⟩; have J12 := Lib.hid (BS.new (N := (N : Int)) (below_step S11.out.bel k12) (sees_own o12)); have S12 := Lib.hid ((S11.out.step k12).alloc (.cells #[.int .i64 (N : Int), .slice A12 n12 c12] 24)); have yS120 := S12.out.box.c0; have yS121 := S12.out.box.c1; have I12 := Lib.hid ((I11.out.step k12).alloc (.cells #[.int .i64 (N : Int), .slice A12 n12 c12] 24)); have yI120 := I12.out.box.c0; have yI121 := I12.out.box.c1; have O12 := Lib.hid ((O11.out.step k12).alloc (.cells #[.int .i64 (N : Int), .slice A12 n12 c12] 24)); have yO120 := O12.out.box.c0; have yO121 := O12.out.box.c1; have K12 := Lib.hid ((K11.out.step k12).alloc (.cells #[.int .i64 (N : Int), .slice A12 n12 c12] 24)); have yK120 := K12.out.box.c0; have yK121 := K12.out.box.c1; clear k12 o12)
            | (go_at_call 27; have _q := O10; refine (Without_ok N a A9 n9 c9 (inB zs a) _ I10.out.see HI.out.1 HI.out.2 HA.out).mono ?_; rintro e w11 ⟨v, rfl, ⟨A11, n11, c11, rfl, o11⟩, k11⟩; have K11 := Lib.hid (BS.new (N := (N : Int)) (below_step S10.out.bel k11) (sees_own o11)); have S11 := Lib.hid ((S10.out.step k11).alloc (.cells #[.int .i64 (N : Int), .slice A11 n11 c11] 24)); have yS110 := S11.out.box.c0; have yS111 := S11.out.box.c1; have I11 := Lib.hid ((I10.out.step k11).alloc (.cells #[.int .i64 (N : Int), .slice A11 n11 c11] 24)); have yI110 := I11.out.box.c0; have yI111 := I11.out.box.c1; have O11 := Lib.hid ((O10.out.step k11).alloc (.cells #[.int .i64 (N : Int), .slice A11 n11 c11] 24)); have yO110 := O11.out.box.c0; have yO111 := O11.out.box.c1; clear k11 o11)
            | (go_at_call 27; refine (Without_ok N a A n2 c2 zs _ S9.out.see HW64.out.1 HW64.out.2 HA.out).mono ?_; rintro e w10 ⟨v, rfl, ⟨A10, n10, c10, rfl, o10⟩, k10⟩; have O10 := Lib.hid (BS.new (N := (N : Int)) (below_step S9.out.bel k10) (sees_own o10)); have S10 := Lib.hid ((S9.out.step k10).alloc (.cells #[.int .i64 (N : Int), .slice A10 n10 c10] 24)); have yS100 := S10.out.box.c0; have yS101 := S10.out.box.c1; have I10 := Lib.hid ((I9.out.step k10).alloc (.cells #[.int .i64 (N : Int), .slice A10 n10 c10] 24)); have yI100 := I10.out.box.c0; have yI101 := I10.out.box.c1; clear k10 o10)
            | (go_at_call 26; refine (With_ok N a A n2 c2 zs _ S8.out.see HW64.out.1 HW64.out.2 HA.out).mono ?_; rintro e w9 ⟨v, rfl, ⟨A9, n9, c9, rfl, o9⟩, k9⟩; have I9 := Lib.hid (BS.new (N := (N : Int)) (below_step S8.out.bel k9) (sees_own o9)); have S9 := Lib.hid ((S8.out.step k9).alloc (.cells #[.int .i64 (N : Int), .slice A9 n9 c9] 24)); have yS90 := S9.out.box.c0; have yS91 := S9.out.box.c1; clear k9 o9)
            | (go_at_call 23; refine (Pick_any i N _ HNP.out.1 HNP.out.2).mono ?_; rw [HAI.out]; rintro e w' ⟨rfl, rfl⟩)
            | (go_at_call 25; refine (SameNums_any A6 A n6 n2 c6 c2 zs zs _ X7.out.2 S7.out.see).mono ?_; rw [eqL_self]; rintro e w8 ⟨rfl, k8⟩; have S8 := Lib.hid (S7.out.step k8); have yS80 := S8.out.box.c0; have yS81 := S8.out.box.c1; clear k8))
          have hs12 := S12.out
          have hi12 := I12.out
          have ho12 := O12.out
          have hk12 := K12.out
          have hj12 := J12.out
          rw [HX1.out] at hk12
          rw [HX2.out] at hj12
          clear S12 I12 O12 K12 J12 yS120 yS121 yI120 yI121 yO120 yO121 yK120 yK121
          generalize w12.alloc (.cells #[.int .i64 (N : Int), .slice A12 n12 c12] 24) = W12 at hs12 hi12 ho12 hk12 hj12 ⊢
          generalize w12.heap.size = b21 at hj12 ⊢
          generalize w11.heap.size = b19 at hk12 ⊢
          generalize w10.heap.size = b17 at ho12 ⊢
          generalize w9.heap.size = b15 at hi12 ⊢
          have hS0 : (C2 b N A n2 c2 W12 ∧ C2 b15 N A9 n9 c9 W12 ∧ C2 b17 N A10 n10 c10 W12 ∧ C2 b19 N A11 n11 c11 W12 ∧ C2 b21 N A12 n12 c12 W12) ∧ Below W12.heap.size W12 W12 := ⟨⟨C2.of hs12.box, C2.of hi12.box, C2.of ho12.box, C2.of hk12.box, C2.of hj12.box⟩, Below.refl _ _⟩
          have HS12 := Lib.hid hs12
          have HI12 := Lib.hid hi12
          have HO12 := Lib.hid ho12
          have HK12 := Lib.hid hk12
          have HJ12 := Lib.hid hj12
          clear hs12 hi12 ho12 hk12 hj12
          obtain ⟨cm, hcm⟩ : ∃ cm, cn + 1 = cm := ⟨_, rfl⟩
          rw [hcm] at HC1
          have hcm2 : (cn : Int) + 1 = (cm : Int) := by omega
          have hwcm : IntKind.i64.wrap (cm : Int) = (cm : Int) := IntWalk.i64_in _ (by omega)
          have HCM := Lib.hid hcm
          clear hcm
          go_region_held3 (fun w' => (C2 b N A n2 c2 w' ∧ C2 b15 N A9 n9 c9 w' ∧ C2 b17 N A10 n10 c10 w' ∧ C2 b19 N A11 n11 c11 w' ∧ C2 b21 N A12 n12 c12 w') ∧ Below W12.heap.size W12 w') (first | exact keepC0 hS0 | exact keepC (by assumption) (by assumption) | assumption) (first
            | (go_at_call_of 22 (Value.agg #[Value.int .i64 (N : Int), Value.slice A9 n9 c9]); refine (Has_any N a A9 n9 c9 (inB zs a) _ (HI12.out.see.below (And.right (by assumption)) (Nat.le_refl _)) HI.out.1).mono ?_; rw [HHI.out]; rintro e w' ⟨rfl, kk⟩)
            | (go_at_call_of 22 (Value.agg #[Value.int .i64 (N : Int), Value.slice A10 n10 c10]); refine (Has_any N a A10 n10 c10 (offB zs a) _ (HO12.out.see.below (And.right (by assumption)) (Nat.le_refl _)) HO.out.1).mono ?_; rw [HHO.out]; rintro e w' ⟨rfl, kk⟩)
            | (go_at_call_of 25 (Value.slice A11 n11 c11); refine (SameNums_any A11 A10 n11 n10 c11 c10 (offB zs a) (offB zs a) _ (HK12.out.see.below (And.right (by assumption)) (Nat.le_refl _)) (HO12.out.see.below (And.right (by assumption)) (Nat.le_refl _))).mono ?_; rw [eqL_self]; rintro e w' ⟨rfl, kk⟩)
            | (go_at_call_of 25 (Value.slice A12 n12 c12); refine (SameNums_any A12 A9 n12 n9 c12 c9 (inB zs a) (inB zs a) _ (HJ12.out.see.below (And.right (by assumption)) (Nat.le_refl _)) (HI12.out.see.below (And.right (by assumption)) (Nat.le_refl _))).mono ?_; rw [eqL_self]; rintro e w' ⟨rfl, kk⟩)
            | (go_at_call_of 17 (Value.agg #[Value.int .i64 (N : Int), Value.slice A9 n9 c9]); refine (Count_any N A9 n9 c9 (inB zs a) _ (HI12.out.see.below (And.right (by assumption)) (Nat.le_refl _)) HI.out.1).mono ?_; rw [HC1.out]; rintro e w' ⟨rfl, kk⟩)
            | (go_at_call_of 17 (Value.agg #[Value.int .i64 (N : Int), Value.slice A10 n10 c10]); refine (Count_any N A10 n10 c10 (offB zs a) _ (HO12.out.see.below (And.right (by assumption)) (Nat.le_refl _)) HO.out.1).mono ?_; rw [HC2.out]; rintro e w' ⟨rfl, kk⟩))
          rename_i hH
          obtain ⟨hC, hB⟩ := hH
          obtain ⟨⟨e1, e2⟩, ⟨e3, e4⟩, ⟨e5, e6⟩, _, _⟩ := hC
          have SF := Lib.hid (HS12.out.step hB)
          have IF := Lib.hid (HI12.out.step hB)
          have OF := Lib.hid (HO12.out.step hB)
          have hhs := hasF_at HW64.out.2 HA.out
          clear hB hS0
          cases hb : bt zs a with
          | true =>
            rw [hb] at hhs
            have HHS := Lib.hid hhs
            have HSF := Lib.hid (in_self HW64.out.1 HAL.out hb)
            have hif := IF.out
            rw [HSF.out] at hif
            have IF2 := Lib.hid hif
            clear hhs hb hif
            go_wp2_with (first
              | (go_at_call 25; refine (SameNums_any A9 A n9 n2 c9 c2 zs zs _ IG.out.see SG.out.see).mono ?_; rw [eqL_self]; rintro e w21 ⟨rfl, k21⟩; have SH := Lib.hid (SG.out.step k21); clear k21)
              | (go_at_call 22; refine (Has_any N a A n2 c2 zs _ SF.out.see HW64.out.1).mono ?_; rw [HHS.out]; rintro e w20 ⟨rfl, k20⟩; have SG := Lib.hid (SF.out.step k20); have IG := Lib.hid (IF2.out.step k20); have g1 := SG.out.box.c1; have g3 := IG.out.box.c1; clear k20))
            go_ret
            exact ⟨rfl, SH.out.bel⟩
          | false =>
            rw [hb] at hhs
            have HHS := Lib.hid hhs
            have HSF := Lib.hid (off_self HW64.out.1 HAL.out hb)
            have hof := OF.out
            rw [HSF.out] at hof
            have OF2 := Lib.hid hof
            clear hhs hb hof
            go_wp2_with (first
              | (go_at_call 25; refine (SameNums_any A10 A n10 n2 c10 c2 zs zs _ OG.out.see SG.out.see).mono ?_; rw [eqL_self]; rintro e w21 ⟨rfl, k21⟩; have SH := Lib.hid (SG.out.step k21); clear k21)
              | (go_at_call 22; refine (Has_any N a A n2 c2 zs _ SF.out.see HW64.out.1).mono ?_; rw [HHS.out]; rintro e w20 ⟨rfl, k20⟩; have SG := Lib.hid (SF.out.step k20); have OG := Lib.hid (OF2.out.step k20); have g1 := SG.out.box.c1; have g3 := OG.out.box.c1; clear k20))
            go_ret
            exact ⟨rfl, SH.out.bel⟩
end Go.Proofs.Ytemhoaleeefhhaa
