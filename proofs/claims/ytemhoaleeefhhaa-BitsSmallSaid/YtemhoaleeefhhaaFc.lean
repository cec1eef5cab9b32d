/- Walks: flatNums. -/
import Derived.Test.YtemhoaleeefhhaaProg
import Derived.Test.YtemhoaleeefhhaaFb
import Derived.Test.YtemhoaleeefhhaaBm
import Derived.BigRegion
import Derived.Deep.DeepCutAuto
import Derived.BigQuiet
namespace Go.Proofs.Ytemhoaleeefhhaa
open Go.RowKit
set_option linter.unusedVariables false

theorem PA.form {w : World} {base : Bs} {K k i : Nat} {V : Nat → Value} {n : Nat → Nat} {L : Value} (h : PA w base K V n L k i) (hk : k < K) : ∃ A c, V k = .slice A (n k) c := by
  obtain ⟨z, h1, _⟩ := h
  exact own_form (h1.v k hk)

theorem FC.ls {w : World} {base : Bs} {K k i j q c : Nat} {V : Nat → Value} {n : Nat → Nat} {R g : Value} (h : FC w base K V n (.slice (some ⟨q, 0, none⟩) K c) R k i g) (hk : j < K) : w.cell? ⟨q, j, none⟩ = some (V j) := by
  obtain ⟨G, m, y, xs, h1, _⟩ := h
  exact ls_cell h1.l hk
theorem FC.rowlt {w : World} {base : Bs} {K k i q c : Nat} {V : Nat → Value} {n : Nat → Nat} {L g : Value} (h : FC w base K V n L (.slice (some ⟨q, 0, none⟩) K c) k i g) (hk : k < K) : base.lo ≤ q := by
  obtain ⟨G, m, y, xs, h1, _⟩ := h
  exact (h1.r.lt q rfl).1
theorem FB.rowlt {m0 : Nat} {w : World} {base : Bs} {K k q c : Nat} {V : Nat → Value} {n : Nat → Nat} {L : Value} (h : FB m0 w base K V n L (.slice (some ⟨q, 0, none⟩) K c) k) (hk : k < K) : base.lo ≤ q := by
  obtain ⟨G, m, y, xs, h1, _⟩ := h
  exact (h1.r.lt q rfl).1
theorem FB.keptK {m0 : Nat} {w : World} {base : Bs} {K k : Nat} {V : Nat → Value} {n : Nat → Nat} {L R : Value} (h : FB m0 w base K V n L R k) : w.heap[base.b]? = some (.cells base.cs base.T (0, 0)) := by
  obtain ⟨G, m, y, xs, h1, _⟩ := h
  exact h1.a.kp
theorem below_base {base : Nat} {w w1 w2 : World} (h : Below base w w1) (k : Below w1.heap.size w1 w2) (hb : base ≤ w.heap.size) : Below base w w2 := h.trans (k.mono (Nat.le_trans hb h.size))

set_option maxRecDepth 20000 in
set_option maxHeartbeats 3200000 in
theorem flatNums_any (K : Nat) (base : Bs) (V : Nat → Value) (n : Nat → Nat) (z : Nat → List Int) (q cl : Nat) (w : World) (hK0 : 0 < K) (hK : K ≤ 100) (hn : ∀ j, j < K → n j ≤ 100000) (ha : Apt 54 w base K V n z) (hl : w.ownsRow base.lo 22 1 (.slice (some ⟨q, 0, none⟩) K cl) K ((List.range K).map V)) (hbase : base.lo ≤ w.heap.size) (ts : base.T ≠ 22) :
    Calls Try.prog 76 #[.slice (some ⟨q, 0, none⟩) K cl] w fun e w' => e = .returned (.bool true) ∧ Below base.lo w w' ∧ w'.heap[base.b]? = some (.cells base.cs base.T (0, 0)) := by
  have HA := Lib.hid (PA.start ha hl)
  have HN := Lib.hid hn
  have HB := Lib.hid hbase
  have TS := Lib.hid ts
  clear ha hl hn hbase ts
  go_enter Try.func76, Try.ntmps76
  go_wp2
  go_loopw [3] (fun iv wr => ∃ k : Nat, Hid (k ≤ K) ∧ iv = .int .i64 (k : Int) ∧ Hid (PA wr base K V n (.slice (some ⟨q, 0, none⟩) K cl) k 0) ∧ Hid (Below base.lo w wr)) (fun iv _ => K - (intOf iv).toNat)
  case atStart => exact ⟨0, Lib.hid (Nat.zero_le _), rfl, HA, Lib.hid (Below.refl _ _)⟩
  case round =>
    obtain ⟨k, HK, rfl, H1, B1⟩ := hrel
    by_cases hlt : k < K
    · obtain ⟨Ak, ck, hVk⟩ := H1.out.form hlt
      obtain ⟨nk, hnk⟩ : ∃ nk, n k = nk := ⟨_, rfl⟩
      have hnk1 : nk ≤ 100000 := by rw [← hnk]; exact HN.out k hlt
      have d0 : decide ((k : Int) < (K : Int)) = true := by simp; omega
      rw [hnk] at hVk
      have HV := Lib.hid (And.intro hVk hnk)
      have HLT := Lib.hid hlt
      clear hVk hnk
      go_wp2
      go_loopw [4] (fun iv wr => ∃ i : Nat, Hid (i ≤ nk) ∧ iv = .int .i64 (i : Int) ∧ Hid (PA wr base K V n (.slice (some ⟨q, 0, none⟩) K cl) k i) ∧ Hid (Below base.lo w wr)) (fun iv _ => nk - (intOf iv).toNat)
      case atStart => exact ⟨0, Lib.hid (Nat.zero_le _), rfl, H1, B1⟩
      case round =>
        obtain ⟨i, HI, rfl, H2, B2⟩ := hrel
        have c0 := H2.out.ls HLT.out
        rw [HV.out.1] at c0
        by_cases hin : i < nk
        · obtain ⟨g, c, e1, hg, ⟨x, hx⟩, hf, H3⟩ := H2.out.step HLT.out (by rw [HV.out.2]; exact hin)
          rw [HV.out.2] at e1
          obtain ⟨rfl, rfl⟩ : Ak = some ⟨g, 0, none⟩ ∧ ck = c := by have := HV.out.1.symm.trans e1; cases this; exact ⟨rfl, rfl⟩
          have H4 := Lib.hid H3
          have HG := Lib.hid hg
          have HIN := Lib.hid hin
          have d1 : decide ((i : Int) < (nk : Int)) = true := by simp; omega
          clear H3 e1 hg
          go_wp2_with fail
          go_region_law (first
            | (refine step_wpX rfl ?_; go_simp; go_at_call 65; refine (markNum_any _ _ _ (by omega) (by omega) (by omega) (by omega)).mono ?_; rintro e w' ⟨rfl, rfl⟩))
          all_goals (try simp only [Act.put, List.getElem_toArray, List.getElem_cons_succ, List.getElem_cons_zero, List.setIfInBounds_toArray, List.set_cons_succ, List.set_cons_zero])
          all_goals go_wp2
          all_goals go_roundw
          all_goals first
            | exact ⟨i + 1, Lib.hid HIN.out, by go_num, Lib.hid (H4.out.below (Below.refl _ _).drew), Lib.hid (B2.out.setCell HG.out _).drew⟩
            | (have := HIN.out; simp [intOf]; omega)
        · obtain rfl : i = nk := by have := HI.out; omega
          have d1 : decide ((i : Int) < (i : Int)) = false := by simp
          have H5 : Hid (PA wr base K V n (.slice (some ⟨q, 0, none⟩) K cl) (k + 1) 0) := Lib.hid ((by have h := H2.out; rw [← HV.out.2] at h; exact h : PA wr base K V n (.slice (some ⟨q, 0, none⟩) K cl) k (n k)).next HLT.out)
          go_wp2
          go_roundw
          case rel => exact ⟨k + 1, Lib.hid HLT.out, by go_num, H5, B2⟩
          case measure => have := HLT.out; simp [intOf]; omega
    · obtain rfl : K = k := by have := HK.out; omega
      have d0 : decide ((K : Int) < (K : Int)) = false := by simp
      clear hlt
      have HP := Lib.hid H1.out.end
      go_wp2_with (at_make; refine wpList_mkS E_SS rfl _ _ rfl K rfl rfl rfl rfl (by omega) (by simp [maxLen]; omega) ?_; intro wg hg1 hg2 hg3)
      have BG : Hid (Below base.lo w wg) := Lib.hid (below_base B1.out hg3 HB.out)
      have hR := own_base hg1 (Nat.le_trans HB.out B1.out.size)
      have F0 : Hid (FB 0 wg base K V n (.slice (some ⟨q, 0, none⟩) K cl) (.slice (some ⟨wr.heap.size, 0, none⟩) K K) 0) := Lib.hid (FB.zero (HP.out.1.below hg3) (own_below HP.out.2 hg3 (Nat.le_refl _)) hR (fun b hb hb2 => by have e1 := (HP.out.2.lt b hb).2; cases hb2; exact absurd e1 (Nat.lt_irrefl _)) TS.out)
      generalize wr.heap.size = gq at F0 ⊢
      clear hg1 hg2 hg3 hR H1 B1 HP HK
      go_loopw [6] (fun iv wr => ∃ k : Nat, Hid (k ≤ K) ∧ iv = .int .i64 (k : Int) ∧ Hid (FB 0 wr base K V n (.slice (some ⟨q, 0, none⟩) K cl) (.slice (some ⟨gq, 0, none⟩) K K) k) ∧ Hid (Below base.lo w wr)) (fun iv _ => K - (intOf iv).toNat)
      case atStart => exact ⟨0, Lib.hid (Nat.zero_le _), rfl, F0, BG⟩
      case round =>
        obtain ⟨k, HK, rfl, H1, B1⟩ := hrel
        by_cases hlt : k < K
        · obtain ⟨Ak, ck, hVk, _⟩ := H1.out.row hlt
          obtain ⟨nk, hnk⟩ : ∃ nk, n k = nk := ⟨_, rfl⟩
          have hnk1 : nk ≤ 100000 := by rw [← hnk]; exact HN.out k hlt
          have d0 : decide ((k : Int) < (K : Int)) = true := by simp; omega
          have c0 := H1.out.ls hlt
          rw [hVk, hnk] at c0
          rw [hnk] at hVk
          have HV := Lib.hid (And.intro hVk hnk)
          have HLT := Lib.hid hlt
          clear hVk hnk
          go_upto_region 14 with fail
          go_loopw [7, 8] (fun gv iv wr => ∃ (i : Nat) (A : Option Addr) (c : Nat), i ≤ 64 ∧ iv = .int .i64 (i : Int) ∧ gv = .slice A (nk + i) c ∧ Hid (FC wr base K V n (.slice (some ⟨q, 0, none⟩) K cl) (.slice (some ⟨gq, 0, none⟩) K K) k i (.slice A (nk + i) c)) ∧ Hid (Below base.lo w wr)) (fun _ iv _ => 64 - (intOf iv).toNat)
          case atStart => exact ⟨0, Ak, ck, by omega, rfl, rfl, Lib.hid (by have h := FC.start H1.out HLT.out; rw [HV.out.1] at h; exact h), B1⟩
          case round =>
            obtain ⟨i, A, c, hi, rfl, rfl, H2, B2⟩ := hrel
            by_cases hin : i < 64
            · have c1 := H2.out.ls HLT.out
              rw [HV.out.1] at c1
              obtain ⟨A2, c2, e2, ho⟩ := H2.out.own
              rw [HV.out.2] at e2 ho
              cases e2
              have HO := Lib.hid ho
              have d1 : decide ((i : Int) < 64) = true := by simp; omega
              have hw1 : IntKind.i64.wrap ((nk : Int) + (i : Int)) = (nk : Int) + (i : Int) := IntWalk.i64_in _ (by omega)
              clear ho
              go_wp2_with (first
                | (go_at_call 65; refine (markNum_any _ _ _ (by omega) (by omega) (by omega) (by omega)).mono ?_; rintro e w' ⟨rfl, rfl⟩)
                | (at_builtin; refine wpList_app5 E_u64 rfl _ _ rfl rfl (HO.out.alloc _) rfl (Sees.one _ _ _) (ints1 _ [mkN k ((nk : Int) + (i : Int))]) (by omega) (by simp [maxLen]; omega) (by omega) (by have h1 := HB.out; have h2 := B2.out.size; simp; omega) ?_; intro A4 c4 w4 hn4 hg4 hb4 ho4 hl4))
              have H5 := Lib.hid ((H2.out.below ((Below.refl _ _).alloc (Nat.le_refl _) _)).app hg4 (by rw [HV.out.2]; exact ho4) (by rw [HV.out.2]; exact hn4) hl4)
              have B5 := Lib.hid ((B2.out.alloc (Nat.le_trans HB.out B2.out.size) _).trans hb4)
              clear hn4 hg4 hb4 ho4 hl4
              go_roundw
              case rel => exact ⟨i + 1, A4, c4, by omega, by go_num, rfl, H5, B5⟩
              case measure => simp [intOf]; omega
            · obtain rfl : i = 64 := by omega
              obtain ⟨⟨⟨x, hx⟩, hf⟩, H5⟩ := H2.out.end HLT.out
              have H6 := Lib.hid H5
              have hgb := Lib.hid (H2.out.rowlt HLT.out)
              clear H5
              go_wp2
              go_roundw
              case rel => exact ⟨k + 1, Lib.hid HLT.out, by go_num, H6, Lib.hid (B2.out.setCell hgb.out _)⟩
              case measure => have := HLT.out; simp [intOf]; omega
        · obtain rfl : K = k := by have := HK.out; omega
          have d0 : decide ((K : Int) < (K : Int)) = false := by simp
          clear hlt HK BG
          obtain ⟨wC, rfl⟩ : ∃ x, x = wr := ⟨_, rfl⟩
          go_upto_region 19 with fail
          go_loopw [9] (fun iv w2 => ∃ k : Nat, Hid (k ≤ K) ∧ iv = .int .i64 (k : Int) ∧ Hid (Below wC.heap.size wC w2)) (fun iv _ => K - (intOf iv).toNat)
          case atStart => exact ⟨0, Lib.hid (Nat.zero_le _), rfl, Lib.hid (Below.refl _ _)⟩
          case round =>
            obtain ⟨k, HK, rfl, D1⟩ := hrel
            by_cases hlt : k < K
            · have d0 : decide ((k : Int) < (K : Int)) = true := by simp; omega
              obtain ⟨nk, hnk⟩ : ∃ nk, n k = nk := ⟨_, rfl⟩
              have hnk1 : nk ≤ 100000 := by rw [← hnk]; exact HN.out k hlt
              have HNK := Lib.hid hnk
              have HLT := Lib.hid hlt
              clear hnk
              go_upto_region 22 with fail
              go_loopw [10] (fun iv w3 => ∃ i : Nat, Hid (i ≤ nk + 64) ∧ iv = .int .i64 (i : Int) ∧ Hid (Below wC.heap.size wC w3)) (fun iv _ => nk + 64 - (intOf iv).toNat)
              case atStart => exact ⟨0, Lib.hid (Nat.zero_le _), rfl, D1⟩
              case round =>
                obtain ⟨i, HI, rfl, D2⟩ := hrel
                obtain ⟨A, c1, A', c', t, e1, e2, s1, s2, e3⟩ := (H1.out.below D2.out).see HLT.out
                have c0 := (H1.out.below D2.out).ls HLT.out
                rw [e2] at c0
                rw [HNK.out] at e1 e2 s1 s2 e3 c0
                rw [e3 rfl] at s1
                have HI5 := Lib.hid (show i ≤ 1000000000 by have := HI.out; omega)
                have hi6 : (i : Int) ≤ 200000 := by have := HI.out; omega
                clear e2 e3
                by_cases hin : i < nk + 64
                · obtain ⟨b1, o1, rfl, g1⟩ := s1.int hin
                  rw [mkL_at hin] at g1
                  have HIN := Lib.hid hin
                  have hd1 : decide ((i : Int) < (nk : Int) + 64) = true := by simp; omega
                  by_cases hi2 : i < nk
                  · obtain ⟨b2, o2, rfl, g2⟩ := s2.int hi2
                    rw [mkL_at hi2] at g2
                    have hd2 : decide ((i : Int) < (nk : Int)) = true := by simp; omega
                    clear s1 s2
                    go_wp2_with fail
                    go_quiet ((go_at_call 65; exact Calls.quiet_of_same (markNum_any _ _ _ (by omega) (by omega) (by omega) (by omega))))
                    go_wp2
                    go_roundw
                    case rel => exact ⟨i + 1, Lib.hid HIN.out, by go_num, Lib.hid (below_drewN D2.out _)⟩
                    case measure => have := HIN.out; simp [intOf]; omega
                  · have hd2 : decide ((i : Int) < (nk : Int)) = false := by simp; omega
                    clear s1 s2
                    go_wp2_with fail
                    go_quiet ((go_at_call 65; exact Calls.quiet_of_same (markNum_any _ _ _ (by omega) (by omega) (by omega) (by omega))))
                    go_wp2
                    go_roundw
                    case rel => exact ⟨i + 1, Lib.hid HIN.out, by go_num, Lib.hid (below_drewN D2.out _)⟩
                    case measure => have := HIN.out; simp [intOf]; omega
                · have hd1 : decide ((i : Int) < (nk : Int) + 64) = false := by simp; omega
                  clear s1 s2
                  go_wp2
                  go_roundw
                  case rel => exact ⟨k + 1, Lib.hid HLT.out, by go_num, D2⟩
                  case measure => have := HLT.out; simp [intOf]; omega
            · obtain rfl : K = k := by have := HK.out; omega
              have d0 : decide ((K : Int) < (K : Int)) = false := by simp
              have F2 := Lib.hid ((H1.out.below D1.out).again (m1 := 1))
              have B2 : Hid (Below base.lo w wr) := Lib.hid (below_base B1.out D1.out HB.out)
              clear hlt HK D1 H1 B1
              go_upto_region 27 with fail
              go_loopw [11] (fun iv w3 => ∃ k : Nat, Hid (k ≤ K) ∧ iv = .int .i64 (k : Int) ∧ Hid (FB 1 w3 base K V n (.slice (some ⟨q, 0, none⟩) K cl) (.slice (some ⟨gq, 0, none⟩) K K) k) ∧ Hid (Below base.lo w w3)) (fun iv _ => K - (intOf iv).toNat)
              case atStart => exact ⟨0, Lib.hid (Nat.zero_le _), rfl, F2, B2⟩
              case round =>
                obtain ⟨k, HK, rfl, H3, B3⟩ := hrel
                by_cases hlt : k < K
                · have d0 : decide ((k : Int) < (K : Int)) = true := by simp; omega
                  have HLT := Lib.hid hlt
                  obtain ⟨wD, rfl⟩ : ∃ x, x = wr := ⟨_, rfl⟩
                  have hw1 : IntKind.i64.wrap ((k : Int) + (K : Int)) = (k : Int) + (K : Int) := IntWalk.i64_in _ (by omega)
                  go_upto_region 31 with (at_make; refine wpList_mkF E_u64 rfl _ _ rfl 64 rfl rfl rfl rfl (by omega) (by simp [maxLen]) ?_; intro wm hm1 hm2 hm3)
                  have OM := Lib.hid hm1
                  have BM := Lib.hid hm3
                  clear hm1 hm2 hm3
                  go_loopw [13] (fun iv w4 => ∃ (i : Nat) (M : List Int), i ≤ 64 ∧ iv = .int .i64 (i : Int) ∧ Hid (w4.ownsRow wD.heap.size 54 1 (.slice (some ⟨wD.heap.size, 0, none⟩) 64 64) 64 (M.map (Value.int .u64))) ∧ Hid (Below wD.heap.size wD w4)) (fun iv _ => 64 - (intOf iv).toNat)
                  case atStart => exact ⟨0, _, by omega, rfl, OM, BM⟩
                  case round =>
                    obtain ⟨i, M, hi, rfl, O4, B4⟩ := hrel
                    by_cases hin : i < 64
                    · have d1 : decide ((i : Int) < 64) = true := by simp; omega
                      obtain ⟨u0, u1⟩ := own_cellK O4.out hin
                      go_wp2_with (go_at_call 65; refine (markNum_any _ _ _ (by omega) (by omega) (by omega) (by omega)).mono ?_; rintro e w' ⟨rfl, rfl⟩)
                      go_roundw
                      case rel => exact ⟨i + 1, _, by omega, by go_num, Lib.hid (own_setK O4.out i _), Lib.hid (B4.out.setCell (Nat.le_refl _) _)⟩
                      case measure => simp [intOf]; omega
                    · obtain rfl : i = 64 := by omega
                      have H5 := Lib.hid (H3.out.below B4.out)
                      obtain ⟨Ak, ck, hVk, ho⟩ := H5.out.row HLT.out
                      have c0 := H5.out.ls HLT.out
                      obtain ⟨nk, hnk⟩ : ∃ nk, n k = nk := ⟨_, rfl⟩
                      have hnk1 : nk ≤ 100000 := by rw [← hnk]; exact HN.out k HLT.out
                      rw [hVk] at c0
                      rw [hnk] at hVk ho c0
                      have HV := Lib.hid (And.intro hVk hnk)
                      have HO := Lib.hid ho
                      have hgb := Lib.hid (H5.out.rowlt HLT.out)
                      have B5 := Lib.hid (below_base B3.out B4.out HB.out)
                      clear hVk hnk ho
                      go_upto_region 28 with (at_builtin; refine wpList_app5 E_u64 rfl _ _ rfl rfl HO.out rfl (sees_own O4.out) (ints1 _ _) (by omega) (by simp [maxLen]; omega) (by omega) (by have h1 := HB.out; have h2 := B5.out.size; omega) ?_; intro A4 c4 w5 hn4 hg4 hb4 ho4 hl4; obtain ⟨⟨⟨x, hx⟩, hf⟩, H6⟩ := H5.out.many HLT.out (v' := .slice A4 (nk + 64) c4) (t := M) (by rw [HV.out.1]; exact hg4) (by rw [HV.out.1, HV.out.2]; exact ho4) (by rw [HV.out.2]; exact hn4) (by rw [HV.out.1]; exact hl4); have H7 := Lib.hid H6; have B7 := Lib.hid (B5.out.trans hb4); clear H6 hn4 hg4 hb4 ho4 hl4)
                      go_wp2
                      go_roundw
                      case rel => exact ⟨k + 1, Lib.hid HLT.out, by go_num, H7, Lib.hid (B7.out.setCell hgb.out _)⟩
                      case measure => have := HLT.out; simp [intOf]; omega
                · obtain rfl : K = k := by have := HK.out; omega
                  have d0 : decide ((K : Int) < (K : Int)) = false := by simp
                  clear hlt HK F2 B2
                  obtain ⟨wE, rfl⟩ : ∃ x, x = wr := ⟨_, rfl⟩
                  go_upto_region 36 with fail
                  go_loopw [14] (fun iv w4 => ∃ k : Nat, Hid (k ≤ K) ∧ iv = .int .i64 (k : Int) ∧ Hid (Below wE.heap.size wE w4)) (fun iv _ => K - (intOf iv).toNat)
                  case atStart => exact ⟨0, Lib.hid (Nat.zero_le _), rfl, Lib.hid (Below.refl _ _)⟩
                  case round =>
                    obtain ⟨k, HK, rfl, D1⟩ := hrel
                    by_cases hlt : k < K
                    · have d0 : decide ((k : Int) < (K : Int)) = true := by simp; omega
                      obtain ⟨nk, hnk⟩ : ∃ nk, n k = nk := ⟨_, rfl⟩
                      have hnk1 : nk ≤ 100000 := by rw [← hnk]; exact HN.out k hlt
                      have HNK := Lib.hid hnk
                      have HLT := Lib.hid hlt
                      clear hnk
                      go_upto_region 39 with fail
                      go_loopw [15] (fun iv w5 => ∃ i : Nat, Hid (i ≤ nk) ∧ iv = .int .i64 (i : Int) ∧ Hid (Below wE.heap.size wE w5)) (fun iv _ => nk - (intOf iv).toNat)
                      case atStart => exact ⟨0, Lib.hid (Nat.zero_le _), rfl, D1⟩
                      case round =>
                        obtain ⟨i, HI, rfl, D2⟩ := hrel
                        obtain ⟨A, c1, A', c', t, e1, e2, s1, s2, e3⟩ := (H3.out.below D2.out).see HLT.out
                        have c0 := (H3.out.below D2.out).ls HLT.out
                        rw [e2] at c0
                        rw [HNK.out] at e1 e2 s1 s2 e3 c0
                        have hi6 : (i : Int) ≤ 200000 := by have := HI.out; omega
                        clear e2 e3
                        by_cases hin : i < nk
                        · obtain ⟨b1, o1, rfl, g1⟩ := s1.int (show i < nk + 64 by omega)
                          rw [mkL_at2 hin] at g1
                          obtain ⟨b2, o2, rfl, g2⟩ := s2.int hin
                          rw [mkL_at hin] at g2
                          have HIN := Lib.hid hin
                          have hd1 : decide ((i : Int) < (nk : Int)) = true := by simp; omega
                          clear s1 s2
                          go_wp2_with fail
                          go_quiet ((go_at_call 65; exact Calls.quiet_of_same (markNum_any _ _ _ (by omega) (by omega) (by omega) (by omega))))
                          go_wp2
                          go_roundw
                          case rel => exact ⟨i + 1, Lib.hid HIN.out, by go_num, Lib.hid (below_drewN D2.out _)⟩
                          case measure => have := HIN.out; simp [intOf]; omega
                        · have hd1 : decide ((i : Int) < (nk : Int)) = false := by simp; omega
                          clear s1 s2
                          go_wp2
                          go_roundw
                          case rel => exact ⟨k + 1, Lib.hid HLT.out, by go_num, D2⟩
                          case measure => have := HLT.out; simp [intOf]; omega
                    · obtain rfl : K = k := by have := HK.out; omega
                      have d0 : decide ((K : Int) < (K : Int)) = false := by simp
                      have B9 := Lib.hid (below_base B3.out D1.out HB.out)
                      clear hlt
                      go_wp2
                      go_ret
                      exact ⟨rfl, B9.out, (H3.out.below D1.out).keptK⟩
end Go.Proofs.Ytemhoaleeefhhaa
