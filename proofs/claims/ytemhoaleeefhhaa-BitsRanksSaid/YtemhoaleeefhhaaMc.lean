/- Walks: BitsRanks. -/
import Derived.Test.YtemhoaleeefhhaaProg
import Derived.Test.YtemhoaleeefhhaaMb
namespace Go.Proofs.Ytemhoaleeefhhaa
open Go.RowKit
set_option linter.unusedVariables false

set_option maxRecDepth 20000 in
set_option maxHeartbeats 3200000 in
theorem BitsRanks_any (n : Nat) (A0 : Option Addr) (m c0 : Nat) (l : List Int) (i : Int) (w : World) (hn : n < 65536) (hs : Sees w 1 A0 m c0 (l.map (Value.int .u64))) (hw : W64 l) (hi : -9223372036854775808 ≤ i ∧ i ≤ 9223372036854775807) :
    Calls Try.prog 5 #[.int .u16 (n : Int), .slice A0 m c0, .int .i64 i] w fun e w' => e = .returned (.bool true) ∧ Below w.heap.size w w' := by
  obtain ⟨N, hN⟩ : ∃ N, n % (64 * min m 16 + 1) = N := ⟨_, rfl⟩
  have hN1 : N ≤ 1024 := by have := Nat.mod_lt n (show 0 < 64 * min m 16 + 1 by omega); omega
  have HN := Lib.hid hN
  have HS := Lib.hid hs
  have HN1 := Lib.hid hN1
  have hN2 : (N : Int) ≤ 1024 := by omega
  obtain ⟨lo, hlo⟩ : ∃ lo : Int, min i 0 = lo := ⟨_, rfl⟩
  have hlo1 : (if i < 0 then i else 0) = lo := by split <;> omega
  have hlo2 : (if (0 : Int) < i then 0 else i) = lo := by split <;> omega
  obtain ⟨hi', hhi⟩ : ∃ hi' : Int, max i (N : Int) = hi' := ⟨_, rfl⟩
  have hhi1 : (if i < (N : Int) then (N : Int) else i) = hi' := by split <;> omega
  have hhi2 : (if (N : Int) < i then i else (N : Int)) = hi' := by split <;> omega
  have HLH := Lib.hid (show lo ≤ 0 ∧ (N : Int) ≤ hi' by omega)
  clear hN hs hN1 hlo hhi
  go_enter Try.func5, Try.ntmps5
  go_wp2_with (first
    | (go_at_call 18; have _q := T6; refine (Rank_any N hi' A n2 c2 zs _ S6.out.see HW64.out.1).mono ?_; rw [rankF_top HW64.out.2 HLH.out.2, HT.out]; rintro e w7 ⟨rfl, k7⟩; have S7 := Lib.hid (S6.out.step k7); have L7 := Lib.hid (L6.out.below k7 (Nat.le_refl _)); have y70 := S7.out.box.c0; have y71 := S7.out.box.c1; clear k7 y60 y61)
    | (go_at_call 18; have _q := T5; refine (Rank_any N lo A n2 c2 zs _ S5.out.see HW64.out.1).mono ?_; rw [rankF_low HW64.out.2 HLH.out.1]; rintro e w6 ⟨rfl, k6⟩; have T6 := HT; have S6 := Lib.hid (S5.out.step k6); have L6 := Lib.hid (L5.out.below k6 (Nat.le_refl _)); have y60 := S6.out.box.c0; have y61 := S6.out.box.c1; clear k6 y50 y51)
    | (go_at_call 18; have _q := S4; refine (Rank_any N N A n2 c2 zs _ S4.out.see HW64.out.1).mono ?_; rw [rankF_top HW64.out.2 (Int.le_refl _), HT.out]; rintro e w5 ⟨rfl, k5⟩; have T5 := HT; have S5 := Lib.hid (S4.out.step k5); have L5 := Lib.hid (L4.out.below k5 (Nat.le_refl _)); have y50 := S5.out.box.c0; have y51 := S5.out.box.c1; clear k5 y40 y41)
    | (go_at_call 17; refine (Count_any N A n2 c2 zs _ S3.out.see HW64.out.1).mono ?_; rw [rankF_top HW64.out.2 (by have := HN1.out; omega), HT.out]; rintro e w4 ⟨rfl, k4⟩; have S4 := Lib.hid (S3.out.step k4); have L4 := Lib.hid (L3.out.below k4 (Nat.le_refl _)); have y40 := S4.out.box.c0; have y41 := S4.out.box.c1; clear k4 y30 y31)
    | (go_at_call 16; refine (Members_any N A n2 c2 zs _ S2.out.see HW64.out.1).mono ?_; unfold membersF; rw [if_pos HW64.out.2, Int.toNat_natCast]; rintro e w3 ⟨A3, c3, rfl, o3, k3⟩; obtain ⟨T, hT⟩ : ∃ T, (mem zs N).length = T := ⟨_, rfl⟩; rw [hT] at o3 ⊢; have HT := Lib.hid hT; have L3 := Lib.hid (sees_own o3); have S3 := Lib.hid (S2.out.step k3); have y30 := S3.out.box.c0; have y31 := S3.out.box.c1; clear k3 o3 hT)
    | (go_at_call 15; refine (made_any n A0 m c0 l _ hn (HS.out.below b1.out (Nat.le_refl _)) hw).mono ?_; rw [HN.out]; rintro e w2 ⟨v, zs, rfl, ⟨A, n2, c2, rfl, o2⟩, hzw, hzr, k2⟩; have HW64 := Lib.hid (And.intro hzw hzr); have S2 := Lib.hid (BS.new (N := (N : Int)) (below_step b1.out k2) (sees_own o2)); clear k2 o2 hzw hzr)
    | (go_at_call 13; refine (awake_any _).mono ?_; rintro e w1 ⟨rfl, k1⟩; have b1 := Lib.hid k1; clear k1))
  have hT1 : (T : Int) ≤ 1024 := by have h1 := mem_le zs N; have := HT.out; have := HN1.out; omega
  go_loopw [66] (fun iv wr => ∃ k : Nat, Hid (k ≤ T) ∧ iv = .int .i64 (k : Int) ∧ Hid (BS w wr w2.heap.size N A n2 c2 zs) ∧ Hid (Sees wr 1 A3 T c3 (intsN (mem zs N)))) (fun iv _ => T - (intOf iv).toNat)
  case atStart => exact ⟨0, Lib.hid (Nat.zero_le _), rfl, S7, L7⟩
  case round =>
    obtain ⟨k, HK, rfl, S9, L9⟩ := hrel
    clear y70 y71
    have y90 := S9.out.box.c0
    have y91 := S9.out.box.c1
    by_cases hlt : k < T
    · obtain ⟨x, hx⟩ : ∃ x, (mem zs N)[k]? = some x := ⟨_, List.getElem?_eq_getElem (by rw [HT.out]; exact hlt)⟩
      have hl9 := L9.out
      rw [intsN_cast] at hl9
      obtain ⟨ba, oa, rfl, g1⟩ := hl9.int hlt
      rw [castN_at hx] at g1
      have hxN := (mem_at hx).1
      have HR0 := Lib.hid ((rankF_at HW64.out.2 (Nat.le_of_lt hxN)).trans (rank_at hx))
      have HR1 : Hid (rankF zs N ((x : Int) + 1) = k + 1) := Lib.hid ((rankF_at (f := x + 1) HW64.out.2 hxN).trans (rank_at1 hx))
      have HNX : Hid (nextF zs N (x : Int) = some x) := Lib.hid (by rw [nextF_at HW64.out.2 (Nat.le_of_lt hxN), rank_at hx, hx])
      have HSE : Hid (selF zs N (k : Int) = some x) := Lib.hid (by rw [selF_at HW64.out.2, hx])
      have HHA := Lib.hid (hasF_mem HW64.out.2 hx)
      have hk1 : (k : Int) ≤ 1024 := by omega
      have hx1 : (x : Int) ≤ 1024 := by omega
      have d0 : decide ((k : Int) < (T : Int)) = true := by simp; omega
      have hkT : (k : Int) < (T : Int) := by omega
      have HLT := Lib.hid hlt
      by_cases hk0 : k = 0
      · have HBE : Hid (beforeF zs N (x : Int) = none) := Lib.hid (before_zero HW64.out.2 (by rw [← hk0]; exact hx))
        have d5 : decide ((0 : Int) < (k : Int)) = false := by simp; omega
        have d5' : decide (0 < k) = false := by simp; omega
        clear hlt hl9 hx hxN hk0
        go_wp2_with (first
          | (go_at_call 18; have _q := U14; refine (Rank_any N ((x : Int) + 1) A n2 c2 zs _ S14.out.see HW64.out.1).mono ?_; rw [HR1.out]; rintro e w15 ⟨rfl, k15⟩; have S15 := Lib.hid (S14.out.step k15); have L15 := Lib.hid (L14.out.below k15 (Nat.le_refl _)); have y150 := S15.out.box.c0; have y151 := S15.out.box.c1; clear k15 y140 y141)
          | (go_at_call 18; refine (Rank_any N (x : Int) A n2 c2 zs _ S13.out.see HW64.out.1).mono ?_; rw [HR0.out]; have U14 := HT; rintro e w14 ⟨rfl, k14⟩; have S14 := Lib.hid (S13.out.step k14); have L14 := Lib.hid (L13.out.below k14 (Nat.le_refl _)); have y140 := S14.out.box.c0; have y141 := S14.out.box.c1; clear k14 y130 y131)
          | (go_at_call 22; refine (Has_any N (x : Int) A n2 c2 zs _ S12.out.see HW64.out.1).mono ?_; rw [HHA.out]; rintro e w13 ⟨rfl, k13⟩; have S13 := Lib.hid (S12.out.step k13); have L13 := Lib.hid (L12.out.below k13 (Nat.le_refl _)); have y130 := S13.out.box.c0; have y131 := S13.out.box.c1; clear k13 y120 y121)
          | (go_at_call 21; refine (Before_any N (x : Int) A n2 c2 zs _ S11.out.see HW64.out.1).mono ?_; rw [HBE.out]; simp only [optV]; rintro e w12 ⟨rfl, k12⟩; have S12 := Lib.hid (S11.out.step k12); have L12 := Lib.hid (L11.out.below k12 (Nat.le_refl _)); have y120 := S12.out.box.c0; have y121 := S12.out.box.c1; clear k12 y110 y111)
          | (go_at_call 20; refine (Next_any N (x : Int) A n2 c2 zs _ S10.out.see HW64.out.1).mono ?_; rw [HNX.out]; simp only [optV]; rintro e w11 ⟨rfl, k11⟩; have S11 := Lib.hid (S10.out.step k11); have L11 := Lib.hid (L10.out.below k11 (Nat.le_refl _)); have y110 := S11.out.box.c0; have y111 := S11.out.box.c1; clear k11 y100 y101)
          | (go_at_call 19; refine (Select_any N (k : Int) A n2 c2 zs _ S9.out.see HW64.out.1 (by omega)).mono ?_; rw [HSE.out]; simp only [optV]; rintro e w10 ⟨rfl, k10⟩; have S10 := Lib.hid (S9.out.step k10); have L10 := Lib.hid (L9.out.below k10 (Nat.le_refl _)); have y100 := S10.out.box.c0; have y101 := S10.out.box.c1; clear k10 y90 y91))
        go_roundw
        case rel => exact ⟨k + 1, Lib.hid HLT.out, by go_num, S15, L15⟩
        case measure => have := HLT.out; simp [intOf]; omega
      · obtain ⟨j, hj⟩ : ∃ j, k = j + 1 := ⟨k - 1, by omega⟩
        obtain ⟨y, hy⟩ : ∃ y, (mem zs N)[j]? = some y := ⟨_, List.getElem?_eq_getElem (by rw [HT.out]; omega)⟩
        have HBE : Hid (beforeF zs N (x : Int) = some y) := Lib.hid ((before_succ HW64.out.2 (by rw [← hj]; exact hx)).trans hy)
        have d5 : decide ((0 : Int) < (k : Int)) = true := by simp; omega
        have d5' : decide (0 < k) = true := by simp; omega
        have hkj : (k : Int) - 1 = (j : Int) := by omega
        have hjT : (j : Int) < (T : Int) := by omega
        have hwj : IntKind.i64.wrap (j : Int) = (j : Int) := IntWalk.i64_in _ (by omega)
        have HJT := Lib.hid (show j < T by omega)
        have HY := Lib.hid (castN_at hy)
        clear hlt hl9 hx hxN hk0 hj hy
        go_wp2_with (first
          | (go_at_call 18; have _q := U14; refine (Rank_any N ((x : Int) + 1) A n2 c2 zs _ S14.out.see HW64.out.1).mono ?_; rw [HR1.out]; rintro e w15 ⟨rfl, k15⟩; have hl15 := L14.out.below k15 (Nat.le_refl _); rw [intsN_cast] at hl15; obtain ⟨ba2, oa2, hA2, g15⟩ := hl15.int HJT.out; cases hA2; rw [HY.out] at g15; clear hl15; have S15 := Lib.hid (S14.out.step k15); have L15 := Lib.hid (L14.out.below k15 (Nat.le_refl _)); have y150 := S15.out.box.c0; have y151 := S15.out.box.c1; clear k15 y140 y141)
          | (go_at_call 18; refine (Rank_any N (x : Int) A n2 c2 zs _ S13.out.see HW64.out.1).mono ?_; rw [HR0.out]; have U14 := HT; rintro e w14 ⟨rfl, k14⟩; have S14 := Lib.hid (S13.out.step k14); have L14 := Lib.hid (L13.out.below k14 (Nat.le_refl _)); have y140 := S14.out.box.c0; have y141 := S14.out.box.c1; clear k14 y130 y131)
          | (go_at_call 22; refine (Has_any N (x : Int) A n2 c2 zs _ S12.out.see HW64.out.1).mono ?_; rw [HHA.out]; rintro e w13 ⟨rfl, k13⟩; have S13 := Lib.hid (S12.out.step k13); have L13 := Lib.hid (L12.out.below k13 (Nat.le_refl _)); have y130 := S13.out.box.c0; have y131 := S13.out.box.c1; clear k13 y120 y121)
          | (go_at_call 21; refine (Before_any N (x : Int) A n2 c2 zs _ S11.out.see HW64.out.1).mono ?_; rw [HBE.out]; simp only [optV]; rintro e w12 ⟨rfl, k12⟩; have S12 := Lib.hid (S11.out.step k12); have L12 := Lib.hid (L11.out.below k12 (Nat.le_refl _)); have y120 := S12.out.box.c0; have y121 := S12.out.box.c1; clear k12 y110 y111)
          | (go_at_call 20; refine (Next_any N (x : Int) A n2 c2 zs _ S10.out.see HW64.out.1).mono ?_; rw [HNX.out]; simp only [optV]; rintro e w11 ⟨rfl, k11⟩; have S11 := Lib.hid (S10.out.step k11); have L11 := Lib.hid (L10.out.below k11 (Nat.le_refl _)); have y110 := S11.out.box.c0; have y111 := S11.out.box.c1; clear k11 y100 y101)
          | (go_at_call 19; refine (Select_any N (k : Int) A n2 c2 zs _ S9.out.see HW64.out.1 (by omega)).mono ?_; rw [HSE.out]; simp only [optV]; rintro e w10 ⟨rfl, k10⟩; have S10 := Lib.hid (S9.out.step k10); have L10 := Lib.hid (L9.out.below k10 (Nat.le_refl _)); have y100 := S10.out.box.c0; have y101 := S10.out.box.c1; clear k10 y90 y91))
        go_roundw
        case rel => exact ⟨k + 1, Lib.hid HLT.out, by go_num, S15, L15⟩
        case measure => have := HLT.out; simp [intOf]; omega
    · have hkT : k = T := by have := HK.out; omega
      have d0 : decide ((k : Int) < (T : Int)) = false := by simp; omega
      have d0' : decide (k < T) = false := by simp; omega
      obtain ⟨mx, hmx⟩ : ∃ mx : Int, max i (T : Int) = mx := ⟨_, rfl⟩
      have hmx1 : (if i < (T : Int) then (T : Int) else i) = mx := by split <;> omega
      have hmx2 : (if (T : Int) < i then i else (T : Int)) = mx := by split <;> omega
      obtain ⟨mn, hmn⟩ : ∃ mn : Int, min i (-1) = mn := ⟨_, rfl⟩
      have hmn1 : (if i < -1 then i else -1) = mn := by split <;> omega
      have hmn2 : (if (-1 : Int) < i then -1 else i) = mn := by split <;> omega
      have HSX : Hid (selF zs N mx = none) := Lib.hid (selF_over HW64.out.2 (by rw [HT.out]; omega))
      have HSM : Hid (selF zs N mn = none) := Lib.hid (selF_neg (by omega))
      have HMX := Lib.hid (show mx ≤ 9223372036854775807 ∧ mn ≤ 9223372036854775807 by omega)
      obtain ⟨M, hM⟩ : ∃ M, N + 1 = M := ⟨_, rfl⟩
      obtain ⟨a, ha⟩ : ∃ a : Nat, i % (M : Int) = (a : Int) := ⟨(i % (M : Int)).toNat, by have := Int.emod_nonneg i (show (M : Int) ≠ 0 by omega); omega⟩
      have haN : a ≤ N := by have := Int.emod_lt_of_pos i (show (0 : Int) < (M : Int) by omega); omega
      have HA := Lib.hid ha
      have hrk := rankF_at HW64.out.2 haN
      have hnx := nextF_at HW64.out.2 haN
      have hhs := hasF_next (a := a) HW64.out.2
      obtain ⟨r, hr⟩ : ∃ r, cnt zs a = r := ⟨_, rfl⟩
      rw [hr] at hrk hnx hhs
      have HRK := Lib.hid hrk
      have hN3 : (N : Int) + 1 = (M : Int) := by omega
      have ha2 : (a : Int) ≤ 1024 := by have := HN1.out; omega
      have HN9 := Lib.hid (show 1 ≤ M ∧ M ≤ 1000000 by have := HN1.out; omega)
      clear hkT hr ha haN hM
      by_cases hrT : r < T
      · obtain ⟨y, hy⟩ : ∃ y, (mem zs N)[r]? = some y := ⟨_, List.getElem?_eq_getElem (by rw [HT.out]; exact hrT)⟩
        rw [hy] at hnx hhs
        have HNX := Lib.hid hnx
        have HY := Lib.hid (castN_at hy)
        have HRT := Lib.hid hrT
        have hrT2 : (r : Int) < (T : Int) := by omega
        have d6 : decide ((r : Int) < (T : Int)) = true := by simp; omega
        have d6' : decide (r < T) = true := by simp; omega
        have hy1 : (y : Int) ≤ 1024 := by have := (mem_at hy).1; have := HN1.out; omega
        by_cases hya : y = a
        · have hya2 := hya.symm
          subst hya2
          have HHA : Hid (hasF zs N (a : Int) = true) := Lib.hid (by rw [hhs]; simp)
          have d7 : ((a : Int) == (a : Int)) = true := by simp
          clear hlt hrk hnx hhs hy hrT hmx hmn
          go_wp2_with (first
          | (go_at_call 22; refine (Has_any N (a : Int) A n2 c2 zs _ S23.out.see HW64.out.1).mono ?_; rw [HHA.out]; rintro e w24 ⟨rfl, k24⟩; have S24 := Lib.hid (S23.out.step k24); have L24 := Lib.hid (L23.out.below k24 (Nat.le_refl _)); have y240 := S24.out.box.c0; have y241 := S24.out.box.c1; clear k24 y230 y231)
          | (go_at_call 18; refine (Rank_any N (a : Int) A n2 c2 zs _ S22.out.see HW64.out.1).mono ?_; rw [HRK.out]; rintro e w23 ⟨rfl, k23⟩; have S23 := Lib.hid (S22.out.step k23); have L23 := Lib.hid (L22.out.below k23 (Nat.le_refl _)); have y230 := S23.out.box.c0; have y231 := S23.out.box.c1; have hl23 := L22.out.below k23 (Nat.le_refl _); rw [intsN_cast] at hl23; obtain ⟨ba2, oa2, hA2, g15⟩ := hl23.int HRT.out; subst hA2; rw [HY.out] at g15; clear hl23; clear k23 y220 y221)
          | (go_at_call 20; refine (Next_any N (a : Int) A n2 c2 zs _ S21.out.see HW64.out.1).mono ?_; rw [HNX.out]; simp only [optV]; rintro e w22 ⟨rfl, k22⟩; have S22 := Lib.hid (S21.out.step k22); have L22 := Lib.hid (L21.out.below k22 (Nat.le_refl _)); have y220 := S22.out.box.c0; have y221 := S22.out.box.c1; clear k22 y210 y211)
          | (go_at_call 23; refine (Pick_any i M _ HN9.out.1 HN9.out.2).mono ?_; rw [HA.out]; rintro e w' ⟨rfl, rfl⟩)
          | (go_at_call 19; have _q := U20; refine (Select_any N mn A n2 c2 zs _ S20.out.see HW64.out.1 HMX.out.2).mono ?_; rw [HSM.out]; simp only [optV]; rintro e w21 ⟨rfl, k21⟩; have S21 := Lib.hid (S20.out.step k21); have L21 := Lib.hid (L20.out.below k21 (Nat.le_refl _)); have y210 := S21.out.box.c0; have y211 := S21.out.box.c1; clear k21 y200 y201)
          | (go_at_call 19; refine (Select_any N mx A n2 c2 zs _ S9.out.see HW64.out.1 HMX.out.1).mono ?_; rw [HSX.out]; simp only [optV]; have U20 := HT; rintro e w20 ⟨rfl, k20⟩; have S20 := Lib.hid (S9.out.step k20); have L20 := Lib.hid (L9.out.below k20 (Nat.le_refl _)); have y200 := S20.out.box.c0; have y201 := S20.out.box.c1; clear k20 y90 y91))
          go_ret
          exact ⟨rfl, S24.out.bel⟩
        · have HHA : Hid (hasF zs N (a : Int) = false) := Lib.hid (by rw [hhs]; simp; exact hya)
          have d7 : ((y : Int) == (a : Int)) = false := by simp; omega
          clear hlt hrk hnx hhs hy hrT hmx hmn hya
          go_wp2_with (first
          | (go_at_call 22; refine (Has_any N (a : Int) A n2 c2 zs _ S23.out.see HW64.out.1).mono ?_; rw [HHA.out]; rintro e w24 ⟨rfl, k24⟩; have S24 := Lib.hid (S23.out.step k24); have L24 := Lib.hid (L23.out.below k24 (Nat.le_refl _)); have y240 := S24.out.box.c0; have y241 := S24.out.box.c1; clear k24 y230 y231)
          | (go_at_call 18; refine (Rank_any N (a : Int) A n2 c2 zs _ S22.out.see HW64.out.1).mono ?_; rw [HRK.out]; rintro e w23 ⟨rfl, k23⟩; have S23 := Lib.hid (S22.out.step k23); have L23 := Lib.hid (L22.out.below k23 (Nat.le_refl _)); have y230 := S23.out.box.c0; have y231 := S23.out.box.c1; have hl23 := L22.out.below k23 (Nat.le_refl _); rw [intsN_cast] at hl23; obtain ⟨ba2, oa2, hA2, g15⟩ := hl23.int HRT.out; subst hA2; rw [HY.out] at g15; clear hl23; clear k23 y220 y221)
          | (go_at_call 20; refine (Next_any N (a : Int) A n2 c2 zs _ S21.out.see HW64.out.1).mono ?_; rw [HNX.out]; simp only [optV]; rintro e w22 ⟨rfl, k22⟩; have S22 := Lib.hid (S21.out.step k22); have L22 := Lib.hid (L21.out.below k22 (Nat.le_refl _)); have y220 := S22.out.box.c0; have y221 := S22.out.box.c1; clear k22 y210 y211)
          | (go_at_call 23; refine (Pick_any i M _ HN9.out.1 HN9.out.2).mono ?_; rw [HA.out]; rintro e w' ⟨rfl, rfl⟩)
          | (go_at_call 19; have _q := U20; refine (Select_any N mn A n2 c2 zs _ S20.out.see HW64.out.1 HMX.out.2).mono ?_; rw [HSM.out]; simp only [optV]; rintro e w21 ⟨rfl, k21⟩; have S21 := Lib.hid (S20.out.step k21); have L21 := Lib.hid (L20.out.below k21 (Nat.le_refl _)); have y210 := S21.out.box.c0; have y211 := S21.out.box.c1; clear k21 y200 y201)
          | (go_at_call 19; refine (Select_any N mx A n2 c2 zs _ S9.out.see HW64.out.1 HMX.out.1).mono ?_; rw [HSX.out]; simp only [optV]; have U20 := HT; rintro e w20 ⟨rfl, k20⟩; have S20 := Lib.hid (S9.out.step k20); have L20 := Lib.hid (L9.out.below k20 (Nat.le_refl _)); have y200 := S20.out.box.c0; have y201 := S20.out.box.c1; clear k20 y90 y91))
          go_ret
          exact ⟨rfl, S24.out.bel⟩
      · have hnone : (mem zs N)[r]? = none := List.getElem?_eq_none (by rw [HT.out]; omega)
        rw [hnone] at hnx hhs
        have HNX := Lib.hid hnx
        have HHA : Hid (hasF zs N (a : Int) = false) := Lib.hid (by rw [hhs]; simp)
        have d6 : decide ((r : Int) < (T : Int)) = false := by simp; omega
        have d6' : decide (r < T) = false := by simp; omega
        clear hlt hrk hnx hhs hrT hmx hmn hnone
        go_wp2_with (first
          | (go_at_call 22; refine (Has_any N (a : Int) A n2 c2 zs _ S23.out.see HW64.out.1).mono ?_; rw [HHA.out]; rintro e w24 ⟨rfl, k24⟩; have S24 := Lib.hid (S23.out.step k24); have L24 := Lib.hid (L23.out.below k24 (Nat.le_refl _)); have y240 := S24.out.box.c0; have y241 := S24.out.box.c1; clear k24 y230 y231)
          | (go_at_call 18; refine (Rank_any N (a : Int) A n2 c2 zs _ S22.out.see HW64.out.1).mono ?_; rw [HRK.out]; rintro e w23 ⟨rfl, k23⟩; have S23 := Lib.hid (S22.out.step k23); have L23 := Lib.hid (L22.out.below k23 (Nat.le_refl _)); have y230 := S23.out.box.c0; have y231 := S23.out.box.c1; clear k23 y220 y221)
          | (go_at_call 20; refine (Next_any N (a : Int) A n2 c2 zs _ S21.out.see HW64.out.1).mono ?_; rw [HNX.out]; simp only [optV]; rintro e w22 ⟨rfl, k22⟩; have S22 := Lib.hid (S21.out.step k22); have L22 := Lib.hid (L21.out.below k22 (Nat.le_refl _)); have y220 := S22.out.box.c0; have y221 := S22.out.box.c1; clear k22 y210 y211)
          | (go_at_call 23; refine (Pick_any i M _ HN9.out.1 HN9.out.2).mono ?_; rw [HA.out]; rintro e w' ⟨rfl, rfl⟩)
          | (go_at_call 19; have _q := U20; refine (Select_any N mn A n2 c2 zs _ S20.out.see HW64.out.1 HMX.out.2).mono ?_; rw [HSM.out]; simp only [optV]; rintro e w21 ⟨rfl, k21⟩; have S21 := Lib.hid (S20.out.step k21); have L21 := Lib.hid (L20.out.below k21 (Nat.le_refl _)); have y210 := S21.out.box.c0; have y211 := S21.out.box.c1; clear k21 y200 y201)
          | (go_at_call 19; refine (Select_any N mx A n2 c2 zs _ S9.out.see HW64.out.1 HMX.out.1).mono ?_; rw [HSX.out]; simp only [optV]; have U20 := HT; rintro e w20 ⟨rfl, k20⟩; have S20 := Lib.hid (S9.out.step k20); have L20 := Lib.hid (L9.out.below k20 (Nat.le_refl _)); have y200 := S20.out.box.c0; have y201 := S20.out.box.c1; clear k20 y90 y91))
        go_ret
        exact ⟨rfl, S24.out.bel⟩
end Go.Proofs.Ytemhoaleeefhhaa
