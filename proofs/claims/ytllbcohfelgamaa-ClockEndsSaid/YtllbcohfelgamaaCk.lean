/- Walks: ClockEnds. -/
import Derived.Test.YtllbcohfelgamaaProg
import Derived.Test.YtllbcohfelgamaaCj
namespace Go.Proofs.Ytllbcohfelgamaa
open Go.RowKit
set_option linter.unusedVariables false

theorem max_only {xs : List Int} {lo b : Nat} {u : Int} (hlo : lo < xs.length) (hb : b < xs.length) (hu : ∀ i, i < xs.length → xs.getD i 0 ≤ u) (h : MaxAt (xs.set lo (u + 1)) xs.length b) : b = lo := by
  rcases Nat.decEq b lo with hne | e
  · have h1 := h.1 lo hlo
    rw [getD_set hlo] at h1
    have h2 : (xs.set lo (u + 1)).getD b 0 = xs.getD b 0 := by
      rw [List.getD_eq_getElem?_getD, List.getElem?_set_ne (fun e => hne e.symm), List.getD_eq_getElem?_getD]
    have := hu b hb
    omega
  · exact e

set_option maxRecDepth 20000 in
set_option maxHeartbeats 3200000 in
theorem ClockEnds_any (n8 : Nat) (A : Option Addr) (m c : Nat) (l : List Int) (w : World) (hn8 : n8 < 256) (h : Sees w 1 A m c (l.map (Value.int .u32))) (hl : U32 l) :
    Calls Try.prog 4 #[.int .u8 (n8 : Int), .slice A m c] w fun e w' => e = .returned (.bool true) ∧ Below w.heap.size w w' := by
  obtain ⟨N, hN, hN1, hN2⟩ : ∃ N : Nat, 1 + (n8 : Int) % 64 = (N : Int) ∧ 1 ≤ N ∧ N ≤ 64 := ⟨1 + n8 % 64, by omega, by omega, by omega⟩
  have HNK := Lib.hid (And.intro (And.intro hN1 hN2) trivial)
  have hN3 : (N : Int) ≤ 64 := by omega
  have hN4 : (N : Int) ≠ 0 := by omega
  have HL := Lib.hid hl
  clear hN1 hN2 hl
  go_enter Try.func4, Try.ntmps4
  go_wp2_with (first
    | (go_at_call 11; refine (awake_any _).mono ?_; rintro e w1 ⟨rfl, b1⟩)
    | (go_at_call 12; refine (New_any N _ HNK.out.1).mono ?_; rintro e w2 ⟨p, g, c0, rfl, h2, b2⟩; have h2 := Lib.hid h2)
    | (go_at_call 13; refine (made_any N _ _ _ l _ (by exact h.below (below_step b1 b2) (Nat.le_refl _)) HL.out HNK.out.1).mono ?_; rintro e w3 ⟨A1, c1, A2, c2, k, rfl, o1, o2, hk1, hk2, hk3, b3⟩; have HO := Lib.hid (And.intro o1 o2); have HK := Lib.hid (And.intro hk1 (And.intro hk2 hk3)); clear o1 o2 hk1 hk2 hk3))
  have B3 := below_step (below_step b1 b2) b3
  have hgb : w1.heap.size ≤ g := h2.out.bg
  have hgl : g < w2.heap.size := h2.out.glt
  have hs1 := b1.size
  have h3 := Lib.hid (h2.out.below b3)
  have HG := Lib.hid (And.intro hgl (Nat.le_trans hs1 hgb))
  clear b1 b2 b3 hgb hgl hs1 h2 h
  have hkk : (k : Int) ≤ 100 := by have := HK.out; omega
  go_loopw [44] (fun i wr => ∃ (j : Nat) (xs : List Int), Hid (j ≤ k) ∧ i = .int .i64 (j : Int) ∧ Hid (Clk wr w1.heap.size p g c0 N xs ∧ Upto (33554428 * (j : Int)) xs ∧ xs.length = N) ∧ Keeps g w3 wr) (fun i _ => k - (intOf i).toNat)
  case atStart => exact ⟨0, List.replicate N 0, Lib.hid (Nat.zero_le _), rfl, Lib.hid ⟨h3.out, fun x hx => by rw [List.eq_of_mem_replicate hx]; decide, by simp⟩, Keeps.refl _ _⟩
  case round =>
    obtain ⟨j, xs, HJ, rfl, HX, hkp⟩ := hrel
    by_cases hlt : j < k
    · obtain ⟨ba, oa, hA1, g1⟩ := (sees_own (own_keeps HO.out.1 hkp HG.out.1)).int hlt
      obtain ⟨bb, ob, hA2, g2⟩ := (sees_own (own_keeps HO.out.2 hkp HG.out.1)).int hlt
      cases hA1
      cases hA2
      have hlk : (l.take k).length = k := by rw [List.length_take]; have := HK.out; omega
      have e1 := mC_at (N := N) HNK.out.1.1 (l := l.take k) j (by omega)
      have e2 := mD_at (l := l.take k) (HL.out.take k) j (by omega)
      obtain ⟨cpu, hcpu⟩ : ∃ x, (mC (N : Int) (l.take k)).getD j 0 = x := ⟨_, rfl⟩
      obtain ⟨d, hd⟩ : ∃ x, (mD (l.take k)).getD j 0 = x := ⟨_, rfl⟩
      rw [hcpu] at g1 e1
      rw [hd] at g2 e2
      obtain ⟨xs', v, ht, hlen', hup⟩ := tick_small (xs := xs) (cpu := cpu) (d := d) (b := 33554428 * (j : Int)) (by have := HX.out.2.2; omega) e2 HX.out.2.1 (by have := HK.out; omega)
      have HT := Lib.hid (And.intro ht (And.intro hlen' hup))
      have d1 : decide ((j : Int) < (k : Int)) = true := by simp; omega
      have hj2 : (j : Int) < (k : Int) := by omega
      have hj3 : (j : Int) ≤ 99 := by omega
      have HLT := Lib.hid hlt
      clear hlt e1 e2 hcpu hd ht hlen' hup hlk
      go_wp2_with fail
      refine wp_region_any (by kernel_rfl) ?_
      change wpAny _ _ _ _ _ _ _ (World.drew _)
      refine wpAny_take (i := 0) (v := (.pointer (some ⟨p, 0, none⟩))) rfl (by kernel_rfl) (by kernel_rfl) (by kernel_rfl) (fun _ _ _ h => h) (Or.inl ⟨by rfl, fun w => by go_simp⟩) ?_
      simp only [Act.put, List.getElem_toArray, List.getElem_cons_succ, List.getElem_cons_zero, List.setIfInBounds_toArray, List.set_cons_succ, List.set_cons_zero]
      refine wpAny_take (i := 1) (v := (.slice (some ⟨ba, oa, none⟩) k c1)) rfl (by kernel_rfl) (by kernel_rfl) (by kernel_rfl) (fun _ _ _ h => h) (Or.inl ⟨by rfl, fun w => by go_simp⟩) ?_
      simp only [Act.put, List.getElem_toArray, List.getElem_cons_succ, List.getElem_cons_zero, List.setIfInBounds_toArray, List.set_cons_succ, List.set_cons_zero]
      refine wpAny_take (i := 2) (v := (.int .i64 (j : Int))) rfl (by kernel_rfl) (by kernel_rfl) (by kernel_rfl) (fun _ _ _ h => h) (Or.inl ⟨by rfl, fun w => by go_simp⟩) ?_
      simp only [Act.put, List.getElem_toArray, List.getElem_cons_succ, List.getElem_cons_zero, List.setIfInBounds_toArray, List.set_cons_succ, List.set_cons_zero]
      refine wpAny_take (i := 3) (v := (.pointer (some ⟨ba, oa + j, none⟩))) rfl (by kernel_rfl) (by kernel_rfl) (by kernel_rfl) (fun _ _ _ h => h) (Or.inl ⟨by rfl, fun w => by go_simp⟩) ?_
      simp only [Act.put, List.getElem_toArray, List.getElem_cons_succ, List.getElem_cons_zero, List.setIfInBounds_toArray, List.set_cons_succ, List.set_cons_zero]
      refine wpAny_take (i := 5) (v := (.slice (some ⟨bb, ob, none⟩) k c2)) rfl (by kernel_rfl) (by kernel_rfl) (by kernel_rfl) (fun _ _ _ h => h) (Or.inl ⟨by rfl, fun w => by go_simp⟩) ?_
      simp only [Act.put, List.getElem_toArray, List.getElem_cons_succ, List.getElem_cons_zero, List.setIfInBounds_toArray, List.set_cons_succ, List.set_cons_zero]
      refine wpAny_take (i := 6) (v := (.int .i64 (j : Int))) rfl (by kernel_rfl) (by kernel_rfl) (by kernel_rfl) (fun _ _ _ h => h) (Or.inl ⟨by rfl, fun w => by go_simp⟩) ?_
      simp only [Act.put, List.getElem_toArray, List.getElem_cons_succ, List.getElem_cons_zero, List.setIfInBounds_toArray, List.set_cons_succ, List.set_cons_zero]
      refine wpAny_take (i := 7) (v := (.pointer (some ⟨bb, ob + j, none⟩))) rfl (by kernel_rfl) (by kernel_rfl) (by kernel_rfl) (fun _ _ _ h => h) (Or.inl ⟨by rfl, fun w => by go_simp⟩) ?_
      simp only [Act.put, List.getElem_toArray, List.getElem_cons_succ, List.getElem_cons_zero, List.setIfInBounds_toArray, List.set_cons_succ, List.set_cons_zero]
      refine wpAny_ready (rs := [4, 8]) (by kernel_rfl) (by simp) ?_
      refine AllReady.cons rfl (fun K hK => ?_) (AllReady.cons rfl (fun K hK => ?_) AllReady.nil)
      · go_simp
        refine hK _ _ ?_
        try simp only [Act.put, List.getElem_toArray, List.getElem_cons_succ, List.getElem_cons_zero, List.setIfInBounds_toArray, List.set_cons_succ, List.set_cons_zero]
        refine wpAny_ready (rs := [8]) (by kernel_rfl) (by simp) ?_
        refine AllReady.cons rfl (fun K hK => ?_) AllReady.nil
        go_simp
        refine hK _ _ ?_
        try simp only [Act.put, List.getElem_toArray, List.getElem_cons_succ, List.getElem_cons_zero, List.setIfInBounds_toArray, List.set_cons_succ, List.set_cons_zero]
        refine wpAny_ready (rs := [9]) (by kernel_rfl) (by simp) ?_
        refine AllReady.cons rfl (fun K hK => ?_) AllReady.nil
        go_simp
        refine (Tick_any _ _ _ _ _ _ _ _ _ (HX.out.1.below ((Below.refl _ _).drew)) (by have := HNK.out; omega) (HX.out.2.1.okT (by have := HK.out; have := HLT.out; omega))).mono ?_
        rw [HT.out.1]
        rintro e w4 ⟨rfl, h4, k4⟩
        have h4 := Lib.hid h4
        have k5 := (hkp.trans (Keeps.of_below ((Below.refl wr.heap.size wr).drew))).trans k4
        clear k4
        refine hK _ _ ?_
        try simp only [Act.put, List.getElem_toArray, List.getElem_cons_succ, List.getElem_cons_zero, List.setIfInBounds_toArray, List.set_cons_succ, List.set_cons_zero]
        refine wpAny_take (i := 10) (v := (.tuple #[.int .i64 v, .int .i64 0])) rfl (by kernel_rfl) (by kernel_rfl) (by kernel_rfl) (fun _ _ _ h => h) (Or.inl ⟨by rfl, fun w => by go_simp⟩) ?_
        simp only [Act.put, List.getElem_toArray, List.getElem_cons_succ, List.getElem_cons_zero, List.setIfInBounds_toArray, List.set_cons_succ, List.set_cons_zero]
        refine wpAny_take (i := 11) (v := (.int .i64 v)) rfl (by kernel_rfl) (by kernel_rfl) (by kernel_rfl) (fun _ _ _ h => h) (Or.inl ⟨by rfl, fun w => by go_simp⟩) ?_
        simp only [Act.put, List.getElem_toArray, List.getElem_cons_succ, List.getElem_cons_zero, List.setIfInBounds_toArray, List.set_cons_succ, List.set_cons_zero]
        refine wpAny_take (i := 12) (v := (.int .i64 0)) rfl (by kernel_rfl) (by kernel_rfl) (by kernel_rfl) (fun _ _ _ h => h) (Or.inl ⟨by rfl, fun w => by go_simp⟩) ?_
        simp only [Act.put, List.getElem_toArray, List.getElem_cons_succ, List.getElem_cons_zero, List.setIfInBounds_toArray, List.set_cons_succ, List.set_cons_zero]
        refine wpAny_take (i := 13) (v := (.int .i64 v)) rfl (by kernel_rfl) (by kernel_rfl) (by kernel_rfl) (fun _ _ _ h => h) (Or.inl ⟨by rfl, fun w => by go_simp⟩) ?_
        simp only [Act.put, List.getElem_toArray, List.getElem_cons_succ, List.getElem_cons_zero, List.setIfInBounds_toArray, List.set_cons_succ, List.set_cons_zero]
        refine wpAny_take (i := 14) (v := (.int .i64 0)) rfl (by kernel_rfl) (by kernel_rfl) (by kernel_rfl) (fun _ _ _ h => h) (Or.inl ⟨by rfl, fun w => by go_simp⟩) ?_
        simp only [Act.put, List.getElem_toArray, List.getElem_cons_succ, List.getElem_cons_zero, List.setIfInBounds_toArray, List.set_cons_succ, List.set_cons_zero]
        refine wpAny_done (by kernel_rfl) ?_ _
        go_wp2
        go_roundw
        case rel => exact ⟨j + 1, xs', Lib.hid HLT.out, by go_num, Lib.hid ⟨h4.out, by have := HT.out.2.2; rw [show (33554428 * ((j + 1 : Nat) : Int)) = 33554428 * (j : Int) + 33554428 by omega]; exact this, by rw [HT.out.2.1]; exact HX.out.2.2⟩, k5⟩
        case measure => have := HLT.out; simp [intOf]; omega
      · go_simp
        refine hK _ _ ?_
        try simp only [Act.put, List.getElem_toArray, List.getElem_cons_succ, List.getElem_cons_zero, List.setIfInBounds_toArray, List.set_cons_succ, List.set_cons_zero]
        refine wpAny_ready (rs := [4]) (by kernel_rfl) (by simp) ?_
        refine AllReady.cons rfl (fun K hK => ?_) AllReady.nil
        go_simp
        refine hK _ _ ?_
        try simp only [Act.put, List.getElem_toArray, List.getElem_cons_succ, List.getElem_cons_zero, List.setIfInBounds_toArray, List.set_cons_succ, List.set_cons_zero]
        refine wpAny_ready (rs := [9]) (by kernel_rfl) (by simp) ?_
        refine AllReady.cons rfl (fun K hK => ?_) AllReady.nil
        go_simp
        refine (Tick_any _ _ _ _ _ _ _ _ _ (HX.out.1.below ((Below.refl _ _).drew)) (by have := HNK.out; omega) (HX.out.2.1.okT (by have := HK.out; have := HLT.out; omega))).mono ?_
        rw [HT.out.1]
        rintro e w4 ⟨rfl, h4, k4⟩
        have h4 := Lib.hid h4
        have k5 := (hkp.trans (Keeps.of_below ((Below.refl wr.heap.size wr).drew))).trans k4
        clear k4
        refine hK _ _ ?_
        try simp only [Act.put, List.getElem_toArray, List.getElem_cons_succ, List.getElem_cons_zero, List.setIfInBounds_toArray, List.set_cons_succ, List.set_cons_zero]
        refine wpAny_take (i := 10) (v := (.tuple #[.int .i64 v, .int .i64 0])) rfl (by kernel_rfl) (by kernel_rfl) (by kernel_rfl) (fun _ _ _ h => h) (Or.inl ⟨by rfl, fun w => by go_simp⟩) ?_
        simp only [Act.put, List.getElem_toArray, List.getElem_cons_succ, List.getElem_cons_zero, List.setIfInBounds_toArray, List.set_cons_succ, List.set_cons_zero]
        refine wpAny_take (i := 11) (v := (.int .i64 v)) rfl (by kernel_rfl) (by kernel_rfl) (by kernel_rfl) (fun _ _ _ h => h) (Or.inl ⟨by rfl, fun w => by go_simp⟩) ?_
        simp only [Act.put, List.getElem_toArray, List.getElem_cons_succ, List.getElem_cons_zero, List.setIfInBounds_toArray, List.set_cons_succ, List.set_cons_zero]
        refine wpAny_take (i := 12) (v := (.int .i64 0)) rfl (by kernel_rfl) (by kernel_rfl) (by kernel_rfl) (fun _ _ _ h => h) (Or.inl ⟨by rfl, fun w => by go_simp⟩) ?_
        simp only [Act.put, List.getElem_toArray, List.getElem_cons_succ, List.getElem_cons_zero, List.setIfInBounds_toArray, List.set_cons_succ, List.set_cons_zero]
        refine wpAny_take (i := 13) (v := (.int .i64 v)) rfl (by kernel_rfl) (by kernel_rfl) (by kernel_rfl) (fun _ _ _ h => h) (Or.inl ⟨by rfl, fun w => by go_simp⟩) ?_
        simp only [Act.put, List.getElem_toArray, List.getElem_cons_succ, List.getElem_cons_zero, List.setIfInBounds_toArray, List.set_cons_succ, List.set_cons_zero]
        refine wpAny_take (i := 14) (v := (.int .i64 0)) rfl (by kernel_rfl) (by kernel_rfl) (by kernel_rfl) (fun _ _ _ h => h) (Or.inl ⟨by rfl, fun w => by go_simp⟩) ?_
        simp only [Act.put, List.getElem_toArray, List.getElem_cons_succ, List.getElem_cons_zero, List.setIfInBounds_toArray, List.set_cons_succ, List.set_cons_zero]
        refine wpAny_done (by kernel_rfl) ?_ _
        go_wp2
        go_roundw
        case rel => exact ⟨j + 1, xs', Lib.hid HLT.out, by go_num, Lib.hid ⟨h4.out, by have := HT.out.2.2; rw [show (33554428 * ((j + 1 : Nat) : Int)) = 33554428 * (j : Int) + 33554428 by omega]; exact this, by rw [HT.out.2.1]; exact HX.out.2.2⟩, k5⟩
        case measure => have := HLT.out; simp [intOf]; omega
    · have hjk : j = k := by have := HJ.out; omega
      have d1 : decide ((j : Int) < (k : Int)) = false := by simp; omega
      have d1' : decide (j < k) = false := by simp; omega
      obtain ⟨hC, hU, hLn⟩ := HX.out
      have HC := Lib.hid hC
      have HU : Hid (Upto 4000000000 xs) := Lib.hid (fun x hx => by have := hU x hx; have := HK.out; omega)
      have HLN := Lib.hid hLn
      have HNN : Hid (N ≤ 100000) := Lib.hid (by have := HNK.out; omega)
      have BR : Below w.heap.size w wr := B3.trans (hkp.below HG.out.2 B3.size)
      clear hC hU hLn hlt hjk hkp HX B3 h3
      go_wp2_with (first
        | (go_at_call 15; refine (All_any _ _ _ _ _ _ _ hC5.out HNN.out).mono ?_; rintro e w6 ⟨A6, c6, rfl, o6, k6⟩; obtain ⟨ga, ca, hA6, hga⟩ := own_addrK o6 HNK.out.1.1; cases hA6; obtain ⟨r1, -⟩ := own_cellK o6 hlo.out; obtain ⟨r2, -⟩ := own_cellK o6 hhi.out; rw [HT.out] at r1; rw [HW.out] at r2; have HO6 := Lib.hid (sees_own o6); have hC6 := Lib.hid (hC5.out.below k6); have B6 := below_step B5 k6; clear o6)
        | (go_at_call 20; refine (Ahead_any _ _ _ _ _ _ _ hC4.out HNN.out).mono ?_; rintro e w5 ⟨hi, rfl, hb, hm, k5⟩; obtain ⟨u, hu⟩ : ∃ u, xs.getD hi 0 = u := ⟨_, rfl⟩; rw [hu]; have HW := Lib.hid hu; have hhi := Lib.hid hb; have HMX := Lib.hid hm; have hC5 := Lib.hid (hC4.out.below k5); have B5 := below_step B4 k5; have hi1 : decide ((N : Int) ≤ (hi : Int)) = false := (by simp; omega); have hi2 : decide (N ≤ hi) = false := (by simp; omega); have hi3 : (hi : Int) < (N : Int) := (by omega); clear hb hm hu)
        | (go_at_call 19; refine (Behind_any _ _ _ _ _ _ _ HC.out HNN.out).mono ?_; rintro e w4 ⟨lo, rfl, hb, hm, k4⟩; obtain ⟨t, ht⟩ : ∃ t, xs.getD lo 0 = t := ⟨_, rfl⟩; rw [ht]; have HT := Lib.hid ht; have hlo := Lib.hid hb; have HMN := Lib.hid hm; have hC4 := Lib.hid (HC.out.below k4); have B4 := below_step BR k4; have lo1 : decide ((N : Int) ≤ (lo : Int)) = false := (by simp; omega); have lo2 : decide (N ≤ lo) = false := (by simp; omega); have lo3 : (lo : Int) < (N : Int) := (by omega); clear hb hm ht))
      have htu : t ≤ u := by have := HMN.out.1 hi hhi.out; rw [HT.out, HW.out] at this; exact this
      have htu2 := HU.out.at_ (k := lo) (by rw [HLN.out]; exact hlo.out)
      have htu3 := HU.out.at_ (k := hi) (by rw [HLN.out]; exact hhi.out)
      rw [HT.out] at htu2
      rw [HW.out] at htu3
      have HF := Lib.hid (tick_at (xs := xs) (k := lo) (v := t) (d := u - t + 1) (y := u + 1) (by rw [HLN.out]; exact hlo.out) HT.out (by omega) (by omega) (by omega))
      have HOK := Lib.hid (HU.out.okT (by omega))
      clear r1 r2
      go_loopw [115] (fun iv wr => ∃ i : Nat, Hid (i ≤ N) ∧ iv = .int .i64 (i : Int) ∧ w6 = wr) (fun iv _ => N - (intOf iv).toNat)
      case atStart => exact ⟨0, Lib.hid (Nat.zero_le _), rfl, rfl⟩
      case round =>
        obtain ⟨i, HI, rfl, rfl⟩ := hrel
        by_cases hlt : i < N
        · obtain ⟨bx, ox, hA1, g1⟩ := HO6.out.int hlt
          cases hA1
          obtain ⟨x, hx⟩ : ∃ x, xs.getD i 0 = x := ⟨_, rfl⟩
          have m1 := HMN.out.1 i hlt
          have m2 := HMX.out.1 i hlt
          have m3 := HMN.out.2 i
          have m4 := HMX.out.2 i
          rw [hx, HT.out] at m1 m3
          rw [hx, HW.out] at m2 m4
          rw [hx, Nat.zero_add] at g1
          have f1 : decide (x < t) = false := by simp; omega
          have f2 : decide (u < x) = false := by simp; omega
          have f3 : ((x == t) = true ∧ decide ((i : Int) < (lo : Int)) = false ∧ decide (i < lo) = false) ∨ (x == t) = false := by
            by_cases h : x = t
            · left; exact ⟨by simpa using h, by simp; omega, by simp; omega⟩
            · right; simpa using h
          have f4 : ((x == u) = true ∧ decide ((i : Int) < (hi : Int)) = false ∧ decide (i < hi) = false) ∨ (x == u) = false := by
            by_cases h : x = u
            · left; exact ⟨by simpa using h, by simp; omega, by simp; omega⟩
            · right; simpa using h
          have d3 : decide ((i : Int) < (N : Int)) = true := by simp; omega
          have hi2 : (i : Int) ≤ 63 := by omega
          have HLT := Lib.hid hlt
          clear hlt m1 m2 m3 m4 hx
          rcases f3 with ⟨e1, e2, e3⟩ | e1
          all_goals rcases f4 with ⟨e4, e5, e6⟩ | e4
          all_goals go_wp2
          all_goals go_roundw
          all_goals first
            | exact ⟨i + 1, Lib.hid HLT.out, by go_num, trivial⟩
            | exact ⟨i + 1, Lib.hid HLT.out, by go_num, rfl⟩
            | (have := HLT.out; simp [intOf]; omega)
        · have hin : i = N := by have := HI.out; omega
          have d3 : decide ((i : Int) < (N : Int)) = false := by simp; omega
          have d3' : decide (i < N) = false := by simp; omega
          clear hlt hin
          go_wp2_with (first
            | (go_at_call 20; refine (Ahead_any _ _ _ _ _ _ _ hC7.out HNN.out).mono ?_; rintro e w8 ⟨b, rfl, hb, hm, k8⟩; obtain rfl := max_only (xs := xs) (lo := lo) (b := b) (u := u) (by rw [HLN.out]; exact hlo.out) (by rw [HLN.out]; exact hb) (fun i hi' => by have := HMX.out.1 i (by rw [← HLN.out]; exact hi'); rwa [HW.out] at this) (by rw [HLN.out]; exact hm); rw [getD_set (by rw [HLN.out]; exact hlo.out)]; have B8 := below_step B7 k8)
            | (go_at_call 14; refine (Tick_any _ _ _ _ _ _ _ _ _ hC6.out HNN.out HOK.out).mono ?_; rw [HF.out]; rintro e w7 ⟨rfl, h7, k7⟩; have hC7 := Lib.hid h7; clear h7; have B7 := B6.trans (k7.below HG.out.2 B6.size)))
          go_ret
          exact ⟨rfl, B8⟩
end Go.Proofs.Ytllbcohfelgamaa
