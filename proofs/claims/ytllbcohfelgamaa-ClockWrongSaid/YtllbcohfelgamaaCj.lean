/- Walks: ClockAlone. -/
import Derived.Test.YtllbcohfelgamaaProg
import Derived.Test.YtllbcohfelgamaaCi
import Derived.StillTailTactics
namespace Go.Proofs.Ytllbcohfelgamaa
open Go.RowKit
set_option linter.unusedVariables false

theorem tick_at {xs : List Int} {k : Nat} {v d y : Int} (hk : k < xs.length) (hx : xs.getD k 0 = v) (h0 : 0 ≤ d) (hy : v + d = y) (h1 : y ≤ 281474976710656) : tickF xs (k : Int) d = (xs.set k y, y, 0) := by
  subst hx hy
  unfold tickF
  rw [if_neg (by omega), if_neg (by omega), Int.toNat_natCast, if_neg (by omega)]
theorem until_at {xs : List Int} {k : Nat} {v y r : Int} (hk : k < xs.length) (hx : xs.getD k 0 = v) (h0 : 0 ≤ y) (hv : v ≤ y) (h1 : y ≤ 281474976710656) (hr : y - v = r) : untilF xs (k : Int) y = (xs.set k y, r, 0) := by
  subst hx hr
  unfold untilF
  rw [if_neg (by omega), if_neg (by omega), Int.toNat_natCast, if_neg (by omega)]
theorem getD_set {xs : List Int} {k : Nat} (hk : k < xs.length) (y : Int) : (xs.set k y).getD k 0 = y := by simp [List.getD_eq_getElem?_getD, hk]

set_option maxRecDepth 20000 in
set_option maxHeartbeats 3200000 in
theorem ClockAlone_any (n8 : Nat) (A : Option Addr) (m c : Nat) (l : List Int) (cpu8 : Nat) (a b : Int) (w : World) (hn8 : n8 < 256) (h : Sees w 1 A m c (l.map (Value.int .u32))) (hl : U32 l) (hc8 : cpu8 < 256) (ha : 0 ≤ a ∧ a ≤ 4294967295) (hb : 0 ≤ b ∧ b ≤ 4294967295) :
    Calls Try.prog 3 #[.int .u8 (n8 : Int), .slice A m c, .int .u8 (cpu8 : Int), .int .u32 a, .int .u32 b] w fun e w' => e = .returned (.bool true) ∧ Below w.heap.size w w' := by
  obtain ⟨N, hN, hN1, hN2⟩ : ∃ N : Nat, 1 + (n8 : Int) % 64 = (N : Int) ∧ 1 ≤ N ∧ N ≤ 64 := ⟨1 + n8 % 64, by omega, by omega, by omega⟩
  obtain ⟨q0, hq0, hq1⟩ : ∃ q0 : Nat, (cpu8 : Int) % (N : Int) = (q0 : Int) ∧ q0 < N := ⟨cpu8 % N, by simp, Nat.mod_lt _ (by omega)⟩
  have HNK := Lib.hid (And.intro (And.intro hN1 hN2) hq1)
  have hN3 : (N : Int) ≤ 64 := by omega
  have hN4 : (N : Int) ≠ 0 := by omega
  have HL := Lib.hid hl
  clear hN1 hN2 hq1 hl
  go_enter Try.func3, Try.ntmps3
  go_wp2_with (first
    | (go_at_call 11; refine (awake_any _).mono ?_; rintro e w1 ⟨rfl, b1⟩)
    | (go_at_call 12; refine (New_any N _ HNK.out.1).mono ?_; rintro e w2 ⟨p, g, c0, rfl, h2, b2⟩; have h2 := Lib.hid h2)
    | (go_at_call 13; refine (made_any N _ _ _ l _ (by exact h.below (below_step b1 b2) (Nat.le_refl _)) HL.out HNK.out.1).mono ?_; rintro e w3 ⟨A1, c1, A2, c2, k, rfl, o1, o2, hk1, hk2, hk3, b3⟩; have HO := Lib.hid (And.intro o1 o2); have HK := Lib.hid (And.intro hk1 (And.intro hk2 hk3)); clear o1 o2 hk1 hk2 hk3))
  have B3 := below_step (below_step b1 b2) b3
  have hgb : w1.heap.size ≤ g := h2.out.bg
  have hgl : g < w2.heap.size := h2.out.glt
  have hs1 := b1.size
  have h3 := Lib.hid (h2.out.below b3)
  have HG := Lib.hid (And.intro hgl (Nat.le_trans hs1 hgb))
  clear b1 b2 b3 hgb hgl hs1 h2 h
  have hkk : (k : Int) ≤ 100 := by have := HK.out; omega
  go_loopw [58] (fun i wr => ∃ (j : Nat) (xs : List Int), Hid (j ≤ k) ∧ i = .int .i64 (j : Int) ∧ Hid (Clk wr w1.heap.size p g c0 N xs ∧ Upto (33554428 * (j : Int)) xs ∧ xs.length = N) ∧ Keeps g w3 wr) (fun i _ => k - (intOf i).toNat)
  case atStart => exact ⟨0, List.replicate N 0, Lib.hid (Nat.zero_le _), rfl, Lib.hid ⟨h3.out, fun x hx => by rw [List.eq_of_mem_replicate hx]; decide, by simp⟩, Keeps.refl _ _⟩
  case round =>
    obtain ⟨j, xs, HJ, rfl, HX, hkp⟩ := hrel
    by_cases hlt : j < k
    · obtain ⟨ba, oa, hA1, g1⟩ := (sees_own (own_keeps HO.out.1 hkp HG.out.1)).int hlt
      obtain ⟨bb, ob, hA2, g2⟩ := (sees_own (own_keeps HO.out.2 hkp HG.out.1)).int hlt
      cases hA1
      cases hA2
      have hlk : (l.take k).length = k := by rw [List.length_take]; have := HK.out; omega
      have e1 := mC_at (N := N) HNK.out.1.1 (l := l.take k) j (by omega)
      have e2 := mD_at (l := l.take k) (HL.out.take k) j (by omega)
      obtain ⟨cpu, hcpu⟩ : ∃ x, (mC (N : Int) (l.take k)).getD j 0 = x := ⟨_, rfl⟩
      obtain ⟨d, hd⟩ : ∃ x, (mD (l.take k)).getD j 0 = x := ⟨_, rfl⟩
      rw [hcpu] at g1 e1
      rw [hd] at g2 e2
      obtain ⟨xs', v, ht, hlen', hup⟩ := tick_small (xs := xs) (cpu := cpu) (d := d) (b := 33554428 * (j : Int)) (by have := HX.out.2.2; omega) e2 HX.out.2.1 (by have := HK.out; omega)
      have HT := Lib.hid (And.intro ht (And.intro hlen' hup))
      have d1 : decide ((j : Int) < (k : Int)) = true := by simp; omega
      have hj2 : (j : Int) < (k : Int) := by omega
      have hj3 : (j : Int) ≤ 99 := by omega
      have HLT := Lib.hid hlt
      clear hlt e1 e2 hcpu hd ht hlen' hup hlk
      go_wp2_with fail
      refine wp_region_any (by kernel_rfl) ?_
      change wpAny _ _ _ _ _ _ _ (World.drew _)
      refine wpAny_take (i := 0) (v := (.pointer (some ⟨p, 0, none⟩))) rfl (by kernel_rfl) (by kernel_rfl) (by kernel_rfl) (fun _ _ _ h => h) (Or.inl ⟨by rfl, fun w => by go_simp⟩) ?_
      simp only [Act.put, List.getElem_toArray, List.getElem_cons_succ, List.getElem_cons_zero, List.setIfInBounds_toArray, List.set_cons_succ, List.set_cons_zero]
      refine wpAny_take (i := 1) (v := (.slice (some ⟨ba, oa, none⟩) k c1)) rfl (by kernel_rfl) (by kernel_rfl) (by kernel_rfl) (fun _ _ _ h => h) (Or.inl ⟨by rfl, fun w => by go_simp⟩) ?_
      simp only [Act.put, List.getElem_toArray, List.getElem_cons_succ, List.getElem_cons_zero, List.setIfInBounds_toArray, List.set_cons_succ, List.set_cons_zero]
      refine wpAny_take (i := 2) (v := (.int .i64 (j : Int))) rfl (by kernel_rfl) (by kernel_rfl) (by kernel_rfl) (fun _ _ _ h => h) (Or.inl ⟨by rfl, fun w => by go_simp⟩) ?_
      simp only [Act.put, List.getElem_toArray, List.getElem_cons_succ, List.getElem_cons_zero, List.setIfInBounds_toArray, List.set_cons_succ, List.set_cons_zero]
      refine wpAny_take (i := 3) (v := (.pointer (some ⟨ba, oa + j, none⟩))) rfl (by kernel_rfl) (by kernel_rfl) (by kernel_rfl) (fun _ _ _ h => h) (Or.inl ⟨by rfl, fun w => by go_simp⟩) ?_
      simp only [Act.put, List.getElem_toArray, List.getElem_cons_succ, List.getElem_cons_zero, List.setIfInBounds_toArray, List.set_cons_succ, List.set_cons_zero]
      refine wpAny_take (i := 5) (v := (.slice (some ⟨bb, ob, none⟩) k c2)) rfl (by kernel_rfl) (by kernel_rfl) (by kernel_rfl) (fun _ _ _ h => h) (Or.inl ⟨by rfl, fun w => by go_simp⟩) ?_
      simp only [Act.put, List.getElem_toArray, List.getElem_cons_succ, List.getElem_cons_zero, List.setIfInBounds_toArray, List.set_cons_succ, List.set_cons_zero]
      refine wpAny_take (i := 6) (v := (.int .i64 (j : Int))) rfl (by kernel_rfl) (by kernel_rfl) (by kernel_rfl) (fun _ _ _ h => h) (Or.inl ⟨by rfl, fun w => by go_simp⟩) ?_
      simp only [Act.put, List.getElem_toArray, List.getElem_cons_succ, List.getElem_cons_zero, List.setIfInBounds_toArray, List.set_cons_succ, List.set_cons_zero]
      refine wpAny_take (i := 7) (v := (.pointer (some ⟨bb, ob + j, none⟩))) rfl (by kernel_rfl) (by kernel_rfl) (by kernel_rfl) (fun _ _ _ h => h) (Or.inl ⟨by rfl, fun w => by go_simp⟩) ?_
      simp only [Act.put, List.getElem_toArray, List.getElem_cons_succ, List.getElem_cons_zero, List.setIfInBounds_toArray, List.set_cons_succ, List.set_cons_zero]
      refine wpAny_ready (rs := [4, 8]) (by kernel_rfl) (by simp) ?_
      refine AllReady.cons rfl (fun K hK => ?_) (AllReady.cons rfl (fun K hK => ?_) AllReady.nil)
      · go_simp
        refine hK _ _ ?_
        try simp only [Act.put, List.getElem_toArray, List.getElem_cons_succ, List.getElem_cons_zero, List.setIfInBounds_toArray, List.set_cons_succ, List.set_cons_zero]
        refine wpAny_ready (rs := [8]) (by kernel_rfl) (by simp) ?_
        refine AllReady.cons rfl (fun K hK => ?_) AllReady.nil
        go_simp
        refine hK _ _ ?_
        try simp only [Act.put, List.getElem_toArray, List.getElem_cons_succ, List.getElem_cons_zero, List.setIfInBounds_toArray, List.set_cons_succ, List.set_cons_zero]
        refine wpAny_ready (rs := [9]) (by kernel_rfl) (by simp) ?_
        refine AllReady.cons rfl (fun K hK => ?_) AllReady.nil
        go_simp
        refine (Tick_any _ _ _ _ _ _ _ _ _ (HX.out.1.below ((Below.refl _ _).drew)) (by have := HNK.out; omega) (HX.out.2.1.okT (by have := HK.out; have := HLT.out; omega))).mono ?_
        rw [HT.out.1]
        rintro e w4 ⟨rfl, h4, k4⟩
        have h4 := Lib.hid h4
        have k5 := (hkp.trans (Keeps.of_below ((Below.refl wr.heap.size wr).drew))).trans k4
        clear k4
        refine hK _ _ ?_
        try simp only [Act.put, List.getElem_toArray, List.getElem_cons_succ, List.getElem_cons_zero, List.setIfInBounds_toArray, List.set_cons_succ, List.set_cons_zero]
        refine wpAny_take (i := 10) (v := (.tuple #[.int .i64 v, .int .i64 0])) rfl (by kernel_rfl) (by kernel_rfl) (by kernel_rfl) (fun _ _ _ h => h) (Or.inl ⟨by rfl, fun w => by go_simp⟩) ?_
        simp only [Act.put, List.getElem_toArray, List.getElem_cons_succ, List.getElem_cons_zero, List.setIfInBounds_toArray, List.set_cons_succ, List.set_cons_zero]
        refine wpAny_take (i := 11) (v := (.int .i64 v)) rfl (by kernel_rfl) (by kernel_rfl) (by kernel_rfl) (fun _ _ _ h => h) (Or.inl ⟨by rfl, fun w => by go_simp⟩) ?_
        simp only [Act.put, List.getElem_toArray, List.getElem_cons_succ, List.getElem_cons_zero, List.setIfInBounds_toArray, List.set_cons_succ, List.set_cons_zero]
        refine wpAny_take (i := 12) (v := (.int .i64 0)) rfl (by kernel_rfl) (by kernel_rfl) (by kernel_rfl) (fun _ _ _ h => h) (Or.inl ⟨by rfl, fun w => by go_simp⟩) ?_
        simp only [Act.put, List.getElem_toArray, List.getElem_cons_succ, List.getElem_cons_zero, List.setIfInBounds_toArray, List.set_cons_succ, List.set_cons_zero]
        refine wpAny_take (i := 13) (v := (.int .i64 v)) rfl (by kernel_rfl) (by kernel_rfl) (by kernel_rfl) (fun _ _ _ h => h) (Or.inl ⟨by rfl, fun w => by go_simp⟩) ?_
        simp only [Act.put, List.getElem_toArray, List.getElem_cons_succ, List.getElem_cons_zero, List.setIfInBounds_toArray, List.set_cons_succ, List.set_cons_zero]
        refine wpAny_take (i := 14) (v := (.int .i64 0)) rfl (by kernel_rfl) (by kernel_rfl) (by kernel_rfl) (fun _ _ _ h => h) (Or.inl ⟨by rfl, fun w => by go_simp⟩) ?_
        simp only [Act.put, List.getElem_toArray, List.getElem_cons_succ, List.getElem_cons_zero, List.setIfInBounds_toArray, List.set_cons_succ, List.set_cons_zero]
        refine wpAny_done (by kernel_rfl) ?_ _
        go_wp2
        go_roundw
        case rel => exact ⟨j + 1, xs', Lib.hid HLT.out, by go_num, Lib.hid ⟨h4.out, by have := HT.out.2.2; rw [show (33554428 * ((j + 1 : Nat) : Int)) = 33554428 * (j : Int) + 33554428 by omega]; exact this, by rw [HT.out.2.1]; exact HX.out.2.2⟩, k5⟩
        case measure => have := HLT.out; simp [intOf]; omega
      · go_simp
        refine hK _ _ ?_
        try simp only [Act.put, List.getElem_toArray, List.getElem_cons_succ, List.getElem_cons_zero, List.setIfInBounds_toArray, List.set_cons_succ, List.set_cons_zero]
        refine wpAny_ready (rs := [4]) (by kernel_rfl) (by simp) ?_
        refine AllReady.cons rfl (fun K hK => ?_) AllReady.nil
        go_simp
        refine hK _ _ ?_
        try simp only [Act.put, List.getElem_toArray, List.getElem_cons_succ, List.getElem_cons_zero, List.setIfInBounds_toArray, List.set_cons_succ, List.set_cons_zero]
        refine wpAny_ready (rs := [9]) (by kernel_rfl) (by simp) ?_
        refine AllReady.cons rfl (fun K hK => ?_) AllReady.nil
        go_simp
        refine (Tick_any _ _ _ _ _ _ _ _ _ (HX.out.1.below ((Below.refl _ _).drew)) (by have := HNK.out; omega) (HX.out.2.1.okT (by have := HK.out; have := HLT.out; omega))).mono ?_
        rw [HT.out.1]
        rintro e w4 ⟨rfl, h4, k4⟩
        have h4 := Lib.hid h4
        have k5 := (hkp.trans (Keeps.of_below ((Below.refl wr.heap.size wr).drew))).trans k4
        clear k4
        refine hK _ _ ?_
        try simp only [Act.put, List.getElem_toArray, List.getElem_cons_succ, List.getElem_cons_zero, List.setIfInBounds_toArray, List.set_cons_succ, List.set_cons_zero]
        refine wpAny_take (i := 10) (v := (.tuple #[.int .i64 v, .int .i64 0])) rfl (by kernel_rfl) (by kernel_rfl) (by kernel_rfl) (fun _ _ _ h => h) (Or.inl ⟨by rfl, fun w => by go_simp⟩) ?_
        simp only [Act.put, List.getElem_toArray, List.getElem_cons_succ, List.getElem_cons_zero, List.setIfInBounds_toArray, List.set_cons_succ, List.set_cons_zero]
        refine wpAny_take (i := 11) (v := (.int .i64 v)) rfl (by kernel_rfl) (by kernel_rfl) (by kernel_rfl) (fun _ _ _ h => h) (Or.inl ⟨by rfl, fun w => by go_simp⟩) ?_
        simp only [Act.put, List.getElem_toArray, List.getElem_cons_succ, List.getElem_cons_zero, List.setIfInBounds_toArray, List.set_cons_succ, List.set_cons_zero]
        refine wpAny_take (i := 12) (v := (.int .i64 0)) rfl (by kernel_rfl) (by kernel_rfl) (by kernel_rfl) (fun _ _ _ h => h) (Or.inl ⟨by rfl, fun w => by go_simp⟩) ?_
        simp only [Act.put, List.getElem_toArray, List.getElem_cons_succ, List.getElem_cons_zero, List.setIfInBounds_toArray, List.set_cons_succ, List.set_cons_zero]
        refine wpAny_take (i := 13) (v := (.int .i64 v)) rfl (by kernel_rfl) (by kernel_rfl) (by kernel_rfl) (fun _ _ _ h => h) (Or.inl ⟨by rfl, fun w => by go_simp⟩) ?_
        simp only [Act.put, List.getElem_toArray, List.getElem_cons_succ, List.getElem_cons_zero, List.setIfInBounds_toArray, List.set_cons_succ, List.set_cons_zero]
        refine wpAny_take (i := 14) (v := (.int .i64 0)) rfl (by kernel_rfl) (by kernel_rfl) (by kernel_rfl) (fun _ _ _ h => h) (Or.inl ⟨by rfl, fun w => by go_simp⟩) ?_
        simp only [Act.put, List.getElem_toArray, List.getElem_cons_succ, List.getElem_cons_zero, List.setIfInBounds_toArray, List.set_cons_succ, List.set_cons_zero]
        refine wpAny_done (by kernel_rfl) ?_ _
        go_wp2
        go_roundw
        case rel => exact ⟨j + 1, xs', Lib.hid HLT.out, by go_num, Lib.hid ⟨h4.out, by have := HT.out.2.2; rw [show (33554428 * ((j + 1 : Nat) : Int)) = 33554428 * (j : Int) + 33554428 by omega]; exact this, by rw [HT.out.2.1]; exact HX.out.2.2⟩, k5⟩
        case measure => have := HLT.out; simp [intOf]; omega
    · have hjk : j = k := by have := HJ.out; omega
      have d1 : decide ((j : Int) < (k : Int)) = false := by simp; omega
      have d1' : decide (j < k) = false := by simp; omega
      obtain ⟨hC, hU, hLn⟩ := HX.out
      have hq0 : q0 < N := HNK.out.2
      have hv := hU.at_ (k := q0) (by omega)
      obtain ⟨v, ev⟩ : ∃ v, xs.getD q0 0 = v := ⟨_, rfl⟩
      rw [ev] at hv
      have hv2 : 0 ≤ v ∧ v ≤ 4000000000 := by have := HK.out; omega
      obtain ⟨y, ey⟩ : ∃ y, v + a + b = y := ⟨_, rfl⟩
      have hyv : v + (a + b) = y := by omega
      have OX := hU.okT (by have := HK.out; omega)
      have O1 := OX.set q0 (v := v + a) (by omega)
      have O2 := OX.set q0 (v := y) (by omega)
      have T1 := tick_at (xs := xs) (k := q0) (v := v) (d := a) (y := v + a) (by omega) ev (by omega) rfl (by omega)
      have T2 := tick_at (xs := xs.set q0 (v + a)) (k := q0) (v := v + a) (d := b) (y := y) (by simp; omega) (getD_set (by omega) _) (by omega) ey (by omega)
      rw [List.set_set] at T2
      have T3 := tick_at (xs := xs) (k := q0) (v := v) (d := a + b) (y := y) (by omega) ev (by omega) hyv (by omega)
      have U1 := until_at (xs := xs) (k := q0) (v := v) (y := y) (r := a + b) (by omega) ev (by omega) (by omega) (by omega) (by omega)
      have U2 := until_at (xs := xs.set q0 y) (k := q0) (v := y) (y := y) (r := 0) (by simp; omega) (getD_set (by omega) _) (by omega) (by omega) (by omega) (by omega)
      rw [List.set_set] at U2
      have HF := Lib.hid (And.intro T1 (And.intro T2 (And.intro T3 (And.intro U1 U2))))
      have HOX := Lib.hid (And.intro OX (And.intro O1 O2))
      have HC := Lib.hid hC
      have HEV := Lib.hid (And.intro ev hLn)
      have hyb : 0 ≤ y ∧ y ≤ 20000000000 := by omega
      have hab : 0 ≤ a + b ∧ a + b ≤ 8589934590 := by omega
      have hNN : N ≤ 100000 := by have := HNK.out; omega
      have HNN := Lib.hid hNN
      have hqN : (q0 : Int) < (N : Int) := by omega
      have BR : Below w.heap.size w wr := B3.trans (hkp.below HG.out.2 B3.size)
      clear T1 T2 T3 U1 U2 OX O1 O2 hC hU hLn ev ey hlt hjk hNN hq0 hkp HX B3 h3
      go_wp2_with (first
        | (go_at_call 18; refine (SameInts_any _ _ _ _ _ _ (xs.set q0 y) (xs.set q0 y) _ (by exact o18.out) (by exact HS18.out)).mono ?_; rw [eqL_self]; rintro e w19 ⟨rfl, k19⟩; have B19 := below_step B18 k19)
        | (go_at_call 15; refine (All_any _ _ _ _ _ _ _ h617.out HNN.out).mono ?_; rintro e w18 ⟨A18, c18, rfl, o18, k18⟩; have o18 := Lib.hid (sees_own o18); have HS18 := Lib.hid (HS17.out.below k18 (Nat.le_refl _)); have B18 := below_step B17 k18)
        | (go_at_call 18; refine (SameInts_any _ _ _ _ _ _ (xs.set q0 y) (xs.set q0 y) _ (by exact o16.out) (by exact HS16.out)).mono ?_; rw [eqL_self]; rintro e w17 ⟨rfl, k17⟩; have h617 := Lib.hid (h616.out.below k17); have HS17 := Lib.hid (HS16.out.below k17 (Nat.le_refl _)); have B17 := below_step B16 k17)
        | (go_at_call 15; refine (All_any _ _ _ _ _ _ _ h515.out HNN.out).mono ?_; rintro e w16 ⟨A16, c16, rfl, o16, k16⟩; have o16 := Lib.hid (sees_own o16); have h616 := Lib.hid (h615.out.below k16); have HS16 := Lib.hid (HS15.out.below k16 (Nat.le_refl _)); have B16 := below_step B15 k16)
        | (go_at_call 18; refine (SameInts_any _ _ _ _ _ _ (xs.set q0 y) (xs.set q0 y) _ (by exact o14.out) (by exact HS14.out)).mono ?_; rw [eqL_self]; rintro e w15 ⟨rfl, k15⟩; have h515 := Lib.hid (h514.out.below k15); have h615 := Lib.hid (h614.out.below k15); have HS15 := Lib.hid (HS14.out.below k15 (Nat.le_refl _)); have B15 := below_step B14 k15)
        | (go_at_call 15; refine (All_any _ _ _ _ _ _ _ hC13.out HNN.out).mono ?_; rintro e w14 ⟨A14, c14, rfl, o14, k14⟩; have o14 := Lib.hid (sees_own o14); have h514 := Lib.hid (h513.out.below k14); have h614 := Lib.hid (h613.out.below k14); have HS14 := Lib.hid (HS13.out.below k14 (Nat.le_refl _)); have B14 := below_step B13 k14)
        | (at_builtin; refine wpList_app E_int rfl _ _ rfl rfl (World.ownsRow_lit (base := w11.heap.size) (e := 3) (size := 1) w11 #[] 0 (Nat.le_refl _) (by decide) rfl) rfl (hB11.out.below ((Below.refl _ _).alloc (Nat.le_refl _) _) (Nat.le_refl _)) (ints1 _ _) (by simp [maxLen]; omega) (by omega) (by simp) ?_; intro A12 c12 w12 hown12 hg12 hb12; simp only [Nat.zero_add] at hown12 ⊢; obtain ⟨gw, cw, hA12, hgw⟩ := own_addrK hown12 HNK.out.1.1; cases hA12; have hw0 : w12.ownsRow w11.heap.size 3 1 (.slice (some ⟨gw, 0, none⟩) N c12) N (xs.map (Value.int .i64)) := (by simpa using hown12); obtain ⟨q1, q2⟩ := own_cellK hw0 HNK.out.2; rw [HEV.out.1] at q1; have HS13 := Lib.hid (sees_own (own_setK hw0 q0 y)); have b12 := ((Below.refl w11.heap.size w11).alloc (Nat.le_refl _) (.cells #[] 3)).trans hb12; have r1 := hC11.out.plt; have r2 := hC11.out.glt; have r3 := h511.out.plt; have r4 := h511.out.glt; have r5 := h611.out.plt; have r6 := h611.out.glt; have hC13 := Lib.hid ((hC11.out.below b12).other (g' := gw) (by omega) (by omega) q0 (.int .i64 y)); have h513 := Lib.hid ((h511.out.below b12).other (g' := gw) (by omega) (by omega) q0 (.int .i64 y)); have h613 := Lib.hid ((h611.out.below b12).other (g' := gw) (by omega) (by omega) q0 (.int .i64 y)); have B13 := (below_step B11 b12).setCell (p := ⟨gw, q0, none⟩) (Nat.le_trans B11.size hgw) (.int .i64 y); clear hown12 hg12 hb12 hw0 r1 r2 r3 r4 r5 r6)
        | (go_at_call 17; refine (Until_any _ _ _ _ _ _ _ _ _ h610.out HNN.out HOX.out.2.2).mono ?_; rw [HF.out.2.2.2.2]; rintro e w11 ⟨rfl, h, k11⟩; have h611 := Lib.hid h; clear h; have hC11 := Lib.hid (hC10.out.keeps k11 HD.out.1.2.2.1 HD.out.1.2.2.2); have h511 := Lib.hid (h510.out.keeps k11 HD.out.2.1.2.2.1 HD.out.2.1.2.2.2); have hB11 := Lib.hid (hB10.out.keeps k11 HD.out.2.2.2.1.2.2); have B11 := B10.trans (k11.below HD.out.2.2.2.2.2.2 B10.size))
        | (go_at_call 17; refine (Until_any _ _ _ _ _ _ _ _ _ h69.out HNN.out HOX.out.1).mono ?_; rw [HF.out.2.2.2.1]; rintro e w10 ⟨rfl, h, k10⟩; have h610 := Lib.hid h; clear h; have hC10 := Lib.hid (hC9.out.keeps k10 HD.out.1.2.2.1 HD.out.1.2.2.2); have h510 := Lib.hid (h59.out.keeps k10 HD.out.2.1.2.2.1 HD.out.2.1.2.2.2); have hB10 := Lib.hid (hB9.out.keeps k10 HD.out.2.2.2.1.2.2); have B10 := B9.trans (k10.below HD.out.2.2.2.2.2.2 B9.size))
        | (go_at_call 14; refine (Tick_any _ _ _ _ _ _ _ _ _ h58.out HNN.out HOX.out.1).mono ?_; rw [HF.out.2.2.1]; rintro e w9 ⟨rfl, h, k9⟩; have h59 := Lib.hid h; clear h; have hC9 := Lib.hid (hC8.out.keeps k9 HD.out.1.1 HD.out.1.2.1); have h69 := Lib.hid (h68.out.keeps k9 HD.out.2.2.1.2.2.1 HD.out.2.2.1.2.2.2); have hB9 := Lib.hid (hB8.out.keeps k9 HD.out.2.2.2.1.2.1); have B9 := B8.trans (k9.below HD.out.2.2.2.2.2.1 B8.size))
        | (go_at_call 14; refine (Tick_any _ _ _ _ _ _ _ _ _ hC7.out HNN.out HOX.out.2.1).mono ?_; rw [HF.out.2.1]; rintro e w8 ⟨rfl, h, k8⟩; have hC8 := Lib.hid h; clear h; have h58 := Lib.hid (h57.out.keeps k8 HD.out.2.1.1 HD.out.2.1.2.1); have h68 := Lib.hid (h67.out.keeps k8 HD.out.2.2.1.1 HD.out.2.2.1.2.1); have hB8 := Lib.hid (hB7.out.keeps k8 HD.out.2.2.2.1.1); have B8 := B7.trans (k8.below HD.out.2.2.2.2.1 B7.size))
        | (go_at_call 14; refine (Tick_any _ _ _ _ _ _ _ _ _ hC6.out HNN.out HOX.out.1).mono ?_; rw [HF.out.1]; rintro e w7 ⟨rfl, h, k7⟩; have hC7 := Lib.hid h; clear h; have h57 := Lib.hid (h56.out.keeps k7 HD.out.2.1.1 HD.out.2.1.2.1); have h67 := Lib.hid (h6.out.keeps k7 HD.out.2.2.1.1 HD.out.2.2.1.2.1); have hB7 := Lib.hid (hB6.out.keeps k7 HD.out.2.2.2.1.1); have B7 := B6.trans (k7.below HD.out.2.2.2.2.1 B6.size))
        | (go_at_call 16; refine (Load_any _ _ _ xs _ (by exact hB5.out) HNK.out.1 HOX.out.1).mono ?_; rintro e w6 ⟨p2, g2, cc2, rfl, h6, k6⟩; have hC6 := Lib.hid (hC5.out.below k6); have h56 := Lib.hid (h5.out.below k6); have hB6 := Lib.hid (hB5.out.below k6 (Nat.le_refl _)); have h6 := Lib.hid h6; have B6 := below_step B5 k6; have HD : Hid ((p ≠ g1 ∧ g ≠ g1 ∧ p ≠ g2 ∧ g ≠ g2) ∧ (p1 ≠ g ∧ g1 ≠ g ∧ p1 ≠ g2 ∧ g1 ≠ g2) ∧ (p2 ≠ g ∧ g2 ≠ g ∧ p2 ≠ g1 ∧ g2 ≠ g1) ∧ (gb ≠ g ∧ gb ≠ g1 ∧ gb ≠ g2) ∧ w.heap.size ≤ g ∧ w.heap.size ≤ g1 ∧ w.heap.size ≤ g2) := (by have q1 := hC4.out.plt; have q2 := hC4.out.glt; have q3 := h5.out.bp; have q4 := h5.out.bg; have q5 := h5.out.plt; have q6 := h5.out.glt; have q7 := h6.out.bp; have q8 := h6.out.bg; have q9 := HB4.out.2; have q10 := B4.size; have q11 := B5.size; have q12 := HG.out.2; have q13 := HC.out.glt; have q14 := k5.size; exact Lib.hid ⟨by omega, by omega, by omega, by omega, by omega, by omega, by omega⟩))
        | (go_at_call 16; refine (Load_any _ _ _ xs _ (by exact HB4.out.1) HNK.out.1 HOX.out.1).mono ?_; rintro e w5 ⟨p1, g1, cc1, rfl, h5, k5⟩; have hC5 := Lib.hid (hC4.out.below k5); have hB5 := Lib.hid (HB4.out.1.below k5 (Nat.le_refl _)); have h5 := Lib.hid h5; have B5 := below_step B4 k5)
        | (go_at_call 15; refine (All_any _ _ _ _ _ _ _ HC.out HNN.out).mono ?_; rintro e w4 ⟨A4, c4, rfl, o4, k4⟩; obtain ⟨gb, c4', hA4, hgb⟩ := own_addrK o4 HNK.out.1.1; cases hA4; have HB4 := Lib.hid (And.intro (sees_own o4) (own_glt o4)); have hC4 := Lib.hid (HC.out.below k4); have B4 := below_step BR k4; clear o4))
      go_ret
      exact ⟨rfl, B19⟩
end Go.Proofs.Ytllbcohfelgamaa
