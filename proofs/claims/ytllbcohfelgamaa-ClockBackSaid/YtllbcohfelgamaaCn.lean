/- Walks: ClockBack. -/
import Derived.Test.YtllbcohfelgamaaProg
import Derived.Test.YtllbcohfelgamaaCm
import Derived.BigQuiet
namespace Go.Proofs.Ytllbcohfelgamaa
open Go.RowKit
set_option linter.unusedVariables false

theorem drop_head {st : List (Int × Int)} {i : Nat} {a : Int × Int} {r : List (Int × Int)} (h : st.drop i = a :: r) : st.getD i (0, 0) = a ∧ st.drop (i + 1) = r ∧ i < st.length := by
  have hi : i < st.length := by
    rcases Nat.lt_or_ge i st.length with h' | h'
    · exact h'
    · rw [List.drop_eq_nil_of_le h'] at h; cases h
  rw [List.drop_eq_getElem_cons hi] at h
  injection h with h1 h2
  exact ⟨by simp [List.getD_eq_getElem?_getD, hi, h1], h2, hi⟩

set_option maxRecDepth 20000 in
set_option maxHeartbeats 6400000 in
theorem ClockBack_any (n8 : Nat) (A : Option Addr) (m c : Nat) (l : List Int) (w : World) (hn8 : n8 < 256) (h : Sees w 1 A m c (l.map (Value.int .u32))) (hl : U32 l) :
    Calls Try.prog 8 #[.int .u8 (n8 : Int), .slice A m c] w fun e w' => e = .returned (.bool true) ∧ Below w.heap.size w w' := by
  obtain ⟨N, hN, hN1, hN2⟩ : ∃ N : Nat, 1 + (n8 : Int) % 64 = (N : Int) ∧ 1 ≤ N ∧ N ≤ 64 := ⟨1 + n8 % 64, by omega, by omega, by omega⟩
  have HNK := Lib.hid (And.intro hN1 hN2)
  have hN3 : (N : Int) ≤ 64 := by omega
  have hN4 : (N : Int) ≠ 0 := by omega
  have HL := Lib.hid hl
  clear hN1 hN2 hl
  go_enter Try.func8, Try.ntmps8
  go_wp2_with (first
    | (at_make; refine wpList_mkF E_int rfl _ _ rfl N rfl rfl (by rfl) (by rfl) (by omega) (by simp [maxLen]; omega) ?_; intro w7 hown7 hg7 hb7)
    | (go_at_call 18; refine (SameInts_any _ _ _ _ _ _ ds ds _ (by exact (HO4.out).below b5 (Nat.le_refl _)) (by exact (sees_own HO.out.2).below (below_step (below_step b3 b4) b5) (Nat.le_refl _))).mono ?_; rw [eqL_self]; rintro e w6 ⟨rfl, b6⟩)
    | (go_at_call 12; refine (New_any N _ HNK.out).mono ?_; rintro e w5 ⟨p, g, c0, rfl, h5, b5⟩; have h5 := Lib.hid h5)
    | (go_at_call 24; refine (Deltas_any (N : Int) _ _ _ st _ (by exact HO3.out) (by have := HK.out; omega)).mono ?_; rw [HE.out.2.1]; rintro e w4 ⟨A4, c4, m4, rfl, o4, b4⟩; obtain rfl : k = m4 := (by have h1 : (((cs.zip ds).map (·.2)).map (Value.int .i64)).length = m4 * 1 := o4.1; rw [List.length_map, List.length_map, HE.out.2.2.2.2.1] at h1; omega); rw [HE.out.2.2.1] at o4; have HO4 := Lib.hid (sees_own o4); clear o4)
    | (go_at_call 23; refine (Stamps_any (N : Int) _ _ _ _ _ _ cs ds _ (by exact sees_own HO.out.1) (by exact sees_own HO.out.2) (by have := HK.out; omega)).mono ?_; rw [HE.out.1]; rintro e w3 ⟨A3, c3, m3, rfl, o3, b3⟩; obtain rfl : k = m3 := (by have h1 : (flat st).length = m3 * 2 := o3.1; rw [flat_len] at h1; have := HE.out.2.2.2.1; omega); have HO3 := Lib.hid (sees_own o3); clear o3)
    | (go_at_call 13; refine (made_any N _ _ _ l _ (by exact h.below b1 (Nat.le_refl _)) HL.out HNK.out).mono ?_; rintro e w2 ⟨A1, c1, A2, c2, k, rfl, o1, o2, hk1, hk2, hk3, b2⟩; have hgd := made_good (N := N) HNK.out.1 (HL.out.take k); have l1 : (mC (N : Int) (l.take k)).length = k := (by simp [mC]; omega); have l2 : (mD (l.take k)).length = k := (by simp [mD]; omega); obtain ⟨cs, hcs⟩ : ∃ cs, mC (N : Int) (l.take k) = cs := ⟨_, rfl⟩; obtain ⟨ds, hds⟩ : ∃ ds, mD (l.take k) = ds := ⟨_, rfl⟩; rw [hcs] at o1 l1 hgd; rw [hds] at o2 l2 hgd; have t1 := each_tick HNK.out (cs := cs) (ds := ds) (by omega) (by omega) hgd; have t2 := each_until HNK.out (ps := cs.zip ds) (by simp; omega) hgd; obtain ⟨st, hst⟩ : ∃ st, stOf (cs.zip ds) (List.replicate N 0) = st := ⟨_, rfl⟩; rw [hst] at t1 t2; have hsl : st.length = k := (by rw [← hst, stOf_len]; simp; omega); have HO := Lib.hid (And.intro o1 o2); have HK := Lib.hid (And.intro hk1 hk2); have HE := Lib.hid (And.intro t1 (And.intro t2 (And.intro (zip_snd cs ds (by omega)) (And.intro hsl (And.intro (show (cs.zip ds).length = k by simp; omega) (And.intro hgd (And.intro hst (And.intro l1 l2)))))))); clear o1 o2 hk1 hk2 hk3 hgd l1 l2 hcs hds t1 t2 hst hsl)
    | (go_at_call 11; refine (awake_any _).mono ?_; rintro e w1 ⟨rfl, b1⟩))
  have BW4 := below_step (below_step (below_step b1 b2) b3) b4
  have B47 := below_step (below_step b5 b6) hb7
  have HB47 := Lib.hid B47.size
  have hcs4 := Lib.hid ((sees_own HO.out.1).below (below_step b3 b4) (Nat.le_refl _))
  have hds4 := Lib.hid ((sees_own HO.out.2).below (below_step b3 b4) (Nat.le_refl _))
  have hst4 := Lib.hid (HO3.out.below b4 (Nat.le_refl _))
  have h7 := Lib.hid (h5.out.below (below_step b6 hb7))
  have z1 := h5.out.bg
  have z2 := h5.out.glt
  have z3 := h5.out.bp
  have z4 := h5.out.plt
  have z5 := b6.size
  have z6 := hb7.size
  have z7 := own_glt hown7
  obtain ⟨GL, hGL⟩ : ∃ G, w6.heap.size = G := ⟨_, rfl⟩
  rw [hGL] at hown7 z5 z6 z7 ⊢
  have HZ : Hid (w4.heap.size ≤ g ∧ g < GL ∧ w4.heap.size ≤ p ∧ p < GL ∧ w4.heap.size ≤ GL ∧ GL < w7.heap.size ∧ w.heap.size ≤ w4.heap.size) := Lib.hid ⟨z1, by omega, z3, by omega, by omega, z7, BW4.size⟩
  have hkk : (k : Int) ≤ 100 := by have := HK.out; omega
  clear z1 z2 z3 z4 z5 z6 z7 hGL b1 b2 b3 b4 b5 b6 hb7 hg7 h5 HO HO3 HO4 h
  go_loopw [72] (fun iv wr => ∃ (i : Nat) (xs : List Int), Hid (i ≤ k) ∧ iv = .int .i64 (i : Int) ∧ Hid (Clk wr w4.heap.size p g c0 N xs ∧ Upto (33554428 * (i : Int)) xs ∧ xs.length = N ∧ st.drop i = stOf ((cs.zip ds).drop i) xs) ∧ wr.ownsRow GL 3 1 (.slice (some ⟨GL, 0, none⟩) N N) N (xs.map (Value.int .i64)) ∧ Below w4.heap.size w7 wr) (fun iv _ => k - (intOf iv).toNat)
  case atStart => exact ⟨0, List.replicate N 0, Lib.hid (Nat.zero_le _), rfl, Lib.hid ⟨h7.out, fun x hx => by rw [List.eq_of_mem_replicate hx]; decide, by simp, HE.out.2.2.2.2.2.2.1.symm⟩, hown7, Below.refl _ _⟩
  case round =>
    obtain ⟨i, xs, HI, rfl, HX, ol, hbl⟩ := hrel
    have B4r := B47.trans hbl
    by_cases hlt : i < k
    · have hz := zip_drop (cs := cs) (ls := ds) (k := i) (by rw [HE.out.2.2.2.2.2.2.2.1]; exact hlt) (by rw [HE.out.2.2.2.2.2.2.2.2]; exact hlt)
      have hgd : (0 ≤ cs.getD i 0 ∧ cs.getD i 0 < (N : Int)) ∧ 0 ≤ ds.getD i 0 ∧ ds.getD i 0 ≤ 33554428 := HE.out.2.2.2.2.2.1 (cs.getD i 0, ds.getD i 0) (List.mem_of_mem_drop (i := i) (by rw [hz]; simp))
      obtain ⟨ba, oa, hA1, g1⟩ := (hcs4.out.below B4r (Nat.le_refl _)).int hlt
      obtain ⟨bb, ob, hA2, g2⟩ := (hds4.out.below B4r (Nat.le_refl _)).int hlt
      obtain ⟨b3', o3', hA3, e1, e2⟩ := (hst4.out.below B4r (Nat.le_refl _)).stamp hlt
      obtain ⟨b1', o1', hB1, gg1⟩ := hcs4.out.int hlt
      obtain ⟨b2', o2', hB2, gg2⟩ := hds4.out.int hlt
      cases hA1
      cases hA2
      cases hA3
      cases hB1
      cases hB2
      have u1 := World.block_lt_of_cell? _ _ gg1
      have u2 := World.block_lt_of_cell? _ _ gg2
      clear gg1 gg2
      obtain ⟨d, hd⟩ : ∃ x, ds.getD i 0 = x := ⟨_, rfl⟩
      obtain ⟨q, hq⟩ : ∃ q : Nat, cs.getD i 0 = (q : Int) := ⟨(cs.getD i 0).toNat, by omega⟩
      rw [hq, hd] at hz hgd
      rw [hq] at g1
      rw [hd] at g2
      have hqN : Hid (q < N) := Lib.hid (by omega)
      have hstd := HX.out.2.2.2
      rw [hz, stOf, Int.toNat_natCast] at hstd
      obtain ⟨x0, hx0⟩ : ∃ x0, xs.getD q 0 = x0 := ⟨_, rfl⟩
      have hxb := HX.out.2.1.at_ (k := q) (by have := HX.out.2.2.1; have := hqN.out; omega)
      rw [hx0] at hstd hxb
      obtain ⟨v, hv⟩ : ∃ v, x0 + d = v := ⟨_, rfl⟩
      rw [hv] at hstd
      obtain ⟨f1, f2, -⟩ := drop_head hstd
      rw [f1] at e1 e2
      have ht := tick_at (xs := xs) (k := q) (v := x0) (d := d) (y := v) (by have := HX.out.2.2.1; have := hqN.out; omega) hx0 hgd.2.1 hv (by have := HK.out; omega)
      have hup := HX.out.2.1.set q (v := v) (by omega)
      have HT1 := Lib.hid ht
      have HT2 := Lib.hid hup
      have HX0 := Lib.hid hx0
      have HDR := Lib.hid f2
      have hvx : v - x0 = d := by omega
      have hvlt : decide (v < x0) = false := by simp; omega
      have hx3 : 0 ≤ x0 ∧ x0 ≤ 4000000000 := by have := HK.out; omega
      have hd3 : 0 ≤ d ∧ d ≤ 33554428 := hgd.2
      have hv3 : 0 ≤ v ∧ v ≤ 5000000000 := by omega
      have hq3 : (q : Int) < (N : Int) := by omega
      have d1 : decide ((i : Int) < (k : Int)) = true := by simp; omega
      have hj2 : (i : Int) < (k : Int) := by omega
      have hj3 : (i : Int) ≤ 99 := by omega
      have HLT := Lib.hid hlt
      have HGL : Hid (GL ≠ p ∧ GL ≠ g) := Lib.hid (by have := HZ.out; omega)
      have HGLB : Hid (w4.heap.size ≤ GL) := Lib.hid HZ.out.2.2.2.2.1
      have HGG : Hid (g < GL) := Lib.hid HZ.out.2.1
      have HGB : Hid (w4.heap.size ≤ g) := Lib.hid HZ.out.1
      have hsz := HX.out.1.glt
      clear hlt hz hgd hq hd hstd hx0 hxb hv f1 f2 ht hup
      go_wp2_with fail
      have HC8 := Lib.hid (HX.out.1.below ((Below.refl wr.heap.size wr).alloc (Nat.le_refl _) (.cells #[.int .i64 (q : Int), .int .i64 v] 52)))
      have ol8 := ol.alloc (.cells #[.int .i64 (q : Int), .int .i64 v] 52)
      have B8 := hbl.alloc (Nat.le_trans B47.size hbl.size) (.cells #[.int .i64 (q : Int), .int .i64 v] 52)
      have HS8 := Lib.hid (heap_alloc_new wr (.cells #[.int .i64 (q : Int), .int .i64 v] 52))
      have HGS : Hid (wr.heap.size < (wr.alloc (.cells #[.int .i64 (q : Int), .int .i64 v] 52)).heap.size ∧ wr.heap.size ≠ g ∧ True) := Lib.hid ⟨by simp, by omega, trivial⟩
      have HBA : Hid (ba < (wr.alloc (.cells #[.int .i64 (q : Int), .int .i64 v] 52)).heap.size ∧ ba ≠ g ∧ bb < (wr.alloc (.cells #[.int .i64 (q : Int), .int .i64 v] 52)).heap.size ∧ bb ≠ g) := Lib.hid (by have := HGB.out; have := B4r.size; simp; omega)
      replace g1 := (World.cell?_of_block (w := wr) (w' := wr.alloc (.cells #[.int .i64 (q : Int), .int .i64 v] 52)) (a := ⟨ba, oa + i, none⟩) (Below.heap_alloc _ _ _ (by have := B4r.size; simp; omega))).trans g1
      replace g2 := (World.cell?_of_block (w := wr) (w' := wr.alloc (.cells #[.int .i64 (q : Int), .int .i64 v] 52)) (a := ⟨bb, ob + i, none⟩) (Below.heap_alloc _ _ _ (by have := B4r.size; simp; omega))).trans g2
      clear e1 e2 ol hbl B4r u1 u2 hsz
      generalize wr.alloc (.cells #[.int .i64 (q : Int), .int .i64 v] 52) = w8 at HC8 ol8 B8 HS8 HGS HBA g1 g2 ⊢
      generalize wr.heap.size = gS at HS8 HGS ⊢
      refine wp_region_any (by kernel_rfl) ?_
      change wpAny _ _ _ _ _ _ _ (World.drew _)
      refine wpAny_take (i := 0) (v := (.pointer (some ⟨p, 0, none⟩))) rfl (by kernel_rfl) (by kernel_rfl) (by kernel_rfl) (fun _ _ _ h => h) (Or.inl ⟨by rfl, fun w => by go_simp⟩) ?_
      simp only [Act.put, List.getElem_toArray, List.getElem_cons_succ, List.getElem_cons_zero, List.setIfInBounds_toArray, List.set_cons_succ, List.set_cons_zero]
      refine wpAny_take (i := 1) (v := (.slice (some ⟨ba, oa, none⟩) k c1)) rfl (by kernel_rfl) (by kernel_rfl) (by kernel_rfl) (fun _ _ _ h => h) (Or.inl ⟨by rfl, fun w => by go_simp⟩) ?_
      simp only [Act.put, List.getElem_toArray, List.getElem_cons_succ, List.getElem_cons_zero, List.setIfInBounds_toArray, List.set_cons_succ, List.set_cons_zero]
      refine wpAny_take (i := 2) (v := (.int .i64 (i : Int))) rfl (by kernel_rfl) (by kernel_rfl) (by kernel_rfl) (fun _ _ _ h => h) (Or.inl ⟨by rfl, fun w => by go_simp⟩) ?_
      simp only [Act.put, List.getElem_toArray, List.getElem_cons_succ, List.getElem_cons_zero, List.setIfInBounds_toArray, List.set_cons_succ, List.set_cons_zero]
      refine wpAny_take (i := 3) (v := (.pointer (some ⟨ba, oa + i, none⟩))) rfl (by kernel_rfl) (by kernel_rfl) (by kernel_rfl) (fun _ _ _ h => h) (Or.inl ⟨by rfl, fun w => by go_simp⟩) ?_
      simp only [Act.put, List.getElem_toArray, List.getElem_cons_succ, List.getElem_cons_zero, List.setIfInBounds_toArray, List.set_cons_succ, List.set_cons_zero]
      refine wpAny_take (i := 5) (v := (.slice (some ⟨bb, ob, none⟩) k c2)) rfl (by kernel_rfl) (by kernel_rfl) (by kernel_rfl) (fun _ _ _ h => h) (Or.inl ⟨by rfl, fun w => by go_simp⟩) ?_
      simp only [Act.put, List.getElem_toArray, List.getElem_cons_succ, List.getElem_cons_zero, List.setIfInBounds_toArray, List.set_cons_succ, List.set_cons_zero]
      refine wpAny_take (i := 6) (v := (.int .i64 (i : Int))) rfl (by kernel_rfl) (by kernel_rfl) (by kernel_rfl) (fun _ _ _ h => h) (Or.inl ⟨by rfl, fun w => by go_simp⟩) ?_
      simp only [Act.put, List.getElem_toArray, List.getElem_cons_succ, List.getElem_cons_zero, List.setIfInBounds_toArray, List.set_cons_succ, List.set_cons_zero]
      refine wpAny_take (i := 7) (v := (.pointer (some ⟨bb, ob + i, none⟩))) rfl (by kernel_rfl) (by kernel_rfl) (by kernel_rfl) (fun _ _ _ h => h) (Or.inl ⟨by rfl, fun w => by go_simp⟩) ?_
      simp only [Act.put, List.getElem_toArray, List.getElem_cons_succ, List.getElem_cons_zero, List.setIfInBounds_toArray, List.set_cons_succ, List.set_cons_zero]
      refine wpAny_ready (rs := [4, 8]) (by kernel_rfl) (by simp) ?_
      refine AllReady.cons rfl (fun K hK => ?_) (AllReady.cons rfl (fun K hK => ?_) AllReady.nil)
      · go_simp
        refine hK _ _ ?_
        try simp only [Act.put, List.getElem_toArray, List.getElem_cons_succ, List.getElem_cons_zero, List.setIfInBounds_toArray, List.set_cons_succ, List.set_cons_zero]
        refine wpAny_ready (rs := [8]) (by kernel_rfl) (by simp) ?_
        refine AllReady.cons rfl (fun K hK => ?_) AllReady.nil
        go_simp
        refine hK _ _ ?_
        try simp only [Act.put, List.getElem_toArray, List.getElem_cons_succ, List.getElem_cons_zero, List.setIfInBounds_toArray, List.set_cons_succ, List.set_cons_zero]
        refine wpAny_ready (rs := [9]) (by kernel_rfl) (by simp) ?_
        refine AllReady.cons rfl (fun K hK => ?_) AllReady.nil
        go_simp
        refine (Tick_any _ _ _ _ _ _ _ _ _ (HC8.out.below ((Below.refl _ _).drew)) (by have := HNK.out; omega) (HX.out.2.1.okT (by have := HK.out; have := HLT.out; omega))).mono ?_
        rw [HT1.out]
        rintro e w9 ⟨rfl, h9, k9⟩
        have HC9 := Lib.hid h9
        have k89 := (Keeps.of_below ((Below.refl w8.heap.size w8).drew)).trans k9
        clear k9 h9
        refine hK _ _ ?_
        try simp only [Act.put, List.getElem_toArray, List.getElem_cons_succ, List.getElem_cons_zero, List.setIfInBounds_toArray, List.set_cons_succ, List.set_cons_zero]
        refine wpAny_take (i := 10) (v := (.tuple #[.int .i64 v, .int .i64 0])) rfl (by kernel_rfl) (by kernel_rfl) (by kernel_rfl) (fun _ _ _ h => h) (Or.inl ⟨by rfl, fun w => by go_simp⟩) ?_
        simp only [Act.put, List.getElem_toArray, List.getElem_cons_succ, List.getElem_cons_zero, List.setIfInBounds_toArray, List.set_cons_succ, List.set_cons_zero]
        refine wpAny_take (i := 11) (v := (.int .i64 v)) rfl (by kernel_rfl) (by kernel_rfl) (by kernel_rfl) (fun _ _ _ h => h) (Or.inl ⟨by rfl, fun w => by go_simp⟩) ?_
        simp only [Act.put, List.getElem_toArray, List.getElem_cons_succ, List.getElem_cons_zero, List.setIfInBounds_toArray, List.set_cons_succ, List.set_cons_zero]
        refine wpAny_take (i := 12) (v := (.int .i64 0)) rfl (by kernel_rfl) (by kernel_rfl) (by kernel_rfl) (fun _ _ _ h => h) (Or.inl ⟨by rfl, fun w => by go_simp⟩) ?_
        simp only [Act.put, List.getElem_toArray, List.getElem_cons_succ, List.getElem_cons_zero, List.setIfInBounds_toArray, List.set_cons_succ, List.set_cons_zero]
        refine wpAny_take (i := 13) (v := (.int .i64 v)) rfl (by kernel_rfl) (by kernel_rfl) (by kernel_rfl) (fun _ _ _ h => h) (Or.inl ⟨by rfl, fun w => by go_simp⟩) ?_
        simp only [Act.put, List.getElem_toArray, List.getElem_cons_succ, List.getElem_cons_zero, List.setIfInBounds_toArray, List.set_cons_succ, List.set_cons_zero]
        refine wpAny_take (i := 14) (v := (.int .i64 0)) rfl (by kernel_rfl) (by kernel_rfl) (by kernel_rfl) (fun _ _ _ h => h) (Or.inl ⟨by rfl, fun w => by go_simp⟩) ?_
        simp only [Act.put, List.getElem_toArray, List.getElem_cons_succ, List.getElem_cons_zero, List.setIfInBounds_toArray, List.set_cons_succ, List.set_cons_zero]
        refine wpAny_done (by kernel_rfl) ?_ _
        have S0 : w9.cell? ⟨gS, 0, none⟩ = some (.int .i64 (q : Int)) := cell_zero ((k89.block gS HGS.out.1 HGS.out.2.1).trans HS8.out)
        have S1 : w9.cell? ⟨gS, 1, none⟩ = some (.int .i64 v) := cell_one ((k89.block gS HGS.out.1 HGS.out.2.1).trans HS8.out)
        have c9 := (World.cell?_of_block (a := ⟨ba, oa + i, none⟩) (k89.block ba HBA.out.1 HBA.out.2.1)).trans g1
        have e9 := (World.cell?_of_block (a := ⟨bb, ob + i, none⟩) (k89.block bb HBA.out.2.2.1 HBA.out.2.2.2)).trans g2
        have ol9 := own_keeps ol8 k89 HGG.out
        have l9 := (own_cellK ol9 hqN.out).1
        rw [HX0.out] at l9
        have B9 := B8.trans (k89.below HGB.out (Nat.le_trans HB47.out B8.size))
        clear g1 g2 k89
        go_wp2_with fail
        go_quiet (fail)
        have S0' := S0
        have ol10 := own_below ol9 (below_drewN (Below.refl w9.heap.size w9) nq) (Nat.le_refl _)
        have HC10 := Lib.hid (HC9.out.below (below_drewN (Below.refl w9.heap.size w9) nq))
        have B10 := below_drewN B9 nq
        have T0 : (w9.drewN nq).cell? ⟨gS, 0, none⟩ = some (.int .i64 (q : Int)) := S0
        have T1 : (w9.drewN nq).cell? ⟨gS, 1, none⟩ = some (.int .i64 v) := S1
        clear S0 S1 S0' c9 e9 l9 ol9 B9 HC9
        generalize w9.drewN nq = w10 at ol10 HC10 B10 T0 T1 ⊢
        obtain ⟨q1, q2⟩ := own_cellK ol10 hqN.out
        have hset := own_setK ol10 q v
        go_wp2
        go_roundw
        case rel => exact ⟨i + 1, xs.set q v, Lib.hid HLT.out, by go_num, Lib.hid ⟨HC10.out.other HGL.out.1 HGL.out.2 q (.int .i64 v), by have := HT2.out; rw [show (33554428 * ((i + 1 : Nat) : Int)) = 33554428 * (i : Int) + 33554428 by omega]; exact this, by simp [HX.out.2.2.1], HDR.out⟩, hset, B10.setCell HGLB.out _⟩
        case measure => have := HLT.out; simp [intOf]; omega
      · go_simp
        refine hK _ _ ?_
        try simp only [Act.put, List.getElem_toArray, List.getElem_cons_succ, List.getElem_cons_zero, List.setIfInBounds_toArray, List.set_cons_succ, List.set_cons_zero]
        refine wpAny_ready (rs := [4]) (by kernel_rfl) (by simp) ?_
        refine AllReady.cons rfl (fun K hK => ?_) AllReady.nil
        go_simp
        refine hK _ _ ?_
        try simp only [Act.put, List.getElem_toArray, List.getElem_cons_succ, List.getElem_cons_zero, List.setIfInBounds_toArray, List.set_cons_succ, List.set_cons_zero]
        refine wpAny_ready (rs := [9]) (by kernel_rfl) (by simp) ?_
        refine AllReady.cons rfl (fun K hK => ?_) AllReady.nil
        go_simp
        refine (Tick_any _ _ _ _ _ _ _ _ _ (HC8.out.below ((Below.refl _ _).drew)) (by have := HNK.out; omega) (HX.out.2.1.okT (by have := HK.out; have := HLT.out; omega))).mono ?_
        rw [HT1.out]
        rintro e w9 ⟨rfl, h9, k9⟩
        have HC9 := Lib.hid h9
        have k89 := (Keeps.of_below ((Below.refl w8.heap.size w8).drew)).trans k9
        clear k9 h9
        refine hK _ _ ?_
        try simp only [Act.put, List.getElem_toArray, List.getElem_cons_succ, List.getElem_cons_zero, List.setIfInBounds_toArray, List.set_cons_succ, List.set_cons_zero]
        refine wpAny_take (i := 10) (v := (.tuple #[.int .i64 v, .int .i64 0])) rfl (by kernel_rfl) (by kernel_rfl) (by kernel_rfl) (fun _ _ _ h => h) (Or.inl ⟨by rfl, fun w => by go_simp⟩) ?_
        simp only [Act.put, List.getElem_toArray, List.getElem_cons_succ, List.getElem_cons_zero, List.setIfInBounds_toArray, List.set_cons_succ, List.set_cons_zero]
        refine wpAny_take (i := 11) (v := (.int .i64 v)) rfl (by kernel_rfl) (by kernel_rfl) (by kernel_rfl) (fun _ _ _ h => h) (Or.inl ⟨by rfl, fun w => by go_simp⟩) ?_
        simp only [Act.put, List.getElem_toArray, List.getElem_cons_succ, List.getElem_cons_zero, List.setIfInBounds_toArray, List.set_cons_succ, List.set_cons_zero]
        refine wpAny_take (i := 12) (v := (.int .i64 0)) rfl (by kernel_rfl) (by kernel_rfl) (by kernel_rfl) (fun _ _ _ h => h) (Or.inl ⟨by rfl, fun w => by go_simp⟩) ?_
        simp only [Act.put, List.getElem_toArray, List.getElem_cons_succ, List.getElem_cons_zero, List.setIfInBounds_toArray, List.set_cons_succ, List.set_cons_zero]
        refine wpAny_take (i := 13) (v := (.int .i64 v)) rfl (by kernel_rfl) (by kernel_rfl) (by kernel_rfl) (fun _ _ _ h => h) (Or.inl ⟨by rfl, fun w => by go_simp⟩) ?_
        simp only [Act.put, List.getElem_toArray, List.getElem_cons_succ, List.getElem_cons_zero, List.setIfInBounds_toArray, List.set_cons_succ, List.set_cons_zero]
        refine wpAny_take (i := 14) (v := (.int .i64 0)) rfl (by kernel_rfl) (by kernel_rfl) (by kernel_rfl) (fun _ _ _ h => h) (Or.inl ⟨by rfl, fun w => by go_simp⟩) ?_
        simp only [Act.put, List.getElem_toArray, List.getElem_cons_succ, List.getElem_cons_zero, List.setIfInBounds_toArray, List.set_cons_succ, List.set_cons_zero]
        refine wpAny_done (by kernel_rfl) ?_ _
        have S0 : w9.cell? ⟨gS, 0, none⟩ = some (.int .i64 (q : Int)) := cell_zero ((k89.block gS HGS.out.1 HGS.out.2.1).trans HS8.out)
        have S1 : w9.cell? ⟨gS, 1, none⟩ = some (.int .i64 v) := cell_one ((k89.block gS HGS.out.1 HGS.out.2.1).trans HS8.out)
        have c9 := (World.cell?_of_block (a := ⟨ba, oa + i, none⟩) (k89.block ba HBA.out.1 HBA.out.2.1)).trans g1
        have e9 := (World.cell?_of_block (a := ⟨bb, ob + i, none⟩) (k89.block bb HBA.out.2.2.1 HBA.out.2.2.2)).trans g2
        have ol9 := own_keeps ol8 k89 HGG.out
        have l9 := (own_cellK ol9 hqN.out).1
        rw [HX0.out] at l9
        have B9 := B8.trans (k89.below HGB.out (Nat.le_trans HB47.out B8.size))
        clear g1 g2 k89
        go_wp2_with fail
        go_quiet (fail)
        have S0' := S0
        have ol10 := own_below ol9 (below_drewN (Below.refl w9.heap.size w9) nq) (Nat.le_refl _)
        have HC10 := Lib.hid (HC9.out.below (below_drewN (Below.refl w9.heap.size w9) nq))
        have B10 := below_drewN B9 nq
        have T0 : (w9.drewN nq).cell? ⟨gS, 0, none⟩ = some (.int .i64 (q : Int)) := S0
        have T1 : (w9.drewN nq).cell? ⟨gS, 1, none⟩ = some (.int .i64 v) := S1
        clear S0 S1 S0' c9 e9 l9 ol9 B9 HC9
        generalize w9.drewN nq = w10 at ol10 HC10 B10 T0 T1 ⊢
        obtain ⟨q1, q2⟩ := own_cellK ol10 hqN.out
        have hset := own_setK ol10 q v
        go_wp2
        go_roundw
        case rel => exact ⟨i + 1, xs.set q v, Lib.hid HLT.out, by go_num, Lib.hid ⟨HC10.out.other HGL.out.1 HGL.out.2 q (.int .i64 v), by have := HT2.out; rw [show (33554428 * ((i + 1 : Nat) : Int)) = 33554428 * (i : Int) + 33554428 by omega]; exact this, by simp [HX.out.2.2.1], HDR.out⟩, hset, B10.setCell HGLB.out _⟩
        case measure => have := HLT.out; simp [intOf]; omega
    · have d1 : decide ((i : Int) < (k : Int)) = false := by simp; omega
      have d1' : decide (i < k) = false := by simp; omega
      have HC := Lib.hid HX.out.1
      have hNN : Hid (N ≤ 100000) := Lib.hid (by have := HNK.out; omega)
      have BR := BW4.trans (B4r.mono BW4.size)
      have HS := Lib.hid (sees_own ol)
      clear hlt ol hbl B4r
      go_wp2_with (first
        | (go_at_call 18; refine (SameInts_any _ _ _ _ _ _ xs xs _ (by exact o8.out) (by exact HS.out.below k8 (Nat.le_refl _))).mono ?_; rw [eqL_self]; rintro e w9 ⟨rfl, k9⟩)
        | (go_at_call 15; refine (All_any _ _ _ _ _ _ _ HC.out hNN.out).mono ?_; rintro e w8 ⟨A8, c8, rfl, o8, k8⟩; have o8 := Lib.hid (sees_own o8)))
      go_ret
      exact ⟨rfl, below_step (below_step BR k8) k9⟩
end Go.Proofs.Ytllbcohfelgamaa
