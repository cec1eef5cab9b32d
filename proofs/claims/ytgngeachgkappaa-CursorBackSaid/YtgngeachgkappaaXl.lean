/- Walks: CursorBack. -/
import Derived.Test.YtgngeachgkappaaProg
import Derived.Test.YtgngeachgkappaaXk
namespace Go.Proofs.Ytgngeachgkappaa
open Go.RowKit
set_option linter.unusedVariables false

set_option maxRecDepth 20000 in
set_option maxHeartbeats 1600000 in
theorem CursorBack_any (A0 : Option Addr) (n0 c0 a1 a2 : Nat) (zs : List PieceV) (w : World) (h1 : a1 < 65536) (h2 : a2 < 65536) (hz : SeesP w A0 n0 c0 zs) (hg : ∀ z ∈ zs, GoodP w z) :
    Calls Try.prog 3 #[.slice A0 n0 c0, .int .u16 (a1 : Int), .int .u16 (a2 : Int)] w fun e w' => e = .returned (.bool true) ∧ Below w.heap.size w w' := by
  obtain ⟨lim, hlim, hlim2⟩ : ∃ lim : Nat, (a1 : Int) % 2001 = (lim : Int) ∧ lim ≤ 2000 := ⟨a1 % 2001, by omega, by omega⟩
  obtain ⟨m, hm0, hm60, hmin, hmc⟩ := min_is n0 60
  have hmi : (if (60 : Int) < (n0 : Int) then (60 : Int) else (n0 : Int)) = (m : Int) := by split <;> omega
  have hmi' : (if 60 < n0 then (60 : Int) else (n0 : Int)) = (m : Int) := by split <;> omega
  have hcut := fun w => run_cutr E_piece A0 n0 c0 m (Nat.le_trans hm0 (Sees.cap hz)) w
  have HS : Hid (SeesP w A0 m c0 (zs.take m)) := Lib.hid (by
    have hs := Sees.pre hz hm0
    have e : (zs.flatMap pcCells).take (m * 4) = (zs.take m).flatMap pcCells := take_flat4 zs m
    rw [e] at hs
    exact hs)
  have HG : Hid (∀ z ∈ zs.take m, GoodP w z) := Lib.hid (fun z hz => hg z (List.mem_of_mem_take hz))
  generalize zs.take m = ys at HS HG
  have HL := Lib.hid (And.intro hlim2 hm60)
  have HA2 := Lib.hid h2
  clear hz hg hm0 hmin hmc h2
  go_enter Try.func3, Try.ntmps3
  go_wp2_with (first
    | (go_at_call 12; refine (NewWriter_of lim _ (by first | rfl | exact hlim) (by have := HL.out; omega)).mono ?_; rintro e w2 ⟨p, rfl, h2, k2⟩; have HC := Lib.hid (CB.first h2 b1.size (below_step b1 k2)); clear h2 k2)
    | (go_at_call 11; refine (awake_any _).mono ?_; rintro e w1 ⟨rfl, b1⟩))
  clear b1
  generalize hB : some (⟨w2.heap.size, 0, none⟩ : Addr) = B at HC ⊢
  go_loopw [9, 10, 11, 43] (fun kv ev sv iv wr => ∃ (j c ck ce : Nat) (A K E : Option Addr) (ks : List PieceV), Hid (j ≤ m ∧ ks.length ≤ j) ∧ kv = .slice K ks.length ck ∧ ev = .slice E (ks.length + 1) ce ∧ sv = .int .i64 ((allB ks).length : Int) ∧ iv = .int .i64 (j : Int) ∧ Hid (CB w wr p lim A c K ck E ce (allB ks) ks (endsL ks))) (fun _ _ _ iv _ => m - (intOf iv).toNat)
  case atStart => exact ⟨0, 0, 0, 1, none, none, B, [], Lib.hid ⟨Nat.zero_le _, Nat.le_refl _⟩, rfl, rfl, rfl, rfl, HC⟩
  case round =>
    obtain ⟨j, c, ck, ce, A, K, E, ks, HJ, rfl, rfl, rfl, rfl, HCB⟩ := hrel
    clear HC hB
    by_cases hlt : j < m
    · obtain ⟨ba, oa, kd, pm, x, Y, ny, cy, l, hA, hzj, g0, g1, g2, g3⟩ := HS.out.at_ hlt
      cases hA
      replace g0 := below_cellA HCB.out.bel g0
      replace g1 := below_cellA HCB.out.bel g1
      replace g2 := below_cellA HCB.out.bel g2
      replace g3 := below_cellA HCB.out.bel g3
      have hgz := HG.out _ (List.mem_of_getElem? hzj)
      have HGZ := Lib.hid hgz
      have hb2 : ((pcBytes kd pm x l).length : Int) ≤ 30 := by have := hgz.small; simp only [pcB] at this; omega
      have hb1 : ((allB ks).length : Int) ≤ 2000 := by have := HCB.out.wtr.le; have := HL.out; omega
      have HLT := Lib.hid hlt
      have HZB : Hid (∀ W, Below w.heap.size w W → Sees W 1 Y ny cy (l.map (Value.int .u8))) := Lib.hid (fun W hb => hgz.see.below hb (Nat.le_refl _))
      clear hgz hzj
      by_cases hfit : lim < (allB ks).length + (pcBytes kd pm x l).length
      · have HPF := Lib.hid (putF_no hfit)
        have d5 : decide (((allB ks).length : Int) + ((pcBytes kd pm x l).length : Int) ≤ (lim : Int)) = false := by simp; omega
        clear hfit hlt
        go_wp2_with (first
          | (go_at_call 14; refine (LenW_any _ _ _ _ _ _ _ _ HC5.out.wtr).mono ?_; rintro e w6 ⟨rfl, rfl⟩)
          | (go_at_call 13; refine (write_any kd pm x ny cy w.heap.size p (allB ks).length c lim Y A l (allB ks) _ HGZ.out.kd HGZ.out.n HGZ.out.x (HZB.out _ (HCB.out.bel.alloc HCB.out.bel.size _)) (HCB.out.wtr.below ((Below.refl _ _).alloc (Nat.le_refl _) _)) (HCB.out.bel.alloc HCB.out.bel.size _).size).mono ?_; rw [HPF.out]; rintro e w5 ⟨rfl, hd⟩; obtain ⟨A5, c5, hc5⟩ := (HCB.out.below ((Below.refl _ _).alloc (Nat.le_refl _) _)).did hd; have HC5 := Lib.hid hc5; clear hc5 hd))
        go_roundw
        case rel => exact ⟨j + 1, c5, ck, ce, A5, K, E, ks, Lib.hid ⟨HLT.out, by have := HJ.out; omega⟩, rfl, rfl, rfl, by go_num, HC5⟩
        case measure => have := HLT.out; simp [intOf]; omega
      · have HPF := Lib.hid (putF_yes hfit)
        have d5 : decide (((allB ks).length : Int) + ((pcBytes kd pm x l).length : Int) ≤ (lim : Int)) = true := by simp; omega
        have HBX := Lib.hid ((Below.refl wr.heap.size wr).alloc (Nat.le_refl _) (.cells #[.int .u8 (kd : Int), .int .u8 (pm : Int), .int .u64 (x : Int), .slice Y ny cy] 33))
        have hk1 : ks.length ≤ 60 := by have := HJ.out; have := HL.out; omega
        have HK1 := Lib.hid hk1
        have HLN : Hid (((allB (ks ++ [(kd, pm, x, Y, ny, cy, l)])).length : Int) = ((allB ks).length : Int) + ((pcBytes kd pm x l).length : Int)) := Lib.hid (by rw [allB_app, allB_one, List.length_append]; simp [pcB])
        clear hfit hlt hk1
        go_wp2_with (first
          | (go_at_call 14; refine (LenW_any _ _ _ _ _ _ _ _ HC7.out.wtr).mono ?_; rw [HLN.out]; rintro e w8 ⟨rfl, rfl⟩)
          | (at_builtin; have _q := HC6; refine wpList_app E_int rfl _ _ rfl rfl (HC6.out.ends_.alloc _) rfl (Sees.one _ _ _) (one1 rfl) (by have := HK1.out; simp [maxLen]; omega) (by have := HK1.out; omega) (by have := HC6.out.bel.size; simp; omega) ?_; intro E7 c7 w7 o7 g7 k7; have hc7 := (HC6.out.below ((Below.refl _ _).alloc (Nat.le_refl _) _)).next (js := ks) (z := (kd, pm, x, Y, ny, cy, l)) (by show _ = ((allB ks ++ pcBytes kd pm x l).length : Int); rw [List.length_append]; omega) o7 g7 k7; have HC7 := Lib.hid hc7; clear hc7 o7 g7 k7)
          | (at_builtin; refine wpList_app E_piece rfl _ _ rfl rfl (HC5.out.kept.alloc _) rfl (sees_blockP (n := 1) (c := 1) (xs := pcCells (kd, pm, x, Y, ny, cy, l)) (heap_alloc_new _ _) rfl (by decide) (by decide) ⟨[], rfl⟩) (ceP (kd, pm, x, Y, ny, cy, l)) (by have := HK1.out; simp [maxLen]; omega) (by have := HK1.out; omega) (by have := HC5.out.bel.size; simp; omega) ?_; intro K6 c6 w6 o6 g6 k6; have hc6 := (HC5.out.below ((Below.refl _ _).alloc (Nat.le_refl _) _)).keep HGZ.out o6 g6 k6; have HC6 := Lib.hid hc6; clear hc6 o6 g6 k6)
          | (go_at_call 13; refine (write_any kd pm x ny cy w.heap.size p (allB ks).length c lim Y A l (allB ks) _ HGZ.out.kd HGZ.out.n HGZ.out.x (HZB.out _ (HCB.out.bel.alloc HCB.out.bel.size _)) (HCB.out.wtr.below HBX.out) (HCB.out.bel.alloc HCB.out.bel.size _).size).mono ?_; rw [HPF.out]; rintro e w5 ⟨rfl, hd⟩; have hx := HCB.out.box hd; have x0 := hx 0; have x1 := hx 1; have x2 := hx 2; have x3 := hx 3; simp only [List.getElem?_toArray, List.getElem?_cons_zero, List.getElem?_cons_succ] at x0 x1 x2 x3; obtain ⟨A5, c5, hc5⟩ := (HCB.out.below HBX.out).did hd; have HC5 := Lib.hid hc5; clear hc5 hd hx))
        go_roundw
        case rel => exact ⟨j + 1, _, _, _, _, _, _, ks ++ [(kd, pm, x, Y, ny, cy, l)], Lib.hid ⟨HLT.out, by have := HJ.out; rw [List.length_append, List.length_singleton]; omega⟩, by rw [List.length_append, List.length_singleton], by rw [List.length_append, List.length_singleton], by rw [HLN.out], by go_num, HC7⟩
        case measure => have := HLT.out; simp [intOf]; omega
    · obtain rfl : j = m := by have := HJ.out; omega
      clear hlt
      have HN : Hid ((allB ks).length ≤ 2000) := Lib.hid (by have := HCB.out.wtr.le; have := HL.out; omega)
      have hb1 : ((allB ks).length : Int) ≤ 2000 := by have := HN.out; omega
      have HKL : Hid (ks.length ≤ 60) := Lib.hid (by have := HJ.out; have := HL.out; omega)
      have hkl : (ks.length : Int) ≤ 60 := by have := HKL.out; omega
      clear hmi hmi' hcut
      go_wp2_with (first
        | (go_at_call 16; refine (NewReader_any _ _ _ (allB ks) _ O6.out (by have := HN.out; omega)).mono ?_; rintro e w7 ⟨p2, A7, c7, rfl, r7, hp2, k7⟩; have R7 := Lib.hid r7; have B7 := Lib.hid k7; have P2 := Lib.hid hp2; clear r7 k7 hp2)
        | (go_at_call 15; refine (OutW_any _ _ _ _ _ _ _ _ HCB.out.wtr).mono ?_; rintro e w6 ⟨A6, c6, rfl, o6, k6⟩; have O6 := Lib.hid (sees_own o6); have HC6 := Lib.hid (HCB.out.below k6); clear o6 k6))
      have HKP : Hid (SeesP w6 K ks.length ck ks) := Lib.hid (sees_own HC6.out.kept)
      obtain ⟨eb, eo, hE, hec⟩ := ends_cell (sees_own HC6.out.ends_)
      subst hE
      have HE := Lib.hid hec
      have HEB : Hid (eb < w6.heap.size) := Lib.hid (World.block_lt_of_cell? _ _ (hec 0 (Nat.zero_le _)))
      clear hec
      go_loopw [95] (fun iv wq => ∃ (i : Nat), Hid (i ≤ ks.length ∧ Below w6.heap.size w6 wq) ∧ iv = .int .i64 (i : Int) ∧ Hid (Rdr wq p2 A7 (allB ks).length c7 (allB ks) (endAt ks i))) (fun iv _ => ks.length - (intOf iv).toNat)
      case atStart => exact ⟨0, Lib.hid ⟨Nat.zero_le _, B7.out⟩, rfl, Lib.hid (by rw [endAt_zero]; exact R7.out)⟩
      case round =>
        obtain ⟨i, HI, rfl, HR⟩ := hrel
        by_cases hlt : i < ks.length
        · obtain ⟨ba, oa, kd, pm, x, Y, ny, cy, l, hA, hzi, g0, g1, g2, g3⟩ := HKP.out.at_ hlt
          cases hA
          replace g0 := below_cellA HI.out.2 g0
          replace g1 := below_cellA HI.out.2 g1
          replace g2 := below_cellA HI.out.2 g2
          replace g3 := below_cellA HI.out.2 g3
          have HGZ := Lib.hid (HC6.out.good _ (List.mem_of_getElem? hzi))
          have HPW := Lib.hid (piece_whole hzi)
          have HES := Lib.hid (endAt_succ hzi)
          have HLT := Lib.hid hlt
          clear hlt hzi
          have HEN : Hid (endAt ks (i + 1) ≤ (allB ks).length) := Lib.hid (endAt_le _ _)
          have HSB : Hid ((((allB ks).length - endAt ks (i + 1) : Nat) : Int) = ((allB ks).length : Int) - ((endAt ks (i + 1) : Nat) : Int)) := Lib.hid (by have := HEN.out; omega)
          have he1 : ((endAt ks (i + 1) : Nat) : Int) ≤ 2000 := by have := HEN.out; omega
          have hi60 : (i : Int) ≤ 60 := by have := HKL.out; have := HLT.out; omega
          have hi1 : i + 1 < ks.length + 1 := by have := HLT.out; omega
          go_wp2_with fail
          have y0 : (wr.alloc (.cells #[.int .u8 (kd : Int), .int .u8 (pm : Int), .int .u64 (x : Int), .slice Y ny cy] 33)).cell? ⟨wr.heap.size, 0, none⟩ = some (.int .u8 (kd : Int)) := by simp
          have y1 : (wr.alloc (.cells #[.int .u8 (kd : Int), .int .u8 (pm : Int), .int .u64 (x : Int), .slice Y ny cy] 33)).cell? ⟨wr.heap.size, 1, none⟩ = some (.int .u8 (pm : Int)) := by simp
          have y2 : (wr.alloc (.cells #[.int .u8 (kd : Int), .int .u8 (pm : Int), .int .u64 (x : Int), .slice Y ny cy] 33)).cell? ⟨wr.heap.size, 2, none⟩ = some (.int .u64 (x : Int)) := by simp
          have y3 : (wr.alloc (.cells #[.int .u8 (kd : Int), .int .u8 (pm : Int), .int .u64 (x : Int), .slice Y ny cy] 33)).cell? ⟨wr.heap.size, 3, none⟩ = some (.slice Y ny cy) := by simp
          have HBW := Lib.hid (HI.out.2.alloc HI.out.2.size (.cells #[.int .u8 (kd : Int), .int .u8 (pm : Int), .int .u64 (x : Int), .slice Y ny cy] 33))
          have HRW := Lib.hid (HR.out.below ((Below.refl _ _).alloc (Nat.le_refl _) (.cells #[.int .u8 (kd : Int), .int .u8 (pm : Int), .int .u64 (x : Int), .slice Y ny cy] 33)))
          generalize wr.alloc (.cells #[.int .u8 (kd : Int), .int .u8 (pm : Int), .int .u64 (x : Int), .slice Y ny cy] 33) = W at *
          generalize wr.heap.size = gb at *
          have HYW : Hid (Sees W.drew 1 Y ny cy (l.map (Value.int .u8))) := Lib.hid (HGZ.out.see.below ((HC6.out.bel.trans (HBW.out.mono HC6.out.bel.size)).drew) (Nat.le_refl _))
          have HRD := Lib.hid (HRW.out.below (Below.refl W.heap.size W).drew)
          have HBY := Lib.hid (allB_bytes HC6.out.good)
          have hi1 : i < ks.length := HLT.out
          have hi2 : (i : Int) < (ks.length : Int) := by omega
          have he1 : ((endAt ks (i + 1) : Nat) : Int) ≤ 2000 := by have := HEN.out; have := HN.out; omega
          have he2 : endAt ks (i + 1) ≤ 2000 := by omega
          have hwi1 : IntKind.i64.wrap ((i : Int) + 1) = (i : Int) + 1 := IntWalk.i64_in _ (by omega)
          have hws1 : IntKind.i64.wrap (((allB ks).length : Int) - ((endAt ks (i + 1) : Nat) : Int)) = ((allB ks).length : Int) - ((endAt ks (i + 1) : Nat) : Int) := IntWalk.i64_in _ (by have := HEN.out; have := HN.out; omega)
          have HFA := Lib.hid (HGZ.out.far (p := p2) (Nat.le_trans HC6.out.bel.size P2.out))
          refine wp_region_any (by kernel_rfl) ?_
          change wpAny _ _ _ _ _ _ _ (World.drew _)
          refine wpAny_take (i := 1) (v := (.pointer (some ⟨p2, 0, none⟩))) rfl (by kernel_rfl) (by kernel_rfl) (by kernel_rfl) (fun _ _ _ h => h) (Or.inl ⟨by rfl, fun w => by go_simp⟩) ?_
          simp only [Act.put, List.getElem_toArray, List.getElem_cons_succ, List.getElem_cons_zero, List.setIfInBounds_toArray, List.set_cons_succ, List.set_cons_zero]
          refine wpAny_ready (rs := [0]) (by kernel_rfl) (by simp) ?_
          refine AllReady.cons rfl (fun K hK => ?_) (AllReady.nil)
          go_simp
          refine hK _ _ ?_
          try simp only [Act.put, List.getElem_toArray, List.getElem_cons_succ, List.getElem_cons_zero, List.setIfInBounds_toArray, List.set_cons_succ, List.set_cons_zero]
          refine wpAny_ready (rs := [2]) (by kernel_rfl) (by simp) ?_
          refine AllReady.cons rfl (fun K hK => ?_) (AllReady.nil)
          go_simp
          go_wp2_with (go_at_call 17; refine (back_ok kd pm x ny cy p2 _ c7 _ Y A7 l (allB ks) _ HGZ.out.n HGZ.out.x HYW.out HRD.out HBY.out (by have := HN.out; omega) HFA.out HPW.out.2 HPW.out.1).mono ?_; rw [← HES.out]; rintro e w8 ⟨rfl, r8, k8⟩)
          try simp only [Act.put, List.getElem_toArray, List.getElem_cons_succ, List.getElem_cons_zero, List.setIfInBounds_toArray, List.set_cons_succ, List.set_cons_zero]
          have R8 := Lib.hid r8
          have B8 : Hid (Below w6.heap.size w6 w8) := Lib.hid (HBW.out.drew.trans (k8.below P2.out HBW.out.drew.size))
          have v8 := below_cellA B8.out (HE.out (i + 1) HLT.out)
          clear r8 k8
          refine wpAny_take (i := 3) (v := (.bool false)) rfl (by kernel_rfl) (by kernel_rfl) (by kernel_rfl) (fun _ _ _ h => h) (Or.inl ⟨by rfl, fun w => by go_simp⟩) ?_
          simp only [Act.put, List.getElem_toArray, List.getElem_cons_succ, List.getElem_cons_zero, List.setIfInBounds_toArray, List.set_cons_succ, List.set_cons_zero]
          refine wpAny_take (i := 4) (v := (.bool false)) rfl (by kernel_rfl) (by kernel_rfl) (by kernel_rfl) (fun _ _ _ h => h) (Or.inl ⟨by rfl, fun w => by go_simp⟩) ?_
          simp only [Act.put, List.getElem_toArray, List.getElem_cons_succ, List.getElem_cons_zero, List.setIfInBounds_toArray, List.set_cons_succ, List.set_cons_zero]
          refine wpAny_take (i := 5) (v := (.pointer (some ⟨p2, 0, none⟩))) rfl (by kernel_rfl) (by kernel_rfl) (by kernel_rfl) (fun _ _ _ h => h) (Or.inl ⟨by rfl, fun w => by go_simp⟩) ?_
          simp only [Act.put, List.getElem_toArray, List.getElem_cons_succ, List.getElem_cons_zero, List.setIfInBounds_toArray, List.set_cons_succ, List.set_cons_zero]
          refine wpAny_take (i := 7) (v := (.slice (some ⟨eb, eo, none⟩) (ks.length + 1) ce)) rfl (by kernel_rfl) (by kernel_rfl) (by kernel_rfl) (fun _ _ _ h => h) (Or.inl ⟨by rfl, fun w => by go_simp⟩) ?_
          simp only [Act.put, List.getElem_toArray, List.getElem_cons_succ, List.getElem_cons_zero, List.setIfInBounds_toArray, List.set_cons_succ, List.set_cons_zero]
          refine wpAny_take (i := 8) (v := (.int .i64 (i : Int))) rfl (by kernel_rfl) (by kernel_rfl) (by kernel_rfl) (fun _ _ _ h => h) (Or.inl ⟨by rfl, fun w => by go_simp⟩) ?_
          simp only [Act.put, List.getElem_toArray, List.getElem_cons_succ, List.getElem_cons_zero, List.setIfInBounds_toArray, List.set_cons_succ, List.set_cons_zero]
          refine wpAny_take (i := 9) (v := (.int .i64 ((i : Int) + 1))) rfl (by kernel_rfl) (by kernel_rfl) (by kernel_rfl) (fun _ _ _ h => h) (Or.inl ⟨by rfl, fun w => by (go_simp; try (intro h9; exfalso; omega))⟩) ?_
          simp only [Act.put, List.getElem_toArray, List.getElem_cons_succ, List.getElem_cons_zero, List.setIfInBounds_toArray, List.set_cons_succ, List.set_cons_zero]
          refine wpAny_take (i := 10) (v := (.pointer (some ⟨eb, eo + (i + 1), none⟩))) rfl (by kernel_rfl) (by kernel_rfl) (by kernel_rfl) (fun _ _ _ h => h) (Or.inl ⟨by rfl, fun w => by (go_simp; try (intro h9; exfalso; omega))⟩) ?_
          simp only [Act.put, List.getElem_toArray, List.getElem_cons_succ, List.getElem_cons_zero, List.setIfInBounds_toArray, List.set_cons_succ, List.set_cons_zero]
          refine wpAny_ready (rs := [6, 11]) (by kernel_rfl) (by simp) ?_
          refine AllReady.cons rfl (fun K hK => ?_) (AllReady.cons rfl (fun K hK => ?_) (AllReady.nil))
          · skip
            go_simp
            go_wp2_with (go_at_call 18; refine (At_any _ _ _ _ _ _ _ R8.out).mono ?_; rintro e w9 ⟨rfl, k9⟩)
            try simp only [Act.put, List.getElem_toArray, List.getElem_cons_succ, List.getElem_cons_zero, List.setIfInBounds_toArray, List.set_cons_succ, List.set_cons_zero]
            have R9 := Lib.hid (R8.out.below k9)
            have B9 := Lib.hid (B8.out.trans (k9.mono B8.out.size))
            have v9 := below_cellA k9 v8
            clear k9
            refine wpAny_ready (rs := [11]) (by kernel_rfl) (by simp) ?_
            refine AllReady.cons rfl (fun K hK => ?_) (AllReady.nil)
            go_simp
            refine hK _ _ ?_
            try simp only [Act.put, List.getElem_toArray, List.getElem_cons_succ, List.getElem_cons_zero, List.setIfInBounds_toArray, List.set_cons_succ, List.set_cons_zero]
            refine wpAny_take (i := 12) (v := (.bool false)) rfl (by kernel_rfl) (by kernel_rfl) (by kernel_rfl) (fun _ _ _ h => h) (Or.inl ⟨by rfl, fun w => by go_simp⟩) ?_
            simp only [Act.put, List.getElem_toArray, List.getElem_cons_succ, List.getElem_cons_zero, List.setIfInBounds_toArray, List.set_cons_succ, List.set_cons_zero]
            refine wpAny_take (i := 13) (v := (.bool false)) rfl (by kernel_rfl) (by kernel_rfl) (by kernel_rfl) (fun _ _ _ h => h) (Or.inl ⟨by rfl, fun w => by go_simp⟩) ?_
            simp only [Act.put, List.getElem_toArray, List.getElem_cons_succ, List.getElem_cons_zero, List.setIfInBounds_toArray, List.set_cons_succ, List.set_cons_zero]
            refine wpAny_take (i := 14) (v := (.bool false)) rfl (by kernel_rfl) (by kernel_rfl) (by kernel_rfl) (fun _ _ _ h => h) (Or.inl ⟨by rfl, fun w => by go_simp⟩) ?_
            simp only [Act.put, List.getElem_toArray, List.getElem_cons_succ, List.getElem_cons_zero, List.setIfInBounds_toArray, List.set_cons_succ, List.set_cons_zero]
            refine wpAny_take (i := 15) (v := (.pointer (some ⟨p2, 0, none⟩))) rfl (by kernel_rfl) (by kernel_rfl) (by kernel_rfl) (fun _ _ _ h => h) (Or.inl ⟨by rfl, fun w => by go_simp⟩) ?_
            simp only [Act.put, List.getElem_toArray, List.getElem_cons_succ, List.getElem_cons_zero, List.setIfInBounds_toArray, List.set_cons_succ, List.set_cons_zero]
            refine wpAny_take (i := 17) (v := (.int .i64 ((allB ks).length : Int))) rfl (by kernel_rfl) (by kernel_rfl) (by kernel_rfl) (fun _ _ _ h => h) (Or.inl ⟨by rfl, fun w => by go_simp⟩) ?_
            simp only [Act.put, List.getElem_toArray, List.getElem_cons_succ, List.getElem_cons_zero, List.setIfInBounds_toArray, List.set_cons_succ, List.set_cons_zero]
            refine wpAny_take (i := 18) (v := (.slice (some ⟨eb, eo, none⟩) (ks.length + 1) ce)) rfl (by kernel_rfl) (by kernel_rfl) (by kernel_rfl) (fun _ _ _ h => h) (Or.inl ⟨by rfl, fun w => by go_simp⟩) ?_
            simp only [Act.put, List.getElem_toArray, List.getElem_cons_succ, List.getElem_cons_zero, List.setIfInBounds_toArray, List.set_cons_succ, List.set_cons_zero]
            refine wpAny_take (i := 19) (v := (.int .i64 (i : Int))) rfl (by kernel_rfl) (by kernel_rfl) (by kernel_rfl) (fun _ _ _ h => h) (Or.inl ⟨by rfl, fun w => by go_simp⟩) ?_
            simp only [Act.put, List.getElem_toArray, List.getElem_cons_succ, List.getElem_cons_zero, List.setIfInBounds_toArray, List.set_cons_succ, List.set_cons_zero]
            refine wpAny_take (i := 20) (v := (.int .i64 ((i : Int) + 1))) rfl (by kernel_rfl) (by kernel_rfl) (by kernel_rfl) (fun _ _ _ h => h) (Or.inl ⟨by rfl, fun w => by (go_simp; try (intro h9; exfalso; omega))⟩) ?_
            simp only [Act.put, List.getElem_toArray, List.getElem_cons_succ, List.getElem_cons_zero, List.setIfInBounds_toArray, List.set_cons_succ, List.set_cons_zero]
            refine wpAny_take (i := 21) (v := (.pointer (some ⟨eb, eo + (i + 1), none⟩))) rfl (by kernel_rfl) (by kernel_rfl) (by kernel_rfl) (fun _ _ _ h => h) (Or.inl ⟨by rfl, fun w => by (go_simp; try (intro h9; exfalso; omega))⟩) ?_
            simp only [Act.put, List.getElem_toArray, List.getElem_cons_succ, List.getElem_cons_zero, List.setIfInBounds_toArray, List.set_cons_succ, List.set_cons_zero]
            refine wpAny_ready (rs := [16, 22]) (by kernel_rfl) (by simp) ?_
            refine AllReady.cons rfl (fun K hK => ?_) (AllReady.cons rfl (fun K hK => ?_) (AllReady.nil))
            · skip
              go_simp
              go_wp2_with (go_at_call 19; refine (Left_any _ _ _ _ _ _ _ R9.out (by have := HN.out; omega)).mono ?_; rw [HSB.out]; rintro e w10 ⟨rfl, k10⟩)
              try simp only [Act.put, List.getElem_toArray, List.getElem_cons_succ, List.getElem_cons_zero, List.setIfInBounds_toArray, List.set_cons_succ, List.set_cons_zero]
              have R10 := Lib.hid (R9.out.below k10)
              have B10 := Lib.hid (B9.out.trans (k10.mono B9.out.size))
              have v10 := below_cellA k10 v9
              clear k10
              refine wpAny_ready (rs := [22]) (by kernel_rfl) (by simp) ?_
              refine AllReady.cons rfl (fun K hK => ?_) (AllReady.nil)
              go_simp
              refine hK _ _ ?_
              try simp only [Act.put, List.getElem_toArray, List.getElem_cons_succ, List.getElem_cons_zero, List.setIfInBounds_toArray, List.set_cons_succ, List.set_cons_zero]
              refine wpAny_take (i := 23) (v := (.int .i64 (((allB ks).length : Int) - ((endAt ks (i + 1) : Nat) : Int)))) rfl (by kernel_rfl) (by kernel_rfl) (by kernel_rfl) (fun _ _ _ h => h) (Or.inl ⟨by rfl, fun w => by (go_simp; try (intro h9; exfalso; omega))⟩) ?_
              simp only [Act.put, List.getElem_toArray, List.getElem_cons_succ, List.getElem_cons_zero, List.setIfInBounds_toArray, List.set_cons_succ, List.set_cons_zero]
              refine wpAny_take (i := 24) (v := (.bool false)) rfl (by kernel_rfl) (by kernel_rfl) (by kernel_rfl) (fun _ _ _ h => h) (Or.inl ⟨by rfl, fun w => by go_simp⟩) ?_
              simp only [Act.put, List.getElem_toArray, List.getElem_cons_succ, List.getElem_cons_zero, List.setIfInBounds_toArray, List.set_cons_succ, List.set_cons_zero]
              refine wpAny_take (i := 25) (v := (.bool false)) rfl (by kernel_rfl) (by kernel_rfl) (by kernel_rfl) (fun _ _ _ h => h) (Or.inl ⟨by rfl, fun w => by go_simp⟩) ?_
              simp only [Act.put, List.getElem_toArray, List.getElem_cons_succ, List.getElem_cons_zero, List.setIfInBounds_toArray, List.set_cons_succ, List.set_cons_zero]
              refine wpAny_done (by kernel_rfl) ?_ _
              go_wp2
              go_roundw
              case rel => exact ⟨i + 1, Lib.hid ⟨HLT.out, B10.out⟩, by go_num, R10⟩
              case measure => have := HLT.out; simp [intOf]; omega
            · skip
              go_simp
              refine hK _ _ ?_
              try simp only [Act.put, List.getElem_toArray, List.getElem_cons_succ, List.getElem_cons_zero, List.setIfInBounds_toArray, List.set_cons_succ, List.set_cons_zero]
              refine wpAny_take (i := 23) (v := (.int .i64 (((allB ks).length : Int) - ((endAt ks (i + 1) : Nat) : Int)))) rfl (by kernel_rfl) (by kernel_rfl) (by kernel_rfl) (fun _ _ _ h => h) (Or.inl ⟨by rfl, fun w => by (go_simp; try (intro h9; exfalso; omega))⟩) ?_
              simp only [Act.put, List.getElem_toArray, List.getElem_cons_succ, List.getElem_cons_zero, List.setIfInBounds_toArray, List.set_cons_succ, List.set_cons_zero]
              refine wpAny_ready (rs := [16]) (by kernel_rfl) (by simp) ?_
              refine AllReady.cons rfl (fun K hK => ?_) (AllReady.nil)
              go_simp
              go_wp2_with (go_at_call 19; refine (Left_any _ _ _ _ _ _ _ R9.out (by have := HN.out; omega)).mono ?_; rw [HSB.out]; rintro e w10 ⟨rfl, k10⟩)
              try simp only [Act.put, List.getElem_toArray, List.getElem_cons_succ, List.getElem_cons_zero, List.setIfInBounds_toArray, List.set_cons_succ, List.set_cons_zero]
              have R10 := Lib.hid (R9.out.below k10)
              have B10 := Lib.hid (B9.out.trans (k10.mono B9.out.size))
              have v10 := below_cellA k10 v9
              clear k10
              refine wpAny_take (i := 24) (v := (.bool false)) rfl (by kernel_rfl) (by kernel_rfl) (by kernel_rfl) (fun _ _ _ h => h) (Or.inl ⟨by rfl, fun w => by go_simp⟩) ?_
              simp only [Act.put, List.getElem_toArray, List.getElem_cons_succ, List.getElem_cons_zero, List.setIfInBounds_toArray, List.set_cons_succ, List.set_cons_zero]
              refine wpAny_take (i := 25) (v := (.bool false)) rfl (by kernel_rfl) (by kernel_rfl) (by kernel_rfl) (fun _ _ _ h => h) (Or.inl ⟨by rfl, fun w => by go_simp⟩) ?_
              simp only [Act.put, List.getElem_toArray, List.getElem_cons_succ, List.getElem_cons_zero, List.setIfInBounds_toArray, List.set_cons_succ, List.set_cons_zero]
              refine wpAny_done (by kernel_rfl) ?_ _
              go_wp2
              go_roundw
              case rel => exact ⟨i + 1, Lib.hid ⟨HLT.out, B10.out⟩, by go_num, R10⟩
              case measure => have := HLT.out; simp [intOf]; omega
          · skip
            go_simp
            refine hK _ _ ?_
            try simp only [Act.put, List.getElem_toArray, List.getElem_cons_succ, List.getElem_cons_zero, List.setIfInBounds_toArray, List.set_cons_succ, List.set_cons_zero]
            refine wpAny_ready (rs := [6]) (by kernel_rfl) (by simp) ?_
            refine AllReady.cons rfl (fun K hK => ?_) (AllReady.nil)
            go_simp
            go_wp2_with (go_at_call 18; refine (At_any _ _ _ _ _ _ _ R8.out).mono ?_; rintro e w9 ⟨rfl, k9⟩)
            try simp only [Act.put, List.getElem_toArray, List.getElem_cons_succ, List.getElem_cons_zero, List.setIfInBounds_toArray, List.set_cons_succ, List.set_cons_zero]
            have R9 := Lib.hid (R8.out.below k9)
            have B9 := Lib.hid (B8.out.trans (k9.mono B8.out.size))
            have v9 := below_cellA k9 v8
            clear k9
            refine wpAny_take (i := 12) (v := (.bool false)) rfl (by kernel_rfl) (by kernel_rfl) (by kernel_rfl) (fun _ _ _ h => h) (Or.inl ⟨by rfl, fun w => by go_simp⟩) ?_
            simp only [Act.put, List.getElem_toArray, List.getElem_cons_succ, List.getElem_cons_zero, List.setIfInBounds_toArray, List.set_cons_succ, List.set_cons_zero]
            refine wpAny_take (i := 13) (v := (.bool false)) rfl (by kernel_rfl) (by kernel_rfl) (by kernel_rfl) (fun _ _ _ h => h) (Or.inl ⟨by rfl, fun w => by go_simp⟩) ?_
            simp only [Act.put, List.getElem_toArray, List.getElem_cons_succ, List.getElem_cons_zero, List.setIfInBounds_toArray, List.set_cons_succ, List.set_cons_zero]
            refine wpAny_take (i := 14) (v := (.bool false)) rfl (by kernel_rfl) (by kernel_rfl) (by kernel_rfl) (fun _ _ _ h => h) (Or.inl ⟨by rfl, fun w => by go_simp⟩) ?_
            simp only [Act.put, List.getElem_toArray, List.getElem_cons_succ, List.getElem_cons_zero, List.setIfInBounds_toArray, List.set_cons_succ, List.set_cons_zero]
            refine wpAny_take (i := 15) (v := (.pointer (some ⟨p2, 0, none⟩))) rfl (by kernel_rfl) (by kernel_rfl) (by kernel_rfl) (fun _ _ _ h => h) (Or.inl ⟨by rfl, fun w => by go_simp⟩) ?_
            simp only [Act.put, List.getElem_toArray, List.getElem_cons_succ, List.getElem_cons_zero, List.setIfInBounds_toArray, List.set_cons_succ, List.set_cons_zero]
            refine wpAny_take (i := 17) (v := (.int .i64 ((allB ks).length : Int))) rfl (by kernel_rfl) (by kernel_rfl) (by kernel_rfl) (fun _ _ _ h => h) (Or.inl ⟨by rfl, fun w => by go_simp⟩) ?_
            simp only [Act.put, List.getElem_toArray, List.getElem_cons_succ, List.getElem_cons_zero, List.setIfInBounds_toArray, List.set_cons_succ, List.set_cons_zero]
            refine wpAny_take (i := 18) (v := (.slice (some ⟨eb, eo, none⟩) (ks.length + 1) ce)) rfl (by kernel_rfl) (by kernel_rfl) (by kernel_rfl) (fun _ _ _ h => h) (Or.inl ⟨by rfl, fun w => by go_simp⟩) ?_
            simp only [Act.put, List.getElem_toArray, List.getElem_cons_succ, List.getElem_cons_zero, List.setIfInBounds_toArray, List.set_cons_succ, List.set_cons_zero]
            refine wpAny_take (i := 19) (v := (.int .i64 (i : Int))) rfl (by kernel_rfl) (by kernel_rfl) (by kernel_rfl) (fun _ _ _ h => h) (Or.inl ⟨by rfl, fun w => by go_simp⟩) ?_
            simp only [Act.put, List.getElem_toArray, List.getElem_cons_succ, List.getElem_cons_zero, List.setIfInBounds_toArray, List.set_cons_succ, List.set_cons_zero]
            refine wpAny_take (i := 20) (v := (.int .i64 ((i : Int) + 1))) rfl (by kernel_rfl) (by kernel_rfl) (by kernel_rfl) (fun _ _ _ h => h) (Or.inl ⟨by rfl, fun w => by (go_simp; try (intro h9; exfalso; omega))⟩) ?_
            simp only [Act.put, List.getElem_toArray, List.getElem_cons_succ, List.getElem_cons_zero, List.setIfInBounds_toArray, List.set_cons_succ, List.set_cons_zero]
            refine wpAny_take (i := 21) (v := (.pointer (some ⟨eb, eo + (i + 1), none⟩))) rfl (by kernel_rfl) (by kernel_rfl) (by kernel_rfl) (fun _ _ _ h => h) (Or.inl ⟨by rfl, fun w => by (go_simp; try (intro h9; exfalso; omega))⟩) ?_
            simp only [Act.put, List.getElem_toArray, List.getElem_cons_succ, List.getElem_cons_zero, List.setIfInBounds_toArray, List.set_cons_succ, List.set_cons_zero]
            refine wpAny_ready (rs := [16, 22]) (by kernel_rfl) (by simp) ?_
            refine AllReady.cons rfl (fun K hK => ?_) (AllReady.cons rfl (fun K hK => ?_) (AllReady.nil))
            · skip
              go_simp
              go_wp2_with (go_at_call 19; refine (Left_any _ _ _ _ _ _ _ R9.out (by have := HN.out; omega)).mono ?_; rw [HSB.out]; rintro e w10 ⟨rfl, k10⟩)
              try simp only [Act.put, List.getElem_toArray, List.getElem_cons_succ, List.getElem_cons_zero, List.setIfInBounds_toArray, List.set_cons_succ, List.set_cons_zero]
              have R10 := Lib.hid (R9.out.below k10)
              have B10 := Lib.hid (B9.out.trans (k10.mono B9.out.size))
              have v10 := below_cellA k10 v9
              clear k10
              refine wpAny_ready (rs := [22]) (by kernel_rfl) (by simp) ?_
              refine AllReady.cons rfl (fun K hK => ?_) (AllReady.nil)
              go_simp
              refine hK _ _ ?_
              try simp only [Act.put, List.getElem_toArray, List.getElem_cons_succ, List.getElem_cons_zero, List.setIfInBounds_toArray, List.set_cons_succ, List.set_cons_zero]
              refine wpAny_take (i := 23) (v := (.int .i64 (((allB ks).length : Int) - ((endAt ks (i + 1) : Nat) : Int)))) rfl (by kernel_rfl) (by kernel_rfl) (by kernel_rfl) (fun _ _ _ h => h) (Or.inl ⟨by rfl, fun w => by (go_simp; try (intro h9; exfalso; omega))⟩) ?_
              simp only [Act.put, List.getElem_toArray, List.getElem_cons_succ, List.getElem_cons_zero, List.setIfInBounds_toArray, List.set_cons_succ, List.set_cons_zero]
              refine wpAny_take (i := 24) (v := (.bool false)) rfl (by kernel_rfl) (by kernel_rfl) (by kernel_rfl) (fun _ _ _ h => h) (Or.inl ⟨by rfl, fun w => by go_simp⟩) ?_
              simp only [Act.put, List.getElem_toArray, List.getElem_cons_succ, List.getElem_cons_zero, List.setIfInBounds_toArray, List.set_cons_succ, List.set_cons_zero]
              refine wpAny_take (i := 25) (v := (.bool false)) rfl (by kernel_rfl) (by kernel_rfl) (by kernel_rfl) (fun _ _ _ h => h) (Or.inl ⟨by rfl, fun w => by go_simp⟩) ?_
              simp only [Act.put, List.getElem_toArray, List.getElem_cons_succ, List.getElem_cons_zero, List.setIfInBounds_toArray, List.set_cons_succ, List.set_cons_zero]
              refine wpAny_done (by kernel_rfl) ?_ _
              go_wp2
              go_roundw
              case rel => exact ⟨i + 1, Lib.hid ⟨HLT.out, B10.out⟩, by go_num, R10⟩
              case measure => have := HLT.out; simp [intOf]; omega
            · skip
              go_simp
              refine hK _ _ ?_
              try simp only [Act.put, List.getElem_toArray, List.getElem_cons_succ, List.getElem_cons_zero, List.setIfInBounds_toArray, List.set_cons_succ, List.set_cons_zero]
              refine wpAny_take (i := 23) (v := (.int .i64 (((allB ks).length : Int) - ((endAt ks (i + 1) : Nat) : Int)))) rfl (by kernel_rfl) (by kernel_rfl) (by kernel_rfl) (fun _ _ _ h => h) (Or.inl ⟨by rfl, fun w => by (go_simp; try (intro h9; exfalso; omega))⟩) ?_
              simp only [Act.put, List.getElem_toArray, List.getElem_cons_succ, List.getElem_cons_zero, List.setIfInBounds_toArray, List.set_cons_succ, List.set_cons_zero]
              refine wpAny_ready (rs := [16]) (by kernel_rfl) (by simp) ?_
              refine AllReady.cons rfl (fun K hK => ?_) (AllReady.nil)
              go_simp
              go_wp2_with (go_at_call 19; refine (Left_any _ _ _ _ _ _ _ R9.out (by have := HN.out; omega)).mono ?_; rw [HSB.out]; rintro e w10 ⟨rfl, k10⟩)
              try simp only [Act.put, List.getElem_toArray, List.getElem_cons_succ, List.getElem_cons_zero, List.setIfInBounds_toArray, List.set_cons_succ, List.set_cons_zero]
              have R10 := Lib.hid (R9.out.below k10)
              have B10 := Lib.hid (B9.out.trans (k10.mono B9.out.size))
              have v10 := below_cellA k10 v9
              clear k10
              refine wpAny_take (i := 24) (v := (.bool false)) rfl (by kernel_rfl) (by kernel_rfl) (by kernel_rfl) (fun _ _ _ h => h) (Or.inl ⟨by rfl, fun w => by go_simp⟩) ?_
              simp only [Act.put, List.getElem_toArray, List.getElem_cons_succ, List.getElem_cons_zero, List.setIfInBounds_toArray, List.set_cons_succ, List.set_cons_zero]
              refine wpAny_take (i := 25) (v := (.bool false)) rfl (by kernel_rfl) (by kernel_rfl) (by kernel_rfl) (fun _ _ _ h => h) (Or.inl ⟨by rfl, fun w => by go_simp⟩) ?_
              simp only [Act.put, List.getElem_toArray, List.getElem_cons_succ, List.getElem_cons_zero, List.setIfInBounds_toArray, List.set_cons_succ, List.set_cons_zero]
              refine wpAny_done (by kernel_rfl) ?_ _
              go_wp2
              go_roundw
              case rel => exact ⟨i + 1, Lib.hid ⟨HLT.out, B10.out⟩, by go_num, R10⟩
              case measure => have := HLT.out; simp [intOf]; omega
        · -- TAIL
          have hik : i = ks.length := by have := HI.out.1; omega
          have HRE : Hid (Rdr wr p2 A7 (allB ks).length c7 (allB ks) (allB ks).length) := Lib.hid (by have h := HR.out; rw [hik, endAt_all] at h; exact h)
          have d7 : decide ((i : Int) < (ks.length : Int)) = false := by simp; omega
          have d7' : decide (i < ks.length) = false := by simp; omega
          obtain ⟨LB, hLB⟩ : ∃ LB, (allB ks).length = LB := ⟨_, rfl⟩
          obtain ⟨M1, hM1⟩ : ∃ M1, LB + 1 = M1 := ⟨_, rfl⟩
          obtain ⟨kc, hkc⟩ : ∃ kc, a2 % M1 = kc := ⟨_, rfl⟩
          have hkcL : kc ≤ LB := by have := Nat.mod_lt a2 (show 0 < M1 by omega); omega
          rw [hLB] at HRE O6 hb1 HN ⊢
          have hM3 : (LB : Int) + 1 = (M1 : Int) := by omega
          have hM4 : ((M1 : Int) == 0) = false := by simp; omega
          have hkc2 : (a2 : Int) % (M1 : Int) = (kc : Int) := by rw [← hkc]; push_cast; rfl
          have hkc3 : (a2 : Int).tmod (M1 : Int) = (kc : Int) := by rw [Int.tmod_eq_emod_of_nonneg (by omega)]; exact hkc2
          have hwa : wrap64 (a2 : Int) = (a2 : Int) := IntWalk.wrap64_in _ (by have := HA2.out; omega)
          have hkc5 : (kc : Int) ≤ 2000 := by have := HN.out; omega
          have HKC := Lib.hid hkcL
          have hc6 := O6.out.cap
          have hcut9 := fun w => run_cutr E_u8 A6 LB c6 kc (Nat.le_trans hkcL hc6) w
          have HO9 : Hid (∀ W, Below w6.heap.size w6 W → Sees W 1 A6 kc c6 (((allB ks).take kc).map (Value.int .u8))) := Lib.hid (fun W hb => by
            have h := (O6.out.below hb (Nat.le_refl _)).pre hkcL
            rwa [Nat.mul_one, ← List.map_take] at h)
          have HTL : Hid (((allB ks).take kc).length = kc) := Lib.hid (by rw [List.length_take, hLB]; omega)
          have HLB := Lib.hid hLB
          have HBY := Lib.hid (allB_bytes HC6.out.good)
          clear hlt hik hkc hM1 hc6 hkcL hLB
          have hen0 : (if LB < LB then (22 : Int) else 0) = 0 := by rw [if_neg (Nat.lt_irrefl _)]
          go_wp2_with (first
            | (go_at_call 16; refine (NewReader_any A6 kc c6 ((allB ks).take kc) _ (HO9.out _ B11.out) (by have := HKC.out; have := HN.out; omega)).mono ?_; rintro e w12 ⟨p3, A8, c8, rfl, r8, hp3, k12⟩; have R12 := Lib.hid r8; have B12 := Lib.hid (B11.out.trans (k12.mono B11.out.size)); have P3 := Lib.hid (Nat.le_trans B11.out.size hp3); clear r8 k12 hp3)
            | (go_at_call 20; refine (End_any p2 LB c7 LB A7 (allB ks) _ HRE.out (by have := HN.out; omega)).mono ?_; rw [hen0]; rintro e w11 ⟨rfl, k11⟩; have B11 := Lib.hid (HI.out.2.trans (k11.mono HI.out.2.size)); clear k11))
          go_loopw [147] (fun iv wq => ∃ (q : Nat), Hid (q ≤ ks.length ∧ endAt ks q ≤ kc ∧ Below w6.heap.size w6 wq) ∧ iv = .int .i64 (q : Int) ∧ Hid (Rdr wq p3 A8 kc c8 ((allB ks).take kc) (endAt ks q))) (fun iv _ => ks.length - (intOf iv).toNat)
          case atStart => exact ⟨0, Lib.hid ⟨Nat.zero_le _, by rw [endAt_zero]; exact Nat.zero_le _, B12.out⟩, rfl, Lib.hid (by rw [endAt_zero]; exact R12.out)⟩
          case round =>
            obtain ⟨q, HQ, rfl, HRQ⟩ := hrel
            by_cases hlt : q < ks.length
            · obtain ⟨ba, oa, kd, pm, x, Y, ny, cy, l, hA, hzi, g0, g1, g2, g3⟩ := HKP.out.at_ hlt
              cases hA
              replace g0 := below_cellA HQ.out.2.2 g0
              replace g1 := below_cellA HQ.out.2.2 g1
              replace g2 := below_cellA HQ.out.2.2 g2
              replace g3 := below_cellA HQ.out.2.2 g3
              have v1 := below_cellA HQ.out.2.2 (HE.out (q + 1) hlt)
              have v0 := below_cellA HQ.out.2.2 (HE.out q (Nat.le_of_lt hlt))
              have HGZ := Lib.hid (HC6.out.good _ (List.mem_of_getElem? hzi))
              have HZI := Lib.hid hzi
              have HES := Lib.hid (endAt_succ hzi)
              have HLT := Lib.hid hlt
              have d8 : decide ((q : Int) < (ks.length : Int)) = true := by simp; omega
              have hq2 : (q : Int) < (ks.length : Int) := by omega
              have hq60 : (q : Int) ≤ 60 := by omega
              have hq3 : (q : Int) + 1 < (ks.length : Int) + 1 := by omega
              have hq4 : (q : Int) < (ks.length : Int) + 1 := by omega
              have hq5 : q + 1 < ks.length + 1 := by omega
              have hwq1 : IntKind.i64.wrap ((q : Int) + 1) = (q : Int) + 1 := IntWalk.i64_in _ (by omega)
              have HFA := Lib.hid (HGZ.out.far (p := p3) (Nat.le_trans HC6.out.bel.size P3.out))
              have HRW := Lib.hid (HRQ.out.below ((Below.refl _ _).alloc (Nat.le_refl _) (.cells #[.int .u8 (kd : Int), .int .u8 (pm : Int), .int .u64 (x : Int), .slice Y ny cy] 33)))
              have HYW : Hid (Sees (wr.alloc (.cells #[.int .u8 (kd : Int), .int .u8 (pm : Int), .int .u64 (x : Int), .slice Y ny cy] 33)) 1 Y ny cy (l.map (Value.int .u8))) := Lib.hid (HGZ.out.see.below ((HC6.out.bel.trans ((HQ.out.2.2.alloc HQ.out.2.2.size (.cells #[.int .u8 (kd : Int), .int .u8 (pm : Int), .int .u64 (x : Int), .slice Y ny cy] 33)).mono HC6.out.bel.size))) (Nat.le_refl _))
              have HBW := Lib.hid (HQ.out.2.2.alloc HQ.out.2.2.size (.cells #[.int .u8 (kd : Int), .int .u8 (pm : Int), .int .u64 (x : Int), .slice Y ny cy] 33))
              obtain ⟨e1, he1⟩ : ∃ e1, endAt ks (q + 1) = e1 := ⟨_, rfl⟩
              obtain ⟨e0, he0⟩ : ∃ e0, endAt ks q = e0 := ⟨_, rfl⟩
              have HEE := Lib.hid (And.intro he1 he0)
              rw [he1] at v1
              rw [he0] at v0 HRW HRQ
              have he2 : (e1 : Int) ≤ 2000 := by have := endAt_le ks (q + 1); rw [HLB.out, he1] at this; have := HN.out; omega
              have va1 : (wr.alloc (.cells #[.int .u8 (kd : Int), .int .u8 (pm : Int), .int .u64 (x : Int), .slice Y ny cy] 33)).cell? ⟨eb, eo + (q + 1), none⟩ = some (.int .i64 (e1 : Int)) := below_cellA ((Below.refl wr.heap.size wr).alloc (Nat.le_refl _) (.cells #[.int .u8 (kd : Int), .int .u8 (pm : Int), .int .u64 (x : Int), .slice Y ny cy] 33)) v1
              have va0 : (wr.alloc (.cells #[.int .u8 (kd : Int), .int .u8 (pm : Int), .int .u64 (x : Int), .slice Y ny cy] 33)).cell? ⟨eb, eo + q, none⟩ = some (.int .i64 (e0 : Int)) := below_cellA ((Below.refl wr.heap.size wr).alloc (Nat.le_refl _) (.cells #[.int .u8 (kd : Int), .int .u8 (pm : Int), .int .u64 (x : Int), .slice Y ny cy] 33)) v0
              have HBX := Lib.hid (show (wr.alloc (.cells #[.int .u8 (kd : Int), .int .u8 (pm : Int), .int .u64 (x : Int), .slice Y ny cy] 33)).heap[wr.heap.size]? = some (.cells #[.int .u8 (kd : Int), .int .u8 (pm : Int), .int .u64 (x : Int), .slice Y ny cy] 33 (0, 0)) from heap_alloc_new _ _)
              clear hlt hzi he1 he0
              by_cases hgt : kc < e1
              · have d9 : decide ((kc : Int) < (e1 : Int)) = true := by simp; omega
                have d9' : decide (kc < e1) = true := by simp; omega
                have HJ : Hid (e0 + (kc - e0) = kc ∧ kc - e0 < (pcBytes kd pm x l).length) := Lib.hid (by
                  have h1 := HQ.out.2.1
                  rw [HEE.out.2] at h1
                  have h2 := HES.out
                  rw [HEE.out.1, HEE.out.2] at h2
                  simp only [pcB] at h2
                  omega)
                have HPC : Hid (((allB ks).take kc).drop e0 = (pcBytes kd pm x l).take (kc - e0)) := Lib.hid (by
                  have h := piece_cut HZI.out HQ.out.2.1 (by rw [HEE.out.1]; exact hgt)
                  rw [HEE.out.2] at h
                  exact h)
                clear hgt
                go_wp2_with (first
                  | (go_at_call 18; have _q := R14; refine (At_any p3 kc c8 e0 A8 ((allB ks).take kc) _ R14.out).mono ?_; rintro e w15 ⟨rfl, k15⟩; have B15 := Lib.hid (B14.out.trans (k15.mono B14.out.size)); have v15 := below_cellA k15 v14; clear k15)
                  | (go_at_call 17; refine (back_cut kd pm x ny cy p3 kc c8 e0 (kc - e0) Y A8 l ((allB ks).take kc) _ HGZ.out.n HGZ.out.x (HYW.out.below K13.out (Nat.le_refl _)) R13.out (fun z hz => HBY.out z (List.mem_of_mem_take hz)) (by have := HKC.out; have := HN.out; omega) HJ.out.2 HJ.out.1 HPC.out).mono ?_; rintro e w14 ⟨rfl, r14, k14⟩; have R14 := Lib.hid r14; have B14 : Hid (Below w6.heap.size w6 w14) := Lib.hid (B13.out.trans (k14.below P3.out B13.out.size)); have v14 : w14.cell? ⟨eb, eo + q, none⟩ = some (.int .i64 (e0 : Int)) := (by have h := below_cellA B14.out (HE.out q (Nat.le_of_lt HLT.out)); rw [HEE.out.2] at h; exact h); clear r14 k14)
                  | (go_at_call 18; refine (At_any p3 kc c8 e0 A8 ((allB ks).take kc) _ HRW.out).mono ?_; rintro e w13 ⟨rfl, k13⟩; have R13 := Lib.hid (HRW.out.below k13); have B13 := Lib.hid (HBW.out.trans (k13.mono HBW.out.size)); have K13 := Lib.hid k13; have X13 := (k13.block wr.heap.size (lt_of_heap HBX.out)).trans HBX.out; have z0 : w13.cell? ⟨wr.heap.size, 0, none⟩ = some (.int .u8 (kd : Int)) := (by simp [World.cell?, X13]); have z1 : w13.cell? ⟨wr.heap.size, 1, none⟩ = some (.int .u8 (pm : Int)) := (by simp [World.cell?, X13]); have z2 : w13.cell? ⟨wr.heap.size, 2, none⟩ = some (.int .u64 (x : Int)) := (by simp [World.cell?, X13]); have z3 : w13.cell? ⟨wr.heap.size, 3, none⟩ = some (.slice Y ny cy) := (by simp [World.cell?, X13]); clear k13 X13))
                go_ret
                exact ⟨rfl, HC6.out.bel.trans (B15.out.mono HC6.out.bel.size)⟩
              · have d9 : decide ((kc : Int) < (e1 : Int)) = false := by simp; omega
                have d9' : decide (kc < e1) = false := by simp; omega
                have HLE := Lib.hid (show e1 ≤ kc by omega)
                have HSUM : Hid (e0 + (pcBytes kd pm x l).length = e1) := Lib.hid (by
                  have h2 := HES.out
                  rw [HEE.out.1, HEE.out.2] at h2
                  simp only [pcB] at h2
                  omega)
                have HPS : Hid ((((allB ks).take kc).drop e0).take (pcBytes kd pm x l).length = pcBytes kd pm x l) := Lib.hid (by
                  have h := piece_short HZI.out (k := kc) (by rw [HEE.out.1]; exact HLE.out)
                  rw [HEE.out.2] at h
                  exact h)
                clear hgt
                go_wp2_with (go_at_call 17; refine (back_ok kd pm x ny cy p3 kc c8 e0 Y A8 l ((allB ks).take kc) _ HGZ.out.n HGZ.out.x HYW.out HRW.out (fun z hz => HBY.out z (List.mem_of_mem_take hz)) (by have := HKC.out; have := HN.out; omega) HFA.out (by rw [HSUM.out]; exact HLE.out) HPS.out).mono ?_; rw [HSUM.out]; rintro e w14 ⟨rfl, r14, k14⟩; have R14 := Lib.hid r14; have B14 : Hid (Below w6.heap.size w6 w14) := Lib.hid (HBW.out.trans (k14.below P3.out HBW.out.size)); clear r14 k14)
                go_roundw
                case rel => exact ⟨q + 1, Lib.hid ⟨HLT.out, by rw [HEE.out.1]; exact HLE.out, B14.out⟩, by go_num, Lib.hid (by rw [HEE.out.1]; exact R14.out)⟩
                case measure => have := HLT.out; simp [intOf]; omega
            · have hqk : q = ks.length := by have := HQ.out.1; omega
              have d8 : decide ((q : Int) < (ks.length : Int)) = false := by simp; omega
              have d8' : decide (q < ks.length) = false := by simp; omega
              clear hlt hqk
              go_wp2
              go_ret
              exact ⟨rfl, HC6.out.bel.trans (HQ.out.2.2.mono HC6.out.bel.size)⟩
end Go.Proofs.Ytgngeachgkappaa
