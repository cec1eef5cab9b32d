/- Walks: tells. -/
import Derived.Test.YtemhoaleeefhhaaProg
import Derived.Test.YtemhoaleeefhhaaNc
import Derived.Test.YtemhoaleeefhhaaMd
import Derived.Test.YtemhoaleeefhhaaLb64
import Derived.Test.YtemhoaleeefhhaaSi64
import Derived.BigRegion
import Derived.Deep.DeepCutAuto
import Derived.Deep.RegionHeld3
namespace Go.Proofs.Ytemhoaleeefhhaa
open Go.RowKit
set_option linter.unusedVariables false

abbrev C3 (b2 b5 b6 : Nat) (N : Int) (A A5 : Option Addr) (n c c5 : Nat) (w : World) : Prop := C2 b2 N A n c w ∧ C2 b5 N A5 n c5 w ∧ C2 b6 N A n c w
theorem keepT {W w w' : World} {b2 b5 b6 : Nat} {N : Int} {A A5 : Option Addr} {n c c5 : Nat} (h : C3 b2 b5 b6 N A A5 n c c5 w ∧ Below W.heap.size W w) (k : Below w.heap.size w w') : C3 b2 b5 b6 N A A5 n c c5 w' ∧ Below W.heap.size W w' :=
  ⟨⟨h.1.1.keep k, h.1.2.1.keep k, h.1.2.2.keep k⟩, below_step h.2 k⟩
theorem keepT0 {W w : World} {b2 b5 b6 : Nat} {N : Int} {A A5 : Option Addr} {n c c5 : Nat} (h : C3 b2 b5 b6 N A A5 n c c5 w ∧ Below W.heap.size W w) : C3 b2 b5 b6 N A A5 n c c5 w.drew ∧ Below W.heap.size W w.drew := ⟨h.1, h.2.drew⟩
theorem count_len (l : List Int) (N : Int) : rankF l N 65536 = (membersF l N).length := by
  by_cases hr : RightW N l
  · obtain ⟨M, rfl⟩ : ∃ M : Nat, N = (M : Int) := ⟨N.toNat, by have := hr.1; omega⟩
    rw [membersF_right hr, rankF_top hr hr.2.1]
  · rw [rankF_no hr]; unfold membersF; rw [if_neg hr]; rfl
theorem selF_mem {l : List Int} {N : Int} {k : Nat} : selF l N (k : Int) = (membersF l N)[k]? := by
  by_cases hr : RightW N l
  · obtain ⟨M, rfl⟩ : ∃ M : Nat, N = (M : Int) := ⟨N.toNat, by have := hr.1; omega⟩
    rw [membersF_right hr, selF_at hr]
  · unfold selF membersF; rw [if_neg (fun h => hr h.1), if_neg hr]; rfl

theorem asked_is (o : Option Nat) (a v : Int) (b : Bool) (w : World) (h : optV o = .tuple #[.int .i64 a, .bool b]) (hv : v = wantV o) :
    Calls Try.prog 48 #[.int .i64 a, .bool b, .int .i64 v] w fun e w' => e = .returned (.bool true) ∧ w = w' := by
  subst hv; exact asked_same o a b w h

theorem runsF_len (l : List Int) (N : Int) : (runsF l N).length ≤ 65536 := by
  unfold runsF
  split
  · rename_i h
    have : (runsL (mem l N.toNat)).length ≤ N.toNat := rn_len l N.toNat
    have := h.2.1
    have := h.1
    omega
  · simp

/-- What 'tells' has of the set that came in, its own copy, and the reference's. -/
structure TS (w W : World) (b2 : Nat) (N : Int) (A A5 : Option Addr) (n c b5 c5 : Nat) (l : List Int) : Prop where
  bel : Below w.heap.size w W
  box2 : SetB W b2 N A n c
  box5 : SetB W b5 N A5 n c5
  see : Sees W 1 A n c (l.map (Value.int .u64))
  own : Sees W 1 A5 (n + 12) c5 ((l ++ mksN 12).map (Value.int .u64))
theorem TS.step {w W W' : World} {b2 : Nat} {N : Int} {A A5 : Option Addr} {n c b5 c5 : Nat} {l : List Int} (h : TS w W b2 N A A5 n c b5 c5 l) (k : Below W.heap.size W W') : TS w W' b2 N A A5 n c b5 c5 l :=
  ⟨below_step h.bel k, h.box2.below k (Nat.le_refl _), h.box5.below k (Nat.le_refl _), h.see.below k (Nat.le_refl _), h.own.below k (Nat.le_refl _)⟩
theorem TS.sown {w W : World} {b2 : Nat} {N : Int} {A A5 : Option Addr} {n c b5 c5 : Nat} {l : List Int} (h : TS w W b2 N A A5 n c b5 c5 l) : Sees W 1 A5 n c5 (l.map (Value.int .u64)) :=
  Sees.take (by have := h.own; rwa [List.map_append] at this) (by rw [List.length_map, h.see.length]; omega) (by omega)

set_option maxRecDepth 20000 in
set_option maxHeartbeats 3200000 in
theorem tells_any (N i : Int) (A : Option Addr) (n c : Nat) (l : List Int) (w : World) (hs : Sees w 1 A n c (l.map (Value.int .u64))) (hw : W64 l) (hi : -9223372036854775808 ≤ i ∧ i ≤ 9223372036854775807) :
    Calls Try.prog 14 #[setv N A n c, .int .i64 i] w fun e w' => e = .returned (.bool true) ∧ Below w.heap.size w w' := by
  obtain ⟨W1, hW1⟩ : ∃ W1, w.alloc (.cells #[.int .i64 N, .slice A n c] 24) = W1 := ⟨_, rfl⟩
  have hbw : Below w.heap.size w W1 := by rw [← hW1]; exact (Below.refl w.heap.size w).alloc (Nat.le_refl _) _
  have HB := Lib.hid hbw
  have HS := Lib.hid (hs.below hbw (Nat.le_refl _))
  have hX : SetB W1 w.heap.size N A n c := by rw [← hW1]; exact SetB.new w N A n c
  have HX := Lib.hid hX
  by_cases hn : 20 < n
  · have d0 : decide ((20 : Int) < (n : Int)) = true := by simp; omega
    have d0' : decide (20 < n) = true := by simp; omega
    have HW1 := Lib.hid hW1
    clear hn hs hbw hX hW1
    go_enter Try.func14, Try.ntmps14
    go_wp2
    go_ret
    exact ⟨rfl, by rw [HW1.out]; exact HB.out⟩
  · have d0 : decide ((20 : Int) < (n : Int)) = false := by simp; omega
    have d0' : decide (20 < n) = false := by simp; omega
    have HN := Lib.hid (show n ≤ 20 by omega)
    have HW1 := Lib.hid hW1
    clear hn hs hbw hX hW1
    go_enter Try.func14, Try.ntmps14
    go_upto_region 3 with fail
    rw [HW1.out]
    have x0 := HX.out.c0
    have x1 := HX.out.c1
    have HXA := Lib.hid (HX.out.alloc (.cells #[.int .i64 0, .slice none 0 0] 24))
    have xa0 : (W1.alloc (.cells #[.int .i64 0, .slice none 0 0] 24)).cell? ⟨w.heap.size, 0, none⟩ = some (.int .i64 N) := HXA.out.c0
    have xa1 : (W1.alloc (.cells #[.int .i64 0, .slice none 0 0] 24)).cell? ⟨w.heap.size, 1, none⟩ = some (.slice A n c) := HXA.out.c1
    have HD := Lib.hid (Below.refl W1.heap.size W1).drew
    have HDA := Lib.hid ((Below.refl W1.heap.size W1).alloc (Nat.le_refl _) (.cells #[.int .i64 0, .slice none 0 0] 24)).drew
    have HYN := Lib.hid (show SetB (W1.alloc (.cells #[.int .i64 0, .slice none 0 0] 24)).drew W1.heap.size 0 none 0 0 from SetB.new W1 0 none 0 0)
    go_cut [5] from 19 to 24 (fun pv wx => ∃ (b5 c5 : Nat) (A5 : Option Addr), pv = .pointer (some ⟨b5, 0, none⟩) ∧ Hid (TS w wx w.heap.size N A A5 n c b5 c5 l))
    case first =>
      go_region_law (first
        | (refine step_wpX rfl ?_; go_simp; go_at_call 38; refine (LentNums_any A n c l _ (by exact HS.out.below HDA.out (Nat.le_refl _)) (by have := HN.out; omega)).mono ?_; rintro e w2 ⟨A5, c5, rfl, o2, k2⟩; have O2 := Lib.hid o2; have HB2 := Lib.hid (HDA.out.trans (k2.mono HDA.out.size)); have Y2 := Lib.hid (HYN.out.below k2 (Nat.le_refl _)); have q0 : w2.cell? ⟨W1.heap.size, 0, none⟩ = some (.int .i64 0) := Y2.out.c0; have q1 : w2.cell? ⟨W1.heap.size, 1, none⟩ = some (.slice none 0 0) := Y2.out.c1; have q2 : w2.frozen? ⟨W1.heap.size, 0, none⟩ = false := Y2.out.f 0; have q3 : w2.frozen? ⟨W1.heap.size, 1, none⟩ = false := Y2.out.f 1; have x2 := (HX.out.below HB2.out (Nat.le_refl _)); have x20 := x2.c0; have x21 := x2.c1; clear o2 k2 x2)
        | (refine step_wpX rfl ?_; go_simp; go_at_call 38; refine (LentNums_any A n c l _ (by exact HS.out.below HD.out (Nat.le_refl _)) (by have := HN.out; omega)).mono ?_; rintro e w2 ⟨A5, c5, rfl, o2, k2⟩; have O2 := Lib.hid o2; have HB2 := Lib.hid (HD.out.trans (k2.mono HD.out.size)); have x2 := (HX.out.below HB2.out (Nat.le_refl _)); have x20 := x2.c0; have x21 := x2.c1; have xa2 := x2.alloc (.cells #[.int .i64 0, .slice none 0 0] 24); have xa20 := xa2.c0; have xa21 := xa2.c1; clear o2 k2 x2 xa2))
      all_goals try simp only [Act.put, List.getElem_toArray, List.getElem_cons_succ, List.getElem_cons_zero, List.setIfInBounds_toArray, List.set_cons_succ, List.set_cons_zero]
      all_goals go_wp2_with fail
      all_goals go_meet
      all_goals first
        | exact ⟨_, c5, A5, rfl, Lib.hid ⟨HB.out.trans ((HB2.out.alloc HB2.out.size _).mono HB.out.size), (HX.out.below HB2.out (Nat.le_refl _)).alloc _, SetB.new _ _ _ _ _, HS.out.below (HB2.out.alloc HB2.out.size _) (Nat.le_refl _), (sees_own O2.out).below ((Below.refl _ _).alloc (Nat.le_refl _) _) (Nat.le_refl _)⟩⟩
        | exact ⟨W1.heap.size, c5, A5, rfl, Lib.hid ⟨HB.out.trans ((below_put HB2.out (Nat.le_refl _) _ _).mono HB.out.size), HX.out.below (below_put HB2.out (Nat.le_refl _) _ _) (Nat.le_refl _), Y2.out.put, HS.out.below (below_put HB2.out (Nat.le_refl _) _ _) (Nat.le_refl _), sees_own (ownsRow_setCell_below (ownsRow_setCell_below O2.out HYN.out.lt _) HYN.out.lt _)⟩⟩
    case rest =>
      obtain ⟨b5, c5, A5, rfl, T2⟩ := hcut
      clear x0 x1 xa0 xa1
      have x0 := T2.out.box2.c0
      have x1 := T2.out.box2.c1
      have y0 := T2.out.box5.c0
      have y1 := T2.out.box5.c1
      -- REST
      obtain ⟨L, hL⟩ : ∃ L, membersF l N = L := ⟨_, rfl⟩
      obtain ⟨t, ht⟩ : ∃ t, L.length = t := ⟨_, rfl⟩
      have ht5 : (t : Int) ≤ 65536 := by have := membersF_le l N; rw [hL] at this; omega
      have tup : ∀ o : Option Nat, ∃ (a : Int) (b : Bool), optV o = .tuple #[.int .i64 a, .bool b] := fun o => by
        cases o with
        | none => exact ⟨0, false, rfl⟩
        | some m => exact ⟨m, true, rfl⟩
      obtain ⟨sa, sb, hsv⟩ := tup (selF l N i)
      obtain ⟨na, nb, hnv⟩ := tup (nextF l N i)
      obtain ⟨ba, bb, hbv⟩ := tup (beforeF l N i)
      obtain ⟨rv, hrv⟩ : ∃ rv, decide (RightW N l) = rv := ⟨_, rfl⟩
      obtain ⟨hv, hhv⟩ : ∃ hv, hasF l N i = hv := ⟨_, rfl⟩
      obtain ⟨kv, hkv⟩ : ∃ kv, rankF l N i = kv := ⟨_, rfl⟩
      have HL := Lib.hid (And.intro hL ht)
      have HSV := Lib.hid hsv
      have HNV := Lib.hid hnv
      have HBV := Lib.hid hbv
      have HRV := Lib.hid hrv
      have HHV := Lib.hid hhv
      have HKV := Lib.hid hkv
      have HCV : Hid (rankF l N 65536 = t) := Lib.hid (by rw [count_len, hL, ht])
      have HI := Lib.hid hi
      obtain ⟨rs, hrs⟩ : ∃ rs, runsF l N = rs := ⟨_, rfl⟩
      have HRR := Lib.hid hrs
      have HRL : Hid (rs.length ≤ 100000) := Lib.hid (by rw [← hrs]; exact Nat.le_trans (runsF_len l N) (by decide))
      clear hrs
      clear hL ht tup hsv hnv hbv hrv hhv hkv hi
      by_cases h0 : i < 0
      · have d5 : decide ((0 : Int) ≤ i) = false := by simp; omega
        have hwv : wantV (selF l N i) = -1 := by rw [selF_neg h0]; rfl
        have HWV := Lib.hid hwv
        clear h0 hwv
        go_wp2_with (first
          | (go_at_call 21; refine (Before_any N i A5 n c5 l _ T5.out.sown hw).mono ?_; rw [HBV.out]; rintro e w6 ⟨rfl, k6⟩; have T6 := Lib.hid (T5.out.step k6); have Q6 := Lib.hid (Q5.out.below k6 (Nat.le_refl _)); have L6 := Lib.hid (L5.out.below k6 (Nat.le_refl _)); have y60 := T6.out.box5.c0; have y61 := T6.out.box5.c1; clear k6 y50 y51)
          | (go_at_call 20; refine (Next_any N i A5 n c5 l _ T4.out.sown hw).mono ?_; rw [HNV.out]; rintro e w5 ⟨rfl, k5⟩; have T5 := Lib.hid (T4.out.step k5); have Q5 := Lib.hid (Q4.out.below k5 (Nat.le_refl _)); have L5 := Lib.hid (L4.out.below k5 (Nat.le_refl _)); have y50 := T5.out.box5.c0; have y51 := T5.out.box5.c1; clear k5 y40 y41)
          | (go_at_call 19; refine (Select_any N i A5 n c5 l _ T3.out.sown hw HI.out.2).mono ?_; rw [HSV.out]; rintro e w4 ⟨rfl, k4⟩; have T4 := Lib.hid (T3.out.step k4); have Q4 := Lib.hid (Q3.out.below k4 (Nat.le_refl _)); have L4 := Lib.hid (L3.out.below k4 (Nat.le_refl _)); have y40 := T4.out.box5.c0; have y41 := T4.out.box5.c1; clear k4 y30 y31)
          | (go_at_call 44; refine (refMembers_any N A n c l _ (by exact T2.out.see.below ((Below.refl _ _).alloc (Nat.le_refl _) _) (Nat.le_refl _)) hw).mono ?_; rw [HL.out.1, HL.out.2]; rintro e w3 ⟨A3, c3, rfl, o3, k3⟩; have T3 := Lib.hid ((T2.out.step ((Below.refl wc.heap.size wc).alloc (Nat.le_refl _) (.cells #[.int .i64 N, .slice A n c] 55))).step k3); have Q3 := Lib.hid ((SetQ.new wc N A n c).below k3 (Nat.le_refl _)); have L3 := Lib.hid (sees_own o3); have y30 := T3.out.box5.c0; have y31 := T3.out.box5.c1; clear k3 o3))
        generalize wc.heap.size = b6 at Q6 ⊢
        have t6 := T6.out
        have q6 := Q6.out
        have hS0 : C3 w.heap.size b5 b6 N A A5 n c c5 w6 ∧ Below w6.heap.size w6 w6 := ⟨⟨C2.of t6.box2, C2.of t6.box5, q6.c0, q6.c1⟩, Below.refl _ _⟩
        clear t6 q6 y60 y61
        go_region_held3 (fun w' => C3 w.heap.size b5 b6 N A A5 n c c5 w' ∧ Below w6.heap.size w6 w') (first | exact keepT0 hS0 | exact keepT (by assumption) (by assumption) | assumption) (first
          | (go_at_call 34; refine (Right_any N A5 n c5 l _ (T6.out.sown.below (And.right (by assumption)) (Nat.le_refl _)) hw).mono ?_; rw [HRV.out]; rintro e w' ⟨rfl, kk⟩)
          | (go_at_call 40; refine (refRight_any N A n c l _ (T6.out.see.below (And.right (by assumption)) (Nat.le_refl _)) hw).mono ?_; rw [HRV.out]; rintro e w' ⟨rfl, kk⟩)
          | (go_at_call 22; refine (Has_any N i A5 n c5 l _ (T6.out.sown.below (And.right (by assumption)) (Nat.le_refl _)) hw).mono ?_; rw [HHV.out]; rintro e w' ⟨rfl, kk⟩)
          | (go_at_call 45; refine (refHas_any N i A n c l _ (T6.out.see.below (And.right (by assumption)) (Nat.le_refl _)) hw).mono ?_; rw [HHV.out]; rintro e w' ⟨rfl, kk⟩)
          | (go_at_call 17; refine (Count_any N A5 n c5 l _ (T6.out.sown.below (And.right (by assumption)) (Nat.le_refl _)) hw).mono ?_; rw [HCV.out]; rintro e w' ⟨rfl, kk⟩)
          | (go_at_call 16; refine (Members_any N A5 n c5 l _ (T6.out.sown.below (And.right (by assumption)) (Nat.le_refl _)) hw).mono ?_; rw [HL.out.1, HL.out.2]; rintro e w' ⟨Am, cm, rfl, om, kk⟩; have OM := Lib.hid (sees_own om); clear om)
          | (go_at_call 46; refine (SameInts_any Am _ t t cm c3 (castN L) (castN L) _ (by rw [← intsN_cast]; exact OM.out) (L6.out.below (And.right (by assumption)) (Nat.le_refl _))).mono ?_; rw [eqL_self]; rintro e w' ⟨rfl, kk⟩)
          | (go_at_call 18; refine (Rank_any N i A5 n c5 l _ (T6.out.sown.below (And.right (by assumption)) (Nat.le_refl _)) hw).mono ?_; rw [HKV.out]; rintro e w' ⟨rfl, kk⟩)
          | (go_at_call 47; refine (refRank_any N i A n c l _ (T6.out.see.below (And.right (by assumption)) (Nat.le_refl _)) hw).mono ?_; rw [HKV.out]; rintro e w' ⟨rfl, kk⟩)
          | (go_at_call 48; refine (asked_is (selF l N i) sa (-1) sb _ HSV.out HWV.out.symm).mono ?_; rintro e w' ⟨rfl, rfl⟩))
        rename_i hH
        have T7 := Lib.hid (T6.out.step hH.2)
        have Q7 := Lib.hid (Q6.out.below hH.2 (Nat.le_refl _))
        clear hH hS0 kk
        generalize w' = w7 at T7 Q7 ⊢
        go_wp2_with fail
        have t7 := T7.out
        have q7 := Q7.out
        have hS0 : C3 w.heap.size b5 b6 N A A5 n c c5 w7 ∧ Below w7.heap.size w7 w7 := ⟨⟨C2.of t7.box2, C2.of t7.box5, q7.c0, q7.c1⟩, Below.refl _ _⟩
        clear t7 q7
        go_region_held3 (fun w' => C3 w.heap.size b5 b6 N A A5 n c c5 w' ∧ Below w7.heap.size w7 w') (first | exact keepT0 hS0 | exact keepT (by assumption) (by assumption) | assumption) (first
          | (go_at_call 49; refine (refNext_any N i A n c l _ (T7.out.see.below (And.right (by assumption)) (Nat.le_refl _)) hw).mono ?_; rintro e w' ⟨rfl, kk⟩)
          | (go_at_call 50; refine (refBefore_any N i A n c l _ (T7.out.see.below (And.right (by assumption)) (Nat.le_refl _)) hw).mono ?_; rintro e w' ⟨rfl, kk⟩)
          | (go_at_call_of 48 (Value.int .i64 na); refine (asked_same (nextF l N i) na nb _ HNV.out).mono ?_; rintro e w' ⟨rfl, rfl⟩)
          | (go_at_call_of 48 (Value.int .i64 ba); refine (asked_same (beforeF l N i) ba bb _ HBV.out).mono ?_; rintro e w' ⟨rfl, rfl⟩)
          | (go_at_call 29; refine (Runs_any N A5 n c5 l _ (T7.out.sown.below (And.right (by assumption)) (Nat.le_refl _)) hw).mono ?_; rw [HRR.out]; rintro e w' ⟨Ar, cr, rfl, oR, kk⟩; have OR := Lib.hid (sees_own oR); clear oR; try (have OQ2 := Lib.hid (OQ.out.below kk (Nat.le_refl _))))
          | (go_at_call 51; refine (refRuns_any N A n c l _ (T7.out.see.below (And.right (by assumption)) (Nat.le_refl _)) hw).mono ?_; rw [HRR.out]; rintro e w' ⟨Aq, cq, rfl, oQ, kk⟩; have OQ := Lib.hid (sees_own oQ); clear oQ; try (have OR2 := Lib.hid (OR.out.below kk (Nat.le_refl _))))
          | (go_at_call 43; refine (sameRuns_same Ar Aq rs.length cr cq rs _ (by first | exact OR2.out | exact OR.out) (by first | exact OQ2.out | exact OQ.out) HRL.out).mono ?_; rintro e w' ⟨rfl, kk⟩)
          | (go_at_call 39; refine (KeptNums_any A5 A n c5 c l _ (T7.out.own.below (And.right (by assumption)) (Nat.le_refl _)) (T7.out.see.below (And.right (by assumption)) (Nat.le_refl _)) (by have := HN.out; omega)).mono ?_; rintro e w' ⟨rfl, kk⟩))
        all_goals rename_i hH
        all_goals go_wp2_with fail
        all_goals go_ret
        all_goals exact ⟨rfl, T7.out.bel.trans (hH.2.mono T7.out.bel.size)⟩
      · have d5 : decide ((0 : Int) ≤ i) = true := by simp; omega
        obtain ⟨k, rfl⟩ : ∃ k : Nat, i = (k : Int) := ⟨i.toNat, by omega⟩
        clear h0
        by_cases hkt : k < t
        · have d6 : decide ((k : Int) < (t : Int)) = true := by simp; omega
          have hk2 : (k : Int) < (t : Int) := by omega
          obtain ⟨x, hx⟩ : ∃ x, L[k]? = some x := ⟨_, List.getElem?_eq_getElem (by rw [HL.out.2]; exact hkt)⟩
          have HWV : Hid (wantV (selF l N (k : Int)) = (x : Int)) := Lib.hid (by rw [selF_mem, HL.out.1, hx]; rfl)
          have HX15 := Lib.hid (castN_at hx)
          have HKT := Lib.hid hkt
          clear hkt hx
          go_wp2_with (first
            | (go_at_call 21; refine (Before_any N (k : Int) A5 n c5 l _ T5.out.sown hw).mono ?_; rw [HBV.out]; rintro e w6 ⟨rfl, k6⟩; have T6 := Lib.hid (T5.out.step k6); have Q6 := Lib.hid (Q5.out.below k6 (Nat.le_refl _)); have L6 := Lib.hid (L5.out.below k6 (Nat.le_refl _)); have y60 := T6.out.box5.c0; have y61 := T6.out.box5.c1; clear k6 y50 y51)
            | (go_at_call 20; refine (Next_any N (k : Int) A5 n c5 l _ T4.out.sown hw).mono ?_; rw [HNV.out]; rintro e w5 ⟨rfl, k5⟩; have T5 := Lib.hid (T4.out.step k5); have Q5 := Lib.hid (Q4.out.below k5 (Nat.le_refl _)); have L5 := Lib.hid (L4.out.below k5 (Nat.le_refl _)); have y50 := T5.out.box5.c0; have y51 := T5.out.box5.c1; clear k5 y40 y41)
            | (go_at_call 19; refine (Select_any N (k : Int) A5 n c5 l _ T3.out.sown hw HI.out.2).mono ?_; rw [HSV.out]; rintro e w4 ⟨rfl, k4⟩; have T4 := Lib.hid (T3.out.step k4); have Q4 := Lib.hid (Q3.out.below k4 (Nat.le_refl _)); have L4 := Lib.hid (L3.out.below k4 (Nat.le_refl _)); have y40 := T4.out.box5.c0; have y41 := T4.out.box5.c1; obtain ⟨ba2, oa2, hA2, g15⟩ := L4.out.int HKT.out; subst hA2; rw [HX15.out] at g15; clear k4 y30 y31)
            | (go_at_call 44; refine (refMembers_any N A n c l _ (by exact T2.out.see.below ((Below.refl _ _).alloc (Nat.le_refl _) _) (Nat.le_refl _)) hw).mono ?_; rw [HL.out.1, HL.out.2]; rintro e w3 ⟨A3, c3, rfl, o3, k3⟩; have T3 := Lib.hid ((T2.out.step ((Below.refl wc.heap.size wc).alloc (Nat.le_refl _) (.cells #[.int .i64 N, .slice A n c] 55))).step k3); have Q3 := Lib.hid ((SetQ.new wc N A n c).below k3 (Nat.le_refl _)); have L3 := Lib.hid (sees_own o3); have y30 := T3.out.box5.c0; have y31 := T3.out.box5.c1; clear k3 o3))
          generalize wc.heap.size = b6 at Q6 ⊢
          have t6 := T6.out
          have q6 := Q6.out
          have hS0 : C3 w.heap.size b5 b6 N A A5 n c c5 w6 ∧ Below w6.heap.size w6 w6 := ⟨⟨C2.of t6.box2, C2.of t6.box5, q6.c0, q6.c1⟩, Below.refl _ _⟩
          clear t6 q6 y60 y61
          go_region_held3 (fun w' => C3 w.heap.size b5 b6 N A A5 n c c5 w' ∧ Below w6.heap.size w6 w') (first | exact keepT0 hS0 | exact keepT (by assumption) (by assumption) | assumption) (first
            | (go_at_call 34; refine (Right_any N A5 n c5 l _ (T6.out.sown.below (And.right (by assumption)) (Nat.le_refl _)) hw).mono ?_; rw [HRV.out]; rintro e w' ⟨rfl, kk⟩)
            | (go_at_call 40; refine (refRight_any N A n c l _ (T6.out.see.below (And.right (by assumption)) (Nat.le_refl _)) hw).mono ?_; rw [HRV.out]; rintro e w' ⟨rfl, kk⟩)
            | (go_at_call 22; refine (Has_any N (k : Int) A5 n c5 l _ (T6.out.sown.below (And.right (by assumption)) (Nat.le_refl _)) hw).mono ?_; rw [HHV.out]; rintro e w' ⟨rfl, kk⟩)
            | (go_at_call 45; refine (refHas_any N (k : Int) A n c l _ (T6.out.see.below (And.right (by assumption)) (Nat.le_refl _)) hw).mono ?_; rw [HHV.out]; rintro e w' ⟨rfl, kk⟩)
            | (go_at_call 17; refine (Count_any N A5 n c5 l _ (T6.out.sown.below (And.right (by assumption)) (Nat.le_refl _)) hw).mono ?_; rw [HCV.out]; rintro e w' ⟨rfl, kk⟩)
            | (go_at_call 16; refine (Members_any N A5 n c5 l _ (T6.out.sown.below (And.right (by assumption)) (Nat.le_refl _)) hw).mono ?_; rw [HL.out.1, HL.out.2]; rintro e w' ⟨Am, cm, rfl, om, kk⟩; have OM := Lib.hid (sees_own om); clear om)
            | (go_at_call 46; refine (SameInts_any Am _ t t cm c3 (castN L) (castN L) _ (by rw [← intsN_cast]; exact OM.out) (L6.out.below (And.right (by assumption)) (Nat.le_refl _))).mono ?_; rw [eqL_self]; rintro e w' ⟨rfl, kk⟩)
            | (go_at_call 18; refine (Rank_any N (k : Int) A5 n c5 l _ (T6.out.sown.below (And.right (by assumption)) (Nat.le_refl _)) hw).mono ?_; rw [HKV.out]; rintro e w' ⟨rfl, kk⟩)
            | (go_at_call 47; refine (refRank_any N (k : Int) A n c l _ (T6.out.see.below (And.right (by assumption)) (Nat.le_refl _)) hw).mono ?_; rw [HKV.out]; rintro e w' ⟨rfl, kk⟩)
            | (go_at_call 48; refine (asked_is (selF l N (k : Int)) sa ((x : Int)) sb _ HSV.out HWV.out.symm).mono ?_; rintro e w' ⟨rfl, rfl⟩))
          rename_i hH
          have T7 := Lib.hid (T6.out.step hH.2)
          have Q7 := Lib.hid (Q6.out.below hH.2 (Nat.le_refl _))
          clear hH hS0 kk
          generalize w' = w7 at T7 Q7 ⊢
          go_wp2_with fail
          have t7 := T7.out
          have q7 := Q7.out
          have hS0 : C3 w.heap.size b5 b6 N A A5 n c c5 w7 ∧ Below w7.heap.size w7 w7 := ⟨⟨C2.of t7.box2, C2.of t7.box5, q7.c0, q7.c1⟩, Below.refl _ _⟩
          clear t7 q7
          go_region_held3 (fun w' => C3 w.heap.size b5 b6 N A A5 n c c5 w' ∧ Below w7.heap.size w7 w') (first | exact keepT0 hS0 | exact keepT (by assumption) (by assumption) | assumption) (first
            | (go_at_call 49; refine (refNext_any N (k : Int) A n c l _ (T7.out.see.below (And.right (by assumption)) (Nat.le_refl _)) hw).mono ?_; rintro e w' ⟨rfl, kk⟩)
            | (go_at_call 50; refine (refBefore_any N (k : Int) A n c l _ (T7.out.see.below (And.right (by assumption)) (Nat.le_refl _)) hw).mono ?_; rintro e w' ⟨rfl, kk⟩)
            | (go_at_call_of 48 (Value.int .i64 na); refine (asked_same (nextF l N (k : Int)) na nb _ HNV.out).mono ?_; rintro e w' ⟨rfl, rfl⟩)
            | (go_at_call_of 48 (Value.int .i64 ba); refine (asked_same (beforeF l N (k : Int)) ba bb _ HBV.out).mono ?_; rintro e w' ⟨rfl, rfl⟩)
            | (go_at_call 29; refine (Runs_any N A5 n c5 l _ (T7.out.sown.below (And.right (by assumption)) (Nat.le_refl _)) hw).mono ?_; rw [HRR.out]; rintro e w' ⟨Ar, cr, rfl, oR, kk⟩; have OR := Lib.hid (sees_own oR); clear oR; try (have OQ2 := Lib.hid (OQ.out.below kk (Nat.le_refl _))))
            | (go_at_call 51; refine (refRuns_any N A n c l _ (T7.out.see.below (And.right (by assumption)) (Nat.le_refl _)) hw).mono ?_; rw [HRR.out]; rintro e w' ⟨Aq, cq, rfl, oQ, kk⟩; have OQ := Lib.hid (sees_own oQ); clear oQ; try (have OR2 := Lib.hid (OR.out.below kk (Nat.le_refl _))))
            | (go_at_call 43; refine (sameRuns_same Ar Aq rs.length cr cq rs _ (by first | exact OR2.out | exact OR.out) (by first | exact OQ2.out | exact OQ.out) HRL.out).mono ?_; rintro e w' ⟨rfl, kk⟩)
            | (go_at_call 39; refine (KeptNums_any A5 A n c5 c l _ (T7.out.own.below (And.right (by assumption)) (Nat.le_refl _)) (T7.out.see.below (And.right (by assumption)) (Nat.le_refl _)) (by have := HN.out; omega)).mono ?_; rintro e w' ⟨rfl, kk⟩))
          all_goals rename_i hH
          all_goals go_wp2_with fail
          all_goals go_ret
          all_goals exact ⟨rfl, T7.out.bel.trans (hH.2.mono T7.out.bel.size)⟩
        · have d6 : decide ((k : Int) < (t : Int)) = false := by simp; omega
          have d6' : decide (k < t) = false := by simp; omega
          have HWV : Hid (wantV (selF l N (k : Int)) = -1) := Lib.hid (by rw [selF_mem, HL.out.1, List.getElem?_eq_none (by rw [HL.out.2]; omega)]; rfl)
          clear hkt
          go_wp2_with (first
            | (go_at_call 21; refine (Before_any N (k : Int) A5 n c5 l _ T5.out.sown hw).mono ?_; rw [HBV.out]; rintro e w6 ⟨rfl, k6⟩; have T6 := Lib.hid (T5.out.step k6); have Q6 := Lib.hid (Q5.out.below k6 (Nat.le_refl _)); have L6 := Lib.hid (L5.out.below k6 (Nat.le_refl _)); have y60 := T6.out.box5.c0; have y61 := T6.out.box5.c1; clear k6 y50 y51)
            | (go_at_call 20; refine (Next_any N (k : Int) A5 n c5 l _ T4.out.sown hw).mono ?_; rw [HNV.out]; rintro e w5 ⟨rfl, k5⟩; have T5 := Lib.hid (T4.out.step k5); have Q5 := Lib.hid (Q4.out.below k5 (Nat.le_refl _)); have L5 := Lib.hid (L4.out.below k5 (Nat.le_refl _)); have y50 := T5.out.box5.c0; have y51 := T5.out.box5.c1; clear k5 y40 y41)
            | (go_at_call 19; refine (Select_any N (k : Int) A5 n c5 l _ T3.out.sown hw HI.out.2).mono ?_; rw [HSV.out]; rintro e w4 ⟨rfl, k4⟩; have T4 := Lib.hid (T3.out.step k4); have Q4 := Lib.hid (Q3.out.below k4 (Nat.le_refl _)); have L4 := Lib.hid (L3.out.below k4 (Nat.le_refl _)); have y40 := T4.out.box5.c0; have y41 := T4.out.box5.c1; clear k4 y30 y31)
            | (go_at_call 44; refine (refMembers_any N A n c l _ (by exact T2.out.see.below ((Below.refl _ _).alloc (Nat.le_refl _) _) (Nat.le_refl _)) hw).mono ?_; rw [HL.out.1, HL.out.2]; rintro e w3 ⟨A3, c3, rfl, o3, k3⟩; have T3 := Lib.hid ((T2.out.step ((Below.refl wc.heap.size wc).alloc (Nat.le_refl _) (.cells #[.int .i64 N, .slice A n c] 55))).step k3); have Q3 := Lib.hid ((SetQ.new wc N A n c).below k3 (Nat.le_refl _)); have L3 := Lib.hid (sees_own o3); have y30 := T3.out.box5.c0; have y31 := T3.out.box5.c1; clear k3 o3))
          generalize wc.heap.size = b6 at Q6 ⊢
          have t6 := T6.out
          have q6 := Q6.out
          have hS0 : C3 w.heap.size b5 b6 N A A5 n c c5 w6 ∧ Below w6.heap.size w6 w6 := ⟨⟨C2.of t6.box2, C2.of t6.box5, q6.c0, q6.c1⟩, Below.refl _ _⟩
          clear t6 q6 y60 y61
          go_region_held3 (fun w' => C3 w.heap.size b5 b6 N A A5 n c c5 w' ∧ Below w6.heap.size w6 w') (first | exact keepT0 hS0 | exact keepT (by assumption) (by assumption) | assumption) (first
            | (go_at_call 34; refine (Right_any N A5 n c5 l _ (T6.out.sown.below (And.right (by assumption)) (Nat.le_refl _)) hw).mono ?_; rw [HRV.out]; rintro e w' ⟨rfl, kk⟩)
            | (go_at_call 40; refine (refRight_any N A n c l _ (T6.out.see.below (And.right (by assumption)) (Nat.le_refl _)) hw).mono ?_; rw [HRV.out]; rintro e w' ⟨rfl, kk⟩)
            | (go_at_call 22; refine (Has_any N (k : Int) A5 n c5 l _ (T6.out.sown.below (And.right (by assumption)) (Nat.le_refl _)) hw).mono ?_; rw [HHV.out]; rintro e w' ⟨rfl, kk⟩)
            | (go_at_call 45; refine (refHas_any N (k : Int) A n c l _ (T6.out.see.below (And.right (by assumption)) (Nat.le_refl _)) hw).mono ?_; rw [HHV.out]; rintro e w' ⟨rfl, kk⟩)
            | (go_at_call 17; refine (Count_any N A5 n c5 l _ (T6.out.sown.below (And.right (by assumption)) (Nat.le_refl _)) hw).mono ?_; rw [HCV.out]; rintro e w' ⟨rfl, kk⟩)
            | (go_at_call 16; refine (Members_any N A5 n c5 l _ (T6.out.sown.below (And.right (by assumption)) (Nat.le_refl _)) hw).mono ?_; rw [HL.out.1, HL.out.2]; rintro e w' ⟨Am, cm, rfl, om, kk⟩; have OM := Lib.hid (sees_own om); clear om)
            | (go_at_call 46; refine (SameInts_any Am _ t t cm c3 (castN L) (castN L) _ (by rw [← intsN_cast]; exact OM.out) (L6.out.below (And.right (by assumption)) (Nat.le_refl _))).mono ?_; rw [eqL_self]; rintro e w' ⟨rfl, kk⟩)
            | (go_at_call 18; refine (Rank_any N (k : Int) A5 n c5 l _ (T6.out.sown.below (And.right (by assumption)) (Nat.le_refl _)) hw).mono ?_; rw [HKV.out]; rintro e w' ⟨rfl, kk⟩)
            | (go_at_call 47; refine (refRank_any N (k : Int) A n c l _ (T6.out.see.below (And.right (by assumption)) (Nat.le_refl _)) hw).mono ?_; rw [HKV.out]; rintro e w' ⟨rfl, kk⟩)
            | (go_at_call 48; refine (asked_is (selF l N (k : Int)) sa (-1) sb _ HSV.out HWV.out.symm).mono ?_; rintro e w' ⟨rfl, rfl⟩))
          rename_i hH
          have T7 := Lib.hid (T6.out.step hH.2)
          have Q7 := Lib.hid (Q6.out.below hH.2 (Nat.le_refl _))
          clear hH hS0 kk
          generalize w' = w7 at T7 Q7 ⊢
          go_wp2_with fail
          have t7 := T7.out
          have q7 := Q7.out
          have hS0 : C3 w.heap.size b5 b6 N A A5 n c c5 w7 ∧ Below w7.heap.size w7 w7 := ⟨⟨C2.of t7.box2, C2.of t7.box5, q7.c0, q7.c1⟩, Below.refl _ _⟩
          clear t7 q7
          go_region_held3 (fun w' => C3 w.heap.size b5 b6 N A A5 n c c5 w' ∧ Below w7.heap.size w7 w') (first | exact keepT0 hS0 | exact keepT (by assumption) (by assumption) | assumption) (first
            | (go_at_call 49; refine (refNext_any N (k : Int) A n c l _ (T7.out.see.below (And.right (by assumption)) (Nat.le_refl _)) hw).mono ?_; rintro e w' ⟨rfl, kk⟩)
            | (go_at_call 50; refine (refBefore_any N (k : Int) A n c l _ (T7.out.see.below (And.right (by assumption)) (Nat.le_refl _)) hw).mono ?_; rintro e w' ⟨rfl, kk⟩)
            | (go_at_call_of 48 (Value.int .i64 na); refine (asked_same (nextF l N (k : Int)) na nb _ HNV.out).mono ?_; rintro e w' ⟨rfl, rfl⟩)
            | (go_at_call_of 48 (Value.int .i64 ba); refine (asked_same (beforeF l N (k : Int)) ba bb _ HBV.out).mono ?_; rintro e w' ⟨rfl, rfl⟩)
            | (go_at_call 29; refine (Runs_any N A5 n c5 l _ (T7.out.sown.below (And.right (by assumption)) (Nat.le_refl _)) hw).mono ?_; rw [HRR.out]; rintro e w' ⟨Ar, cr, rfl, oR, kk⟩; have OR := Lib.hid (sees_own oR); clear oR; try (have OQ2 := Lib.hid (OQ.out.below kk (Nat.le_refl _))))
            | (go_at_call 51; refine (refRuns_any N A n c l _ (T7.out.see.below (And.right (by assumption)) (Nat.le_refl _)) hw).mono ?_; rw [HRR.out]; rintro e w' ⟨Aq, cq, rfl, oQ, kk⟩; have OQ := Lib.hid (sees_own oQ); clear oQ; try (have OR2 := Lib.hid (OR.out.below kk (Nat.le_refl _))))
            | (go_at_call 43; refine (sameRuns_same Ar Aq rs.length cr cq rs _ (by first | exact OR2.out | exact OR.out) (by first | exact OQ2.out | exact OQ.out) HRL.out).mono ?_; rintro e w' ⟨rfl, kk⟩)
            | (go_at_call 39; refine (KeptNums_any A5 A n c5 c l _ (T7.out.own.below (And.right (by assumption)) (Nat.le_refl _)) (T7.out.see.below (And.right (by assumption)) (Nat.le_refl _)) (by have := HN.out; omega)).mono ?_; rintro e w' ⟨rfl, kk⟩))
          all_goals rename_i hH
          all_goals go_wp2_with fail
          all_goals go_ret
          all_goals exact ⟨rfl, T7.out.bel.trans (hH.2.mono T7.out.bel.size)⟩
end Go.Proofs.Ytemhoaleeefhhaa
