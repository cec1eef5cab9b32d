/- Select. -/
import Derived.Test.YtemhoaleeefhhaaProg
import Derived.Test.YtemhoaleeefhhaaBg
namespace Go.Proofs.Ytemhoaleeefhhaa
open Go.RowKit Go.Shelf
set_option linter.unusedVariables false
attribute [local go_sem] Oper.semAt_some

set_option maxRecDepth 100000 in
set_option maxHeartbeats 6400000 in
theorem Select_in (N k : Nat) (A : Option Addr) (n c : Nat) (l : List Int) (w : World) (hs : Sees w 1 A n c (l.map (Value.int .u64))) (hw : W64 l) (hr : RightW (N : Int) l) (hk : k ≤ 9223372036854775807) :
    CallsIn Fence.wide 9 Try.prog 19 #[setv (N : Int) A n c, .int .i64 (k : Int)] w fun e w' => e = .returned (optV (mem l N)[k]?) ∧ Below w.heap.size w w' := by
  have hF : ∀ k, Fence.wide.fn k := fun _ => trivial
  have hl := hs.length
  have HNN := Lib.hid (show N ≤ 64 * n ∧ N ≤ 65536 ∧ (n : Int) = ((N : Int) + 63) / 64 by have h1 := hr.2.1; have h2 := hr.2.2.1; omega)
  obtain ⟨wA, hwA⟩ : ∃ wA, (((w.alloc (.cells #[.int .i64 (N : Int), .slice A n c] 24)).alloc (.cells #[.int .i64 (k : Int)] 3)).alloc (.cells #[.int .i64 0] 3)).alloc (.cells #[.bool false] 4) = wA := ⟨_, rfl⟩
  have hB0 : Below w.heap.size w wA := by rw [← hwA]; exact ((((Below.refl _ _).alloc (Nat.le_refl _) _).alloc (by simp) _).alloc (by simp; omega) _).alloc (by simp; omega) _
  have hsz0 : wA.heap.size = w.heap.size + 4 := by rw [← hwA]; simp
  have bS : wA.heap[w.heap.size]? = some (.cells #[.int .i64 (N : Int), .slice A n c] 24 (0, 0)) := by
    rw [← hwA]; exact lit_skipB (lit_skipB (lit_skipB (lit_newB rfl)))
  have bL : SlB w (k : Int) 0 false wA := by
    refine ⟨⟨?_, ?_, ?_⟩, hB0⟩
    · rw [← hwA]; exact lit_skipB (lit_skipB (lit_newB (by simp)))
    · rw [← hwA]; exact lit_skipB (lit_newB (by simp))
    · rw [← hwA]; exact lit_newB (by simp)
  have HR := Lib.hid hr
  have HRT := Lib.hid (decide_eq_true hr)
  have HSE := Lib.hid hs
  have HWA := Lib.hid hwA
  have HW0 := Lib.hid (And.intro hB0 (And.intro hsz0 (And.intro bS bL)))
  have y0 : wA.cell? ⟨w.heap.size, 0, none⟩ = some (.int .i64 (N : Int)) := by simp [World.cell?, bS]
  have y1 : wA.cell? ⟨w.heap.size, 1, none⟩ = some (.slice A n c) := by simp [World.cell?, bS]
  have hk2 : (k : Int) ≤ 9223372036854775807 := by omega
  have dk : decide ((k : Int) < 0) = false := by simp
  have hcm : n ≤ 9223372036854775807 := Nat.le_trans hs.cap hs.capm
  clear hs hr hB0 hsz0 bL bS hwA hk
  refine callsIn_of_wp_marks Try.func19 rfl trivial ?_ rfl
  simp only [Try.ntmps19, List.size_toArray, List.length_cons, List.length_nil, Nat.reduceAdd, Nat.reduceSub, Array.replicate_succ, Array.replicate_zero, List.push_toArray, List.append_toArray, List.nil_append, List.cons_append]
  gi_wp2_with (gi_at_call 34; rw [HWA.out]; refine (callsIn_wide.2 (Right_any (N : Int) A n c l _ (HSE.out.below HW0.out.1 (Nat.le_refl _)) hw)).mono ?_; rw [HRT.out]; rintro e w1 ⟨rfl, k1⟩; have X1 := (k1.block w.heap.size (by rw [HW0.out.2.1]; omega)).trans HW0.out.2.2.1; have z0 : w1.cell? ⟨w.heap.size, 0, none⟩ = some (.int .i64 (N : Int)) := (by simp [World.cell?, X1]); have z1 : w1.cell? ⟨w.heap.size, 1, none⟩ = some (.slice A n c) := (by simp [World.cell?, X1]); have L1 := HW0.out.2.2.2.below k1 (Nat.le_refl _); have l1 := L1.1.1.cell; have X1 := Lib.hid X1; have L1 := Lib.hid L1; clear k1)
  gi_loopw [20] (fun wv wr => ∃ (j kc : Nat), Hid (j ≤ n) ∧ wv = .int .i64 (j : Int) ∧ Hid (k = cnt l (64 * j) + kc) ∧ Hid (SlB w (kc : Int) 0 false wr ∧ wr.heap[w.heap.size]? = some (.cells #[.int .i64 (N : Int), .slice A n c] 24 (0, 0)))) (fun wv _ => n - (intOf wv).toNat)
  case atStart => exact ⟨0, k, Lib.hid (Nat.zero_le _), rfl, Lib.hid (by simp [cnt]), Lib.hid ⟨L1.out, X1.out⟩⟩
  case round =>
    obtain ⟨j, kc, HJ, rfl, HC, HL⟩ := hrel
    clear L1 X1 z0 z1 l1 y0 y1
    have hb := HL.out.1.2
    have k1 := HL.out.1.1.1.cell
    have kf1 := HL.out.1.1.1.frozen
    have hkc : (kc : Int) ≤ 9223372036854775807 := by have := HC.out; omega
    by_cases hlt : j < n
    · obtain ⟨b, o, hA, g1⟩ := (HSE.out.below hb (Nat.le_refl _)).int (k := j) hlt
      subst hA
      have hx := hw.at_ j
      have hcw := cnt_word l hw j
      have hpl := pc_le hx.1 hx.2
      have hsl := fun (h1 : kc < pc (l.getD j 0).toNat) => sel_long hw HR.out (j := j) (kc := kc) (by have := HNN.out; omega) h1
      generalize l.getD j 0 = x at hx g1 hcw hpl hsl
      have HXB : Hid (0 ≤ x ∧ x < 18446744073709551616) := Lib.hid (by omega)
      obtain ⟨p, hp⟩ : ∃ p, pc x.toNat = p := ⟨_, rfl⟩
      rw [hp] at hcw hpl hsl
      have HCW := Lib.hid hcw
      have HPC := Lib.hid hp
      have HSL := Lib.hid hsl
      have hpl2 : (p : Int) ≤ 64 := by omega
      have d1 : decide ((j : Int) < (n : Int)) = true := by simp; omega
      have hj2 : (j : Int) < (n : Int) := by omega
      have hj3 : (j : Int) ≤ 1024 := by have := HNN.out; omega
      have HLT := Lib.hid hlt
      clear hlt hx hcw hpl hp hsl
      have X2 := HL.out.2
      have z0 : wr.cell? ⟨w.heap.size, 0, none⟩ = some (.int .i64 (N : Int)) := by simp [World.cell?, X2]
      have z1 : wr.cell? ⟨w.heap.size, 1, none⟩ = some (.slice (some ⟨b, o, none⟩) n c) := by simp [World.cell?, X2]
      clear X2
      by_cases hpk : p ≤ kc
      · have d2 : decide ((p : Int) ≤ (kc : Int)) = true := by simp; omega
        have d2' : decide (p ≤ kc) = true := by simp; omega
        have HPK := Lib.hid hpk
        have hpk2 : (p : Int) ≤ (kc : Int) := by omega
        clear hpk
        gi_wp2_with (gi_at_call 53; refine (callsIn_wide.2 (ones_any x _ HXB.out.1 HXB.out.2)).mono ?_; rw [HPC.out]; rintro e w2 ⟨rfl, rfl⟩)
        go_roundw
        case rel => exact ⟨j + 1, kc - p, Lib.hid HLT.out, by go_num, Lib.hid (by rw [HCW.out]; have := HC.out; have := HPK.out; omega), Lib.hid ⟨by rw [show ((kc - p : Nat) : Int) = (kc : Int) - (p : Int) by have := HPK.out; omega]; exact HL.out.1.setK _, (Below.heap_setCell _ _ _ _ (by show w.heap.size ≠ w.heap.size + 1; omega)).trans HL.out.2⟩⟩
        case measure => have := HLT.out; simp [intOf]; omega
      · have d2 : decide ((p : Int) ≤ (kc : Int)) = false := by simp; omega
        have d2' : decide (p ≤ kc) = false := by simp; omega
        have HPK := Lib.hid (HSL.out (by omega))
        have h64 : IntKind.i64.wrap (64 * (j : Int)) = 64 * (j : Int) := IntWalk.i64_in _ (by omega)
        clear hpk
        gi_wp2_with (first
          | (gi_at_call 52; refine (callsIn_wide.2 (members_any (N : Int) _ _ n c _)).mono ?_; rintro e w2 ⟨rfl, rfl⟩)
          | (gi_at_call 53; refine (callsIn_wide.2 (ones_any x _ HXB.out.1 HXB.out.2)).mono ?_; rw [HPC.out]; rintro e w2 ⟨rfl, rfl⟩))
        obtain ⟨W0, hW0⟩ : ∃ W0, (wr.alloc (.cells #[.int .i64 (N : Int), .slice (some ⟨b, o, none⟩) n c] 24)).alloc (.cells #[.int .i64 (64 * (j : Int))] 3) = W0 := ⟨_, rfl⟩
        have hz1 : w.heap.size + 4 ≤ wr.heap.size := by have h9 := HL.out.1.1.2.2.lt; omega
        have hbw : Below wr.heap.size wr W0 := by rw [← hW0]; exact ((Below.refl _ _).alloc (Nat.le_refl _) _).alloc (by simp) _
        have bL := HL.out.1.below hbw (Nat.le_refl _)
        have bS : W0.heap[wr.heap.size]? = some (.cells #[.int .i64 (N : Int), .slice (some ⟨b, o, none⟩) n c] 24 (0, 0)) := by
          rw [← hW0]; exact lit_skipB (lit_newB rfl)
        have bF : W0.cell? ⟨wr.heap.size + 1, 0, none⟩ = some (.int .i64 (64 * (j : Int))) := by
          have h9 : W0.heap[wr.heap.size + 1]? = some (.cells #[.int .i64 (64 * (j : Int))] 3 (0, 0)) := by rw [← hW0]; exact lit_newB (by simp)
          simp [World.cell?, h9]
        have hz2 : W0.heap.size = wr.heap.size + 2 := by rw [← hW0]; simp
        rw [hW0]
        clear z0 z1 hW0 k1 kf1 hbw
        generalize wr.heap.size = Bs at bS bF hz1 hz2 ⊢
        refine wpIn_rangeFunc_ownH rfl (by decide) (gf := 68) (lb := #[.pointer (some ⟨Bs + 1, 0, none⟩), .pointer (some ⟨Bs, 0, none⟩)]) rfl trivial (enters_of Try.func68 (by kernel_rfl) rfl)
          (members_stops _ Bs (Bs + 1) w.heap.size N (64 * j) (64 * (j : Int)) (some ⟨b, o, none⟩) n c l W0 HNN.out.1 HNN.out.2.1 (by omega) hw (by omega) (by omega) bS bF (fun W' hW' => HSE.out.below (bL.2.trans hW') (Nat.le_refl _))) KeepsO.trans (keepsO_b (by omega) (by omega)) (Below.refl _ _) (fun _ => rfl)
          (fun pre W => pre.length ≤ kc ∧ (SlB w ((kc - pre.length : Nat) : Int) 0 false W ∧ W.heap[Bs]? = some (.cells #[.int .i64 (N : Int), .slice (some ⟨b, o, none⟩) n c] 24 (0, 0))))
          (fun j' pre W => j' = Code.ret ∧ ∃ (pre0 : List Nat) (z : Nat), pre = pre0 ++ [z] ∧ pre0.length = kc ∧ SlB w 0 (z : Int) true W)
          (OwnFrom.and (ownFrom_pure _ _) (OwnFrom.and (fun s X Y row hs hg hr => SlB.own w _ 0 false _ (by omega) (β := Unit) () X Y row hs hg hr) (Own.from (block_ownB _ _ _ _) _)))
          (fun _ => fun s X Y row hs hg hr => by
            obtain ⟨e, pre0, z, h1, h2, h3⟩ := hs
            exact ⟨e, pre0, z, h1, h2, SlB.own w _ _ _ _ (by omega) (β := Unit) () X Y row h3 hg hr⟩)
          ⟨Nat.zero_le _, bL, bS⟩
          (fun z a' W => a' = { tmps := #[setv (N : Int) (some ⟨b, o, none⟩) n c, .int .i64 (k : Int), .pointer (some ⟨w.heap.size, 0, none⟩), .pointer (some ⟨w.heap.size + 1, 0, none⟩), .pointer (some ⟨w.heap.size + 1 + 1, 0, none⟩), .pointer (some ⟨w.heap.size + 1 + 1 + 1, 0, none⟩), .int .i64 (j : Int), .int .u64 x, .int .i64 (p : Int), .int .i64 (z : Int), .agg #[.int .i64 (N : Int), .slice (some ⟨b, o, none⟩) n c], .bool true, .bool false, .bool false, .int .i64 (k : Int), .bool false, .bool false, .pointer (some ⟨w.heap.size, 1, none⟩), .slice (some ⟨b, o, none⟩) n c, .int .i64 (n : Int), .int .i64 (j : Int), .bool true, .int .i64 (j : Int), .pointer (some ⟨b, o + j, none⟩), .int .u64 x, .int .u64 x, .int .i64 (p : Int), .int .i64 (kc : Int), .int .i64 (p : Int), .bool false, u30, u31, u32, .agg #[.int .i64 (N : Int), .slice (some ⟨b, o, none⟩) n c], .int .i64 (j : Int), .int .i64 (64 * (j : Int)), .func (.func 68) #[] #[.pointer (some ⟨Bs + 1, 0, none⟩), .pointer (some ⟨Bs, 0, none⟩)], .int .i64 (z : Int), u38, u39, u40, u41, u42, u43], defers := [] })
          (fun x a' => fun _ X Y row hs hg hr => hs) ?assign ?body ?done ?stop
        case assign =>
          rintro y pre z W K hi hK
          unfold enM
          gi_wp2
          exact hK _ _ ((KeepsOthers.refl _).from _) (KeepsO.refl _ _ _) hi rfl
        case body =>
          rintro y pre z a' W hl ⟨r, hr⟩ ⟨hple, hL, hE⟩ rfl hlt2
          have hc1 := hL.1.1.cell
          have hf1 := hL.1.1.frozen
          have hc2 : W.cell? ⟨w.heap.size + 1 + 1, 0, none⟩ = some (.int .i64 0) := hL.1.2.1.cell
          have hf2 : W.frozen? ⟨w.heap.size + 1 + 1, 0, none⟩ = false := hL.1.2.1.frozen
          have hc3 : W.cell? ⟨w.heap.size + 1 + 1 + 1, 0, none⟩ = some (.bool false) := hL.1.2.2.cell
          have hf3 : W.frozen? ⟨w.heap.size + 1 + 1 + 1, 0, none⟩ = false := hL.1.2.2.frozen
          obtain ⟨q, hq⟩ : ∃ q : Nat, kc - pre.length = q := ⟨_, rfl⟩
          rw [hq] at hc1 hL
          by_cases hq0 : q = 0
          · have d3 : ((q : Int) == 0) = true := by simpa using hq0
            clear hlt2
            gi_wp2
            exact ⟨((KeepsOthers.setCell _ _ _).trans (KeepsOthers.setCell _ _ _)).from _, rfl, pre, z, rfl, by omega, by rw [show (0 : Int) = (q : Int) by omega]; exact hL.setR (z : Int) true⟩
          · have d3 : ((q : Int) == 0) = false := by simpa using hq0
            have hq1 : (1 : Int) ≤ (q : Int) := by omega
            have hq9 : (q : Int) ≤ 9223372036854775807 := by omega
            have HQ := Lib.hid (And.intro hq (And.intro hq0 hple))
            clear hlt2 hq hq0 hple
            gi_wp2
            have e9 : kc - (pre ++ [z]).length = q - 1 := by have := HQ.out; rw [List.length_append]; simp; omega
            exact ⟨(KeepsOthers.setCell _ _ _).from _, ⟨(Below.refl _ _).setCell (by show w.heap.size ≤ w.heap.size + 1; omega) _, fun o9 h9 => (Below.heap_setCell _ _ _ _ (by show Bs ≠ w.heap.size + 1; omega)).trans h9⟩, by have := HQ.out; rw [List.length_append]; simp; omega, by rw [e9, show ((q - 1 : Nat) : Int) = (q : Int) - 1 by have := HQ.out; omega]; exact hL.setK _, (Below.heap_setCell _ _ _ _ (by show Bs ≠ w.heap.size + 1; omega)).trans hE⟩
        case done =>
          rintro D ys W hD rfl ⟨hple, hL, hE⟩ hK
          have := HPK.out
          omega
        case stop =>
          rintro D j' pre W hD hSp ⟨rfl, pre0, z, rfl, hlen, hL⟩ hK
          obtain ⟨r, hr⟩ := hSp
          have hget : (mem l N)[k]? = some z := by
            rw [HC.out, mem_drop l (64 * j) N kc (by have := HNN.out; have := HLT.out; omega), ← hr, List.append_assoc, List.getElem?_append_right (by omega), ← hlen, Nat.sub_self]
            rfl
          have q1 := (boxed_put hL.1.2.1 (show w.heap.size + 2 ≠ D by omega) (.deferred none)).cell
          have q2 := (boxed_put hL.1.2.2 (show w.heap.size + 3 ≠ D by omega) (.deferred none)).cell
          have q1' : (W.putObj D (.deferred none)).cell? ⟨w.heap.size + 1 + 1, 0, none⟩ = some (.int .i64 (z : Int)) := q1
          have q2' : (W.putObj D (.deferred none)).cell? ⟨w.heap.size + 1 + 1 + 1, 0, none⟩ = some (.bool true) := q2
          gi_wp2
          refine ⟨by simp, .inl ⟨_, _, rfl, run_takeDeferred hK, ?_⟩⟩
          refine ⟨.tuple #[.int .i64 (z : Int), .bool true], by simp [results, Try.results19, go_sem, q1', q2'], ?_⟩
          exact ⟨by rw [hget]; rfl, hL.2.trans ((Below.refl w.heap.size W).grown (grownBy_putObj' W D _) hL.2.size (fun k e => by cases e; omega))⟩
    · have hjn : j = n := by have := HJ.out; omega
      have d1 : decide ((j : Int) < (n : Int)) = false := by simp; omega
      have d1' : decide (j < n) = false := by simp; omega
      have hc2 : wr.cell? ⟨w.heap.size + 1 + 1, 0, none⟩ = some (.int .i64 0) := HL.out.1.1.2.1.cell
      have hf2 : wr.frozen? ⟨w.heap.size + 1 + 1, 0, none⟩ = false := HL.out.1.1.2.1.frozen
      have hc3 : wr.cell? ⟨w.heap.size + 1 + 1 + 1, 0, none⟩ = some (.bool false) := HL.out.1.1.2.2.cell
      have hf3 : wr.frozen? ⟨w.heap.size + 1 + 1 + 1, 0, none⟩ = false := HL.out.1.1.2.2.frozen
      have hc9 := HC.out
      rw [hjn] at hc9
      have hnone := sel_none hw HR.out HNN.out.1 hc9
      have HNO := Lib.hid hnone
      have L9 := HL.out.1.setR 0 false
      have q1 : ((wr.setCell ⟨w.heap.size + 1 + 1, 0, none⟩ (.int .i64 0)).setCell ⟨w.heap.size + 1 + 1 + 1, 0, none⟩ (.bool false)).cell? ⟨w.heap.size + 1 + 1, 0, none⟩ = some (.int .i64 0) := L9.1.2.1.cell
      have q2 : ((wr.setCell ⟨w.heap.size + 1 + 1, 0, none⟩ (.int .i64 0)).setCell ⟨w.heap.size + 1 + 1 + 1, 0, none⟩ (.bool false)).cell? ⟨w.heap.size + 1 + 1 + 1, 0, none⟩ = some (.bool false) := L9.1.2.2.cell
      have HB9 := Lib.hid L9.2
      clear hlt hjn hnone L9
      gi_wp2
      refine ⟨.tuple #[.int .i64 0, .bool false], by simp [results, Try.results19, go_sem, q1, q2], ?_⟩
      exact ⟨by rw [HNO.out]; rfl, HB9.out⟩

set_option maxRecDepth 20000 in
theorem Select_no (N k : Int) (A : Option Addr) (n c : Nat) (l : List Int) (w : World) (hs : Sees w 1 A n c (l.map (Value.int .u64))) (hw : W64 l) (h : ¬ RightW N l ∨ k < 0) :
    Calls Try.prog 19 #[setv N A n c, .int .i64 k] w fun e w' => e = .returned (.tuple #[.int .i64 0, .bool false]) ∧ Below w.heap.size w w' := by
  obtain ⟨wA, hwA⟩ : ∃ wA, (((w.alloc (.cells #[.int .i64 N, .slice A n c] 24)).alloc (.cells #[.int .i64 k] 3)).alloc (.cells #[.int .i64 0] 3)).alloc (.cells #[.bool false] 4) = wA := ⟨_, rfl⟩
  have hB0 : Below w.heap.size w wA := by rw [← hwA]; exact ((((Below.refl _ _).alloc (Nat.le_refl _) _).alloc (by simp) _).alloc (by simp; omega) _).alloc (by simp; omega) _
  have bS : wA.heap[w.heap.size]? = some (.cells #[.int .i64 N, .slice A n c] 24 (0, 0)) := by
    rw [← hwA]; exact lit_skipB (lit_skipB (lit_skipB (lit_newB rfl)))
  have bL : SlB w k 0 false wA := by
    refine ⟨⟨?_, ?_, ?_⟩, hB0⟩
    · rw [← hwA]; exact lit_skipB (lit_skipB (lit_newB (by simp)))
    · rw [← hwA]; exact lit_skipB (lit_newB (by simp))
    · rw [← hwA]; exact lit_newB (by simp)
  have HSE := Lib.hid (hs.below hB0 (Nat.le_refl _))
  have HWA := Lib.hid hwA
  have HBL := Lib.hid bL
  have y0 : wA.cell? ⟨w.heap.size, 0, none⟩ = some (.int .i64 N) := by simp [World.cell?, bS]
  have y1 : wA.cell? ⟨w.heap.size, 1, none⟩ = some (.slice A n c) := by simp [World.cell?, bS]
  obtain ⟨r, hr⟩ : ∃ r, decide (RightW N l) = r := ⟨_, rfl⟩
  have hkr : r = true → k < 0 := by
    rintro rfl
    rcases h with h | h
    · exact absurd (of_decide_eq_true hr) h
    · exact h
  have HR := Lib.hid hr
  have HKR := Lib.hid hkr
  clear hs h hB0 hwA bL bS hr hkr
  cases r with
  | false =>
    go_enter Try.func19, Try.ntmps19
    go_wp2_with (go_at_call 34; rw [HWA.out]; refine (Right_any N A n c l _ HSE.out hw).mono ?_; rw [HR.out]; rintro e w1 ⟨rfl, k1⟩; have L1 := Lib.hid (HBL.out.below k1 (Nat.le_refl _)); have hc2 : w1.cell? ⟨w.heap.size + 1 + 1, 0, none⟩ = some (.int .i64 0) := L1.out.1.2.1.cell; have hf2 : w1.frozen? ⟨w.heap.size + 1 + 1, 0, none⟩ = false := L1.out.1.2.1.frozen; have hc3 : w1.cell? ⟨w.heap.size + 1 + 1 + 1, 0, none⟩ = some (.bool false) := L1.out.1.2.2.cell; have hf3 : w1.frozen? ⟨w.heap.size + 1 + 1 + 1, 0, none⟩ = false := L1.out.1.2.2.frozen)
    have L9 := L1.out.setR 0 false
    have q1 : ((w1.setCell ⟨w.heap.size + 1 + 1, 0, none⟩ (.int .i64 0)).setCell ⟨w.heap.size + 1 + 1 + 1, 0, none⟩ (.bool false)).cell? ⟨w.heap.size + 1 + 1, 0, none⟩ = some (.int .i64 0) := L9.1.2.1.cell
    have q2 : ((w1.setCell ⟨w.heap.size + 1 + 1, 0, none⟩ (.int .i64 0)).setCell ⟨w.heap.size + 1 + 1 + 1, 0, none⟩ (.bool false)).cell? ⟨w.heap.size + 1 + 1 + 1, 0, none⟩ = some (.bool false) := L9.1.2.2.cell
    exact bodyPost_ret (v := .tuple #[.int .i64 0, .bool false]) (by simp [results, Try.results19, go_sem, q1, q2]) rfl ⟨rfl, L9.2⟩
  | true =>
    have hk0 := HKR.out rfl
    have d0 : decide (k < 0) = true := by simpa using hk0
    clear hk0
    go_enter Try.func19, Try.ntmps19
    go_wp2_with (go_at_call 34; rw [HWA.out]; refine (Right_any N A n c l _ HSE.out hw).mono ?_; rw [HR.out]; rintro e w1 ⟨rfl, k1⟩; have L1 := Lib.hid (HBL.out.below k1 (Nat.le_refl _)); have hc1 := L1.out.1.1.cell; have hc2 : w1.cell? ⟨w.heap.size + 1 + 1, 0, none⟩ = some (.int .i64 0) := L1.out.1.2.1.cell; have hf2 : w1.frozen? ⟨w.heap.size + 1 + 1, 0, none⟩ = false := L1.out.1.2.1.frozen; have hc3 : w1.cell? ⟨w.heap.size + 1 + 1 + 1, 0, none⟩ = some (.bool false) := L1.out.1.2.2.cell; have hf3 : w1.frozen? ⟨w.heap.size + 1 + 1 + 1, 0, none⟩ = false := L1.out.1.2.2.frozen)
    have L9 := L1.out.setR 0 false
    have q1 : ((w1.setCell ⟨w.heap.size + 1 + 1, 0, none⟩ (.int .i64 0)).setCell ⟨w.heap.size + 1 + 1 + 1, 0, none⟩ (.bool false)).cell? ⟨w.heap.size + 1 + 1, 0, none⟩ = some (.int .i64 0) := L9.1.2.1.cell
    have q2 : ((w1.setCell ⟨w.heap.size + 1 + 1, 0, none⟩ (.int .i64 0)).setCell ⟨w.heap.size + 1 + 1 + 1, 0, none⟩ (.bool false)).cell? ⟨w.heap.size + 1 + 1 + 1, 0, none⟩ = some (.bool false) := L9.1.2.2.cell
    exact bodyPost_ret (v := .tuple #[.int .i64 0, .bool false]) (by simp [results, Try.results19, go_sem, q1, q2]) rfl ⟨rfl, L9.2⟩

theorem Select_any (N k : Int) (A : Option Addr) (n c : Nat) (l : List Int) (w : World) (hs : Sees w 1 A n c (l.map (Value.int .u64))) (hw : W64 l) (hk : k ≤ 9223372036854775807) :
    Calls Try.prog 19 #[setv N A n c, .int .i64 k] w fun e w' => e = .returned (optV (selF l N k)) ∧ Below w.heap.size w w' := by
  unfold selF
  by_cases h : RightW N l ∧ 0 ≤ k
  · rw [if_pos h]
    obtain ⟨M, rfl⟩ : ∃ M : Nat, N = (M : Int) := ⟨N.toNat, by have := h.1.1; omega⟩
    obtain ⟨j, rfl⟩ : ∃ j : Nat, k = (j : Int) := ⟨k.toNat, by omega⟩
    rw [Int.toNat_natCast, Int.toNat_natCast]
    exact callsIn_wide.1 (Select_in M j A n c l w hs hw h.1 (by omega))
  · rw [if_neg h]
    exact Select_no N k A n c l w hs hw (by
      by_cases hr : RightW N l
      · exact .inr (by
          by_cases h1 : k < 0
          · exact h1
          · exact absurd ⟨hr, by omega⟩ h)
      · exact .inl hr)
end Go.Proofs.Ytemhoaleeefhhaa
