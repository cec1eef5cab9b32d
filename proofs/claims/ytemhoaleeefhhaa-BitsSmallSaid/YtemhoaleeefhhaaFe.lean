/- Walks: ApartNums. -/
import Derived.Test.YtemhoaleeefhhaaProg
import Derived.Test.YtemhoaleeefhhaaFc
import Derived.Test.YtemhoaleeefhhaaFd
namespace Go.Proofs.Ytemhoaleeefhhaa
open Go.RowKit
set_option linter.unusedVariables false

def bagC (A : Option Addr) (n c : Nat) : Array Value := #[.slice none 0 0, .slice none 0 0, .slice none 0 0, .slice none 0 0, .slice A n c, .slice none 0 0, .slice none 0 0, .slice none 0 0]
/-- A bag with slices of numbers. -/
def Bag (w : World) (b : Nat) (A : Option Addr) (n c : Nat) : Prop := w.heap[b]? = some (.cells (bagC A n c) 93 (0, 0))
theorem Bag.cell {w : World} {b n c : Nat} {A : Option Addr} (h : Bag w b A n c) : w.cell? ⟨b, 4, none⟩ = some (.slice A n c) := by unfold Bag bagC at h; simp [World.cell?, h]
theorem Bag.cellN {w : World} {b n c : Nat} {A : Option Addr} (h : Bag w b A n c) : w.cell? ⟨b, 0, none⟩ = some (.slice none 0 0) ∧ w.cell? ⟨b, 1, none⟩ = some (.slice none 0 0) ∧ w.cell? ⟨b, 2, none⟩ = some (.slice none 0 0) ∧ w.cell? ⟨b, 3, none⟩ = some (.slice none 0 0) ∧ w.cell? ⟨b, 5, none⟩ = some (.slice none 0 0) ∧ w.cell? ⟨b, 6, none⟩ = some (.slice none 0 0) ∧ w.cell? ⟨b, 7, none⟩ = some (.slice none 0 0) := by unfold Bag bagC at h; simp [World.cell?, h]
theorem Bag.free {w : World} {b n c : Nat} {A : Option Addr} (h : Bag w b A n c) : w.frozen? ⟨b, 4, none⟩ = false := by unfold Bag at h; simp [World.frozen?, h]
theorem Bag.put {w : World} {b n c n' c' : Nat} {A A' : Option Addr} (h : Bag w b A n c) : Bag (w.setCell ⟨b, 4, none⟩ (.slice A' n' c')) b A' n' c' := by
  have e := heap_setCell_same w b 4 _ _ (.slice A' n' c') h
  unfold Bag bagC
  simpa [bagC] using e
theorem Bag.below {w w' : World} {b n c : Nat} {A : Option Addr} (h : Bag w b A n c) (k : Below w.heap.size w w') : Bag w' b A n c := (k.block b (lt_heapK h)).trans h

set_option maxRecDepth 20000 in
set_option maxHeartbeats 800000 in
theorem putNums_any (b n c n1 c1 base : Nat) (A A1 : Option Addr) (xs : List Value) (w : World) (hb : Bag w b A n c) (hr : w.ownsRow base 22 1 (.slice A n c) n xs) (hbb : base ≤ b) (hbase : base ≤ w.heap.size) (hn : n ≤ 1000) :
    Calls Try.prog 66 #[.pointer (some ⟨b, 0, none⟩), .slice A1 n1 c1] w fun e w' => e = .returned (.tuple #[]) ∧ ∃ A' c', Bag w' b A' (n + 1) c' ∧ w'.ownsRow base 22 1 (.slice A' (n + 1) c') (n + 1) (xs ++ [.slice A1 n1 c1]) ∧ Below base w w' := by
  have HB := Lib.hid hb
  have HR := Lib.hid hr
  have HBB := Lib.hid hbb
  have HBS := Lib.hid hbase
  have x4 := hb.cell
  clear hb hr hbb hbase
  go_enter Try.func66, Try.ntmps66
  go_wp2_with (at_builtin; refine wpList_app5 E_SS rfl _ _ rfl rfl (HR.out.alloc _) rfl (Sees.one _ _ _) (one1 rfl) (by omega) (by simp [maxLen]; omega) (by omega) (by have h1 := HBS.out; simp; omega) ?_; intro A4 c4 w4 hn4 hg4 hb4 ho4 hl4; have HK : Hid (Bag w4 b A n c) := Lib.hid (kp_ne (HB.out.below ((Below.refl _ _).alloc (Nat.le_refl _) _)) hg4 (fun q hq e2 => own_typeK HR.out HB.out (by decide) (e2 ▸ hq))); have y4 := HK.out.cell; have yf := HK.out.free; have HO := Lib.hid hn4; have B4 := Lib.hid (((Below.refl base w).alloc HBS.out _).trans hb4); clear hn4 hg4 hb4 ho4 hl4)
  go_end0
  exact ⟨rfl, A4, c4, HK.out.put, own_ne HO.out (grown_set _ b 4 _) (fun q hq hq2 => by cases hq; exact own_typeK HO.out HK.out (by decide) hq2), B4.out.setCell HBB.out _⟩

set_option maxRecDepth 20000 in
set_option maxHeartbeats 1600000 in
theorem bagapart_any (b q cl K lo : Nat) (V : Nat → Value) (n : Nat → Nat) (z : Nat → List Int) (w : World) (hK0 : 0 < K) (hK : K ≤ 100) (hn : ∀ j, j < K → n j ≤ 100000) (hb : Bag w b (some ⟨q, 0, none⟩) K cl) (hl : w.ownsRow lo 22 1 (.slice (some ⟨q, 0, none⟩) K cl) K ((List.range K).map V)) (hlo : lo ≤ w.heap.size)
    (hv : ∀ i, i < K → w.ownsRow lo 54 1 (V i) (n i) ((z i).map (Value.int .u64))) (hd : ∀ i j, i < K → j < K → i ≠ j → Dis (V i) (V j)) :
    Calls Try.prog 67 #[.pointer (some ⟨b, 0, none⟩)] w fun e w' => e = .returned (.bool true) ∧ Below lo w w' := by
  have HB := Lib.hid hb
  have HL := Lib.hid hl
  have HLO := Lib.hid hlo
  have HN := Lib.hid hn
  have HV := Lib.hid (And.intro hv hd)
  have x4 := hb.cell
  obtain ⟨x0, x1, x2, x3, x5, x6, x7⟩ := hb.cellN
  clear x1 x2 x3 x4 x5 x6 x7 hb hl hlo hv hd hn
  have hK9 := hK
  go_enter Try.func67, Try.ntmps67
  go_wp2_with (first
    | (go_at_call 79; have _q := G7; refine (flatByteLists_nil _).mono ?_; rintro e w8 ⟨rfl, kk⟩; have HB8 : Hid (Below lo w w8) := Lib.hid (HB7.out.trans (kk.mono (Nat.le_trans HLO.out HB7.out.size))); have G8 := Lib.hid (G7.out.below kk); clear kk)
    | (go_at_call 78; have _q := G6; refine (flatTextLists_nil _).mono ?_; rintro e w7 ⟨rfl, kk⟩; have HB7 : Hid (Below lo w w7) := Lib.hid (HB6.out.trans (kk.mono (Nat.le_trans HLO.out HB6.out.size))); have G7 := Lib.hid (G6.out.below kk); clear kk; have y7 := G7.out.cellN.2.2.2.2.2.2)
    | (go_at_call 77; have _q := G5; refine (flatIntLists_nil _).mono ?_; rintro e w6 ⟨rfl, kk⟩; have HB6 : Hid (Below lo w w6) := Lib.hid (HB5.out.trans (kk.mono (Nat.le_trans HLO.out HB5.out.size))); have G6 := Lib.hid (G5.out.below kk); clear kk; have y6 := G6.out.cellN.2.2.2.2.2.1)
    | (go_at_call 76; have _q := G4; refine (flatNums_any K ⟨lo, b, bagC (some ⟨q, 0, none⟩) K cl, 93⟩ V n z q cl _ hK0 hK HN.out ⟨V4.out.1, V4.out.2, G4.out, (show (93 : TypeId) ≠ 54 by decide)⟩ L4.out (Nat.le_trans HLO.out HB4.out.size) (show (93 : TypeId) ≠ 22 by decide)).mono ?_; rintro e w5 ⟨rfl, kk, kg⟩; have HB5 : Hid (Below lo w w5) := Lib.hid (HB4.out.trans kk); have G5 : Hid (Bag w5 b (some ⟨q, 0, none⟩) K cl) := Lib.hid kg; clear kk kg; have y5 := G5.out.cellN.2.2.2.2.1)
    | (go_at_call 75; have _q := G3; refine (flatWords_nil _).mono ?_; rintro e w4 ⟨rfl, kk⟩; have HB4 : Hid (Below lo w w4) := Lib.hid (HB3.out.trans (kk.mono (Nat.le_trans HLO.out HB3.out.size))); have G4 := Lib.hid (G3.out.below kk); have L4 := Lib.hid (own_below L3.out kk (Nat.le_refl _)); have V4 : Hid ((∀ i, i < K → w4.ownsRow lo 54 1 (V i) (n i) ((z i).map (Value.int .u64))) ∧ (∀ i j, i < K → j < K → i ≠ j → Dis (V i) (V j))) := Lib.hid ⟨fun i hi => own_below (V3.out.1 i hi) kk (Nat.le_refl _), HV.out.2⟩; clear kk; have y4 := G4.out.cell)
    | (go_at_call 74; have _q := G2; refine (flatBytes_nil _).mono ?_; rintro e w3 ⟨rfl, kk⟩; have HB3 : Hid (Below lo w w3) := Lib.hid (HB2.out.trans (kk.mono (Nat.le_trans HLO.out HB2.out.size))); have G3 := Lib.hid (G2.out.below kk); have L3 := Lib.hid (own_below L2.out kk (Nat.le_refl _)); have V3 : Hid ((∀ i, i < K → w3.ownsRow lo 54 1 (V i) (n i) ((z i).map (Value.int .u64))) ∧ (∀ i j, i < K → j < K → i ≠ j → Dis (V i) (V j))) := Lib.hid ⟨fun i hi => own_below (V2.out.1 i hi) kk (Nat.le_refl _), HV.out.2⟩; clear kk; have y3 := G3.out.cellN.2.2.2.1)
    | (go_at_call 73; have _q := G1; refine (flatTexts_nil _).mono ?_; rintro e w2 ⟨rfl, kk⟩; have HB2 : Hid (Below lo w w2) := Lib.hid (HB1.out.trans (kk.mono (Nat.le_trans HLO.out HB1.out.size))); have G2 := Lib.hid (G1.out.below kk); have L2 := Lib.hid (own_below L1.out kk (Nat.le_refl _)); have V2 : Hid ((∀ i, i < K → w2.ownsRow lo 54 1 (V i) (n i) ((z i).map (Value.int .u64))) ∧ (∀ i j, i < K → j < K → i ≠ j → Dis (V i) (V j))) := Lib.hid ⟨fun i hi => own_below (V1.out.1 i hi) kk (Nat.le_refl _), HV.out.2⟩; clear kk; have y2 := G2.out.cellN.2.2.1)
    | (go_at_call 72; refine (flatInts_nil _).mono ?_; rintro e w1 ⟨rfl, kk⟩; have HB1 : Hid (Below lo w w1) := Lib.hid ((Below.refl lo w).trans (kk.mono (Nat.le_trans HLO.out (Below.refl lo w).size))); have G1 := Lib.hid (HB.out.below kk); have L1 := Lib.hid (own_below HL.out kk (Nat.le_refl _)); have V1 : Hid ((∀ i, i < K → w1.ownsRow lo 54 1 (V i) (n i) ((z i).map (Value.int .u64))) ∧ (∀ i j, i < K → j < K → i ≠ j → Dis (V i) (V j))) := Lib.hid ⟨fun i hi => own_below (HV.out.1 i hi) kk (Nat.le_refl _), HV.out.2⟩; clear kk; have y1 := G1.out.cellN.2.1))
  go_ret
  exact ⟨rfl, HB8.out⟩

set_option maxRecDepth 20000 in
set_option maxHeartbeats 1600000 in
theorem ApartNums_any (K lo cl : Nat) (Al : Option Addr) (V : Nat → Value) (n : Nat → Nat) (z : Nat → List Int) (w : World) (hK0 : 0 < K) (hK : K ≤ 100) (hn : ∀ j, j < K → n j ≤ 100000) (hs : Sees w 1 Al K cl ((List.range K).map V)) (hlo : lo ≤ w.heap.size)
    (hv : ∀ i, i < K → w.ownsRow lo 54 1 (V i) (n i) ((z i).map (Value.int .u64))) (hd : ∀ i j, i < K → j < K → i ≠ j → Dis (V i) (V j)) :
    Calls Try.prog 42 #[.slice Al K cl] w fun e w' => e = .returned (.bool true) ∧ Below lo w w' := by
  have HS := Lib.hid hs
  have HLO := Lib.hid hlo
  have HN := Lib.hid hn
  have HV := Lib.hid (And.intro hv hd)
  clear hs hlo hn hv hd
  go_enter Try.func42, Try.ntmps42
  go_wp2
  have hB0 := (Below.refl w.heap.size w).alloc (Nat.le_refl _) (.cells (bagC none 0 0) 93)
  have HB0 := Lib.hid hB0
  have HG0 : Hid (Bag (w.alloc (.cells (bagC none 0 0) 93)) w.heap.size none 0 0) := Lib.hid (heap_alloc_new _ _)
  clear hB0
  go_loopw [4] (fun iv wr => ∃ (k : Nat) (A : Option Addr) (c : Nat), Hid (k ≤ K) ∧ iv = .int .i64 (k : Int) ∧ Hid (Bag wr w.heap.size A k c) ∧ Hid (wr.ownsRow w.heap.size 22 1 (.slice A k c) k ((List.range k).map V)) ∧ Hid (Below w.heap.size w wr)) (fun iv _ => K - (intOf iv).toNat)
  case atStart => exact ⟨0, none, 0, Lib.hid (Nat.zero_le _), rfl, HG0, Lib.hid (World.ownsRow_nil _ _ _ _), HB0⟩
  case round =>
    obtain ⟨k, A, c, HK, rfl, HG, HR, HB⟩ := hrel
    by_cases hlt : k < K
    · have d0 : decide ((k : Int) < (K : Int)) = true := by simp; omega
      obtain ⟨b0, o0, rfl, g0⟩ := (HS.out.below HB.out (Nat.le_refl _)).look k (V k) (by simp [hlt])
      obtain ⟨Ak, ck, hVk⟩ := own_form (HV.out.1 k hlt)
      rw [hVk] at g0
      have HVK := Lib.hid hVk
      have HLT := Lib.hid hlt
      have hk9 : k ≤ 1000 := by omega
      clear hVk
      go_wp2_with (go_at_call 66; refine (putNums_any w.heap.size k c (n k) ck w.heap.size A Ak _ _ HG.out HR.out (Nat.le_refl _) HB.out.size hk9).mono ?_; rintro e w2 ⟨rfl, A2, c2, g2, r2, k2⟩; have HG2 := Lib.hid g2; have HR2 := Lib.hid r2; have HB2 := Lib.hid (HB.out.trans k2); clear g2 r2 k2)
      go_roundw
      case rel => exact ⟨k + 1, A2, c2, Lib.hid HLT.out, by go_num, HG2, Lib.hid (by rw [List.range_succ, List.map_append, List.map_cons, List.map_nil, HVK.out]; exact HR2.out), HB2⟩
      case measure => have := HLT.out; simp [intOf]; omega
    · obtain rfl : K = k := by have := HK.out; omega
      have d0 : decide ((K : Int) < (K : Int)) = false := by simp
      obtain ⟨q, c9, e9, _⟩ := own_addrK HR.out hK0
      cases e9
      clear hlt
      go_wp2_with (go_at_call 67; refine (bagapart_any w.heap.size q c K lo V n z _ hK0 hK HN.out HG.out (own_base HR.out HLO.out) (Nat.le_trans HLO.out HB.out.size) (fun i hi => own_below (HV.out.1 i hi) HB.out (Nat.le_refl _)) HV.out.2).mono ?_; rintro e w2 ⟨rfl, k2⟩; have HB2 := Lib.hid ((HB.out.mono HLO.out).trans k2); clear k2)
      go_ret
      exact ⟨rfl, HB2.out⟩
end Go.Proofs.Ytemhoaleeefhhaa
