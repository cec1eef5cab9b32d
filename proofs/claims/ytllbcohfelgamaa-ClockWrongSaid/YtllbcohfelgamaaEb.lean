/- Walks: ClockWrong. -/
import Derived.Test.YtllbcohfelgamaaProg
import Derived.Test.YtllbcohfelgamaaEa
import Derived.Test.YtllbcohfelgamaaCi2
import Derived.Test.YtllbcohfelgamaaQ9
import Derived.Test.YtllbcohfelgamaaCf
import Derived.BigRegion
import Derived.Deep.DeepCutAuto
import Derived.Deep.RegionHeld3
import Derived.Test.YtllbcohfelgamaaEc
import Derived.Test.YtllbcohfelgamaaCg
namespace Go.Proofs.Ytllbcohfelgamaa
open Go.RowKit
set_option linter.unusedVariables false

theorem take_set_ge (l : List Int) (a : Int) {k j : Nat} (h : k ≤ j) : (l.set j a).take k = l.take k := by
  apply List.ext_getElem?
  intro i
  rw [List.getElem?_take, List.getElem?_take]
  split
  · rw [List.getElem?_set_ne (by omega)]
  · rfl
theorem take_set_geP (l : List (Int × Int)) (a : Int × Int) {k j : Nat} (h : k ≤ j) : (l.set j a).take k = l.take k := by
  apply List.ext_getElem?
  intro i
  rw [List.getElem?_take, List.getElem?_take]
  split
  · rw [List.getElem?_set_ne (by omega)]
  · rfl
theorem getD_setP {xs : List (Int × Int)} {k : Nat} (hk : k < xs.length) (y : Int × Int) : (xs.set k y).getD k (0, 0) = y := by simp [List.getD_eq_getElem?_getD, hk]
theorem getD_set2 {l : List Int} {k j : Nat} {a b : Int} (hk : k < l.length) (hj : k ≤ j) (h : k = j → b = a) : ((l.set k a).set j b).getD k 0 = a := by
  by_cases e : k = j
  · subst e; rw [getD_set (by simpa using hk), h rfl]
  · simp only [List.getD_eq_getElem?_getD]
    rw [List.getElem?_set_ne (fun h => e h.symm)]
    simp [hk]
theorem own_cellF {w : World} {base e n g c k : Nat} {st : List (Int × Int)} (h : w.ownsRow base e 2 (.slice (some ⟨g, 0, none⟩) n c) n (flat st)) (hk : k < n) (hl : st.length = n) : w.cell? ⟨g, k * 2, none⟩ = some (.int .i64 (st.getD k (0, 0)).1) ∧ w.cell? ⟨g, k * 2 + 1, none⟩ = some (.int .i64 (st.getD k (0, 0)).2) ∧ w.frozen? ⟨g, k * 2, none⟩ = false ∧ w.frozen? ⟨g, k * 2 + 1, none⟩ = false := by
  obtain ⟨b, o, hA, h1, h2⟩ := (sees_own h).stamp hk
  cases hA
  rw [Nat.zero_add] at h1 h2
  exact ⟨h1, h2, h.frozenAt _, h.frozenAt _⟩
theorem own_setF0 {w : World} {base e n g c : Nat} {st : List (Int × Int)} (h : w.ownsRow base e 2 (.slice (some ⟨g, 0, none⟩) n c) n (flat st)) (k : Nat) (hk : k < st.length) (z : Int) : (w.setCell ⟨g, k * 2, none⟩ (.int .i64 z)).ownsRow base e 2 (.slice (some ⟨g, 0, none⟩) n c) n (flat (st.set k (z, (st.getD k (0, 0)).2))) := by
  have := (h.stored (k * 2) (.int .i64 z)).1
  rwa [flat_set0 st k z hk] at this
theorem own_setF1 {w : World} {base e n g c : Nat} {st : List (Int × Int)} (h : w.ownsRow base e 2 (.slice (some ⟨g, 0, none⟩) n c) n (flat st)) (k : Nat) (hk : k < st.length) (z : Int) : (w.setCell ⟨g, k * 2 + 1, none⟩ (.int .i64 z)).ownsRow base e 2 (.slice (some ⟨g, 0, none⟩) n c) n (flat (st.set k ((st.getD k (0, 0)).1, z))) := by
  have := (h.stored (k * 2 + 1) (.int .i64 z)).1
  rwa [flat_set1 st k z hk] at this

theorem below_cellA {w w' : World} (h : Below w.heap.size w w') {a : Addr} {v : Value} (hc : w.cell? a = some v) : w'.cell? a = some v := (h.cell (World.block_lt_of_cell? _ _ hc)).trans hc
theorem keepA {W w w' : World} {a b : Addr} {u v : Value} (h : w.cell? a = some u ∧ w.cell? b = some v ∧ Below W.heap.size W w) (k : Below w.heap.size w w') : w'.cell? a = some u ∧ w'.cell? b = some v ∧ Below W.heap.size W w' := ⟨below_cellA k h.1, below_cellA k h.2.1, below_step h.2.2 k⟩
theorem keepD {W w : World} {a b : Addr} {u v : Value} (h : w.cell? a = some u ∧ w.cell? b = some v ∧ Below W.heap.size W w) : w.drew.cell? a = some u ∧ w.drew.cell? b = some v ∧ Below W.heap.size W w.drew := ⟨h.1, h.2.1, h.2.2.drew⟩

theorem own_some {w : World} {base e s n c : Nat} {A : Option Addr} {xs : List Value} (h : w.ownsRow base e s (.slice A n c) n xs) (h0 : 0 < n) : ∃ g, A = some ⟨g, 0, none⟩ ∧ base ≤ g ∧ g < w.heap.size := by
  rcases h.2 with ⟨e, _⟩ | ⟨g, cp, cur, hv, hb, hh, _⟩
  · cases e; omega
  · cases hv; exact ⟨g, rfl, hb, lt_of_heap hh⟩

theorem sees_made (w : World) (n : Nat) (hn : n ≤ 100) : Sees (w.alloc (.cells (madeCells #[.int .i64 0] n) 3)) 1 (some ⟨w.heap.size, 0, none⟩) n n ((List.replicate n (0 : Int)).map (Value.int .i64)) := by
  have h := made_zeros .i64 n
  rw [Nat.mul_one] at h
  exact sees_block (heap_alloc_new w _) (by simp) (Nat.le_refl _) (by simp [maxLen]; omega) ⟨[], by rw [List.append_nil]; exact h.symm⟩

set_option maxRecDepth 100000 in
set_option maxHeartbeats 6400000 in
theorem ClockWrong_any (n8 at8 : Nat) (x : Int) (A : Option Addr) (m c : Nat) (l : List Int) (w : World) (hn8 : n8 < 256) (hat : at8 < 256) (hx : -9223372036854775808 ≤ x ∧ x ≤ 9223372036854775807) (h : Sees w 1 A m c (l.map (Value.int .u32))) (hl : U32 l) :
    Calls Try.prog 9 #[.int .u8 (n8 : Int), .slice A m c, .int .u8 (at8 : Int), .int .i64 x] w fun e w' => e = .returned (.bool true) ∧ Below w.heap.size w w' := by
  obtain ⟨N, hN, hN1, hN2⟩ : ∃ N : Nat, 1 + (n8 : Int) % 64 = (N : Int) ∧ 1 ≤ N ∧ N ≤ 64 := ⟨1 + n8 % 64, by omega, by omega, by omega⟩
  obtain ⟨M1, hM1, hM1b⟩ : ∃ M : Int, (if -1 < x then -1 else x) = M ∧ M < 0 := ⟨_, rfl, by split <;> omega⟩
  obtain ⟨M2, hM2, hM2b⟩ : ∃ M : Int, (if x < (N : Int) then (N : Int) else x) = M ∧ (N : Int) ≤ M := ⟨_, rfl, by split <;> omega⟩
  obtain ⟨M3, hM3, hM3b⟩ : ∃ M : Int, (if x < 281474976710657 then 281474976710657 else x) = M ∧ 281474976710656 < M := ⟨_, rfl, by split <;> omega⟩
  obtain ⟨M4, hM4, hM4b⟩ : ∃ M : Int, (if 0 < x then 0 else x) = M ∧ M < 1 := ⟨_, rfl, by split <;> omega⟩
  obtain ⟨M5, hM5, hM5b⟩ : ∃ M : Int, (if x < 65 then 65 else x) = M ∧ 64 < M := ⟨_, rfl, by split <;> omega⟩
  have HM := Lib.hid (And.intro hM1b (And.intro hM2b (And.intro hM3b (And.intro hM4b hM5b))))
  have HNK := Lib.hid (And.intro (And.intro hN1 hN2) trivial)
  have hN3 : (N : Int) ≤ 64 := by omega
  have hN4 : (N : Int) ≠ 0 := by omega
  have HL := Lib.hid hl
  have HX := Lib.hid hx
  have HAT := Lib.hid hat
  have hat3 : (at8 : Int) < 256 := by omega
  clear hN1 hN2 hl hM1b hM2b hM3b hM4b hM5b hx hat
  go_enter Try.func9, Try.ntmps9
  go_wp2_with (first
    | (go_at_call 11; refine (awake_any _).mono ?_; rintro e w1 ⟨rfl, b1⟩)
    | (go_at_call 12; refine (New_any N _ HNK.out.1).mono ?_; rintro e w2 ⟨p, g, c0, rfl, h2, b2⟩; have h2 := Lib.hid h2))
  obtain ⟨W, hW⟩ : ∃ W, w2.alloc (.cells #[.int .i64 M1, .int .i64 M2] 3) = W := ⟨_, rfl⟩
  have hb2W : Below w2.heap.size w2 W := by rw [← hW]; exact (Below.refl _ _).alloc (Nat.le_refl _) _
  have hbW : Below w.heap.size w W := (below_step b1 b2).trans (hb2W.mono (below_step b1 b2).size)
  have h2W : ∀ i, i < 2 → ∃ v, (v < 0 ∨ (N : Int) ≤ v) ∧ W.cell? ⟨w2.heap.size, i, none⟩ = some (.int .i64 v) := by
    intro i hi
    rw [← hW]
    match i, hi with
    | 0, _ => exact ⟨M1, .inl HM.out.1, (cell_of_row _ _ 0 _ _ _ (heap_alloc_new w2 _)).trans rfl⟩
    | 1, _ => exact ⟨M2, .inr HM.out.2.1, (cell_of_row _ _ 1 _ _ _ (heap_alloc_new w2 _)).trans rfl⟩
  have hlW : w2.heap.size < W.heap.size := by rw [← hW]; simp
  have hC := h2.out.below hb2W
  have hBw : w.heap.size ≤ w1.heap.size := b1.size
  generalize w1.heap.size = B0 at hC hBw
  have HC := Lib.hid (And.intro hC hBw)
  have H2 := Lib.hid (And.intro h2W (And.intro hlW hbW))
  rw [hW]
  clear hW h2W hlW hbW hb2W hC hBw b1 b2 h2
  generalize w2.heap.size = G at H2 ⊢
  go_loopw [67] (fun i wr => ∃ k : Nat, Hid (k ≤ 2) ∧ i = .int .i64 (k : Int) ∧ Hid (Clk wr B0 p g c0 N (List.replicate N 0)) ∧ Below W.heap.size W wr) (fun i _ => 2 - (intOf i).toNat)
  case atStart => exact ⟨0, Lib.hid (by omega), rfl, Lib.hid HC.out.1, Below.refl _ _⟩
  case round =>
    obtain ⟨k, HI, rfl, hc, hb⟩ := hrel
    by_cases hlt : k < 2
    · obtain ⟨v, hv, hcell⟩ := H2.out.1 k hlt
      have g1 : wr.cell? ⟨G, k, none⟩ = some (.int .i64 v) := (hb.cell (p := ⟨G, k, none⟩) H2.out.2.1).trans hcell
      have d1 : decide ((k : Int) < 2) = true := by simp; omega
      have hk1 : (k : Int) ≤ 1 := by omega
      have HLT := Lib.hid hlt
      have HV := Lib.hid hv
      clear hlt hcell hv
      go_wp2_with (first
        | (go_at_call 14; refine (Tick_cpu _ _ _ _ _ _ _ _ _ hc.out HV.out).mono ?_; rintro e w5 ⟨rfl, rfl⟩)
        | (go_at_call 17; refine (Until_cpu _ _ _ _ _ _ _ _ _ hc.out HV.out).mono ?_; rintro e w5 ⟨rfl, rfl⟩)
        | (go_at_call 25; refine (Now_bad _ _ _ _ _ _ _ _ hc.out HV.out).mono ?_; rintro e w5 ⟨rfl, rfl⟩))
      go_roundw
      case rel => exact ⟨k + 1, Lib.hid HLT.out, by go_num, hc, hb⟩
      case measure => have := HLT.out; simp [intOf]; omega
    · have d1 : decide ((k : Int) < 2) = false := by simp; omega
      have HB := Lib.hid (H2.out.2.2.trans (hb.mono H2.out.2.2.size))
      clear hlt hb H2 HC
      have hC0 := hc.out
      have hmk : ∀ w, (Instr.makeSlice 29 (.int .i64 (N : Int)) (.int .i64 (N : Int))).run Try.prog w = .ok (.slice (some ⟨w.heap.size, 0, none⟩) N N) (w.alloc (.cells (madeCells #[.int .i64 0] N) 3)) := by
        intro w
        obtain ⟨ht, hz, hs, i, hi, hz0, hz1, hz2⟩ := E_int
        have := run_make (P := Try.prog) (w := w) 29 3 i (.int .i64 0) ht hi hz0 .i64 .i64 (N : Int) (N : Int) (by omega) (Int.le_refl _) (by rw [hz2]; omega) (by omega)
        rw [hz1, Int.toNat_natCast, Nat.mul_one] at this
        exact this
      go_upto_region 19 with (first
        | (go_at_call 14; refine (Tick_neg _ _ _ _ _ 0 _ _ _ hc.out (by have := HNK.out; omega) (by have := HNK.out; omega) HM.out.1).mono ?_; rintro e w5 ⟨rfl, rfl⟩)
        | (go_at_call_of 17 (Value.int .i64 M1); refine (Until_arg _ _ _ _ _ 0 _ _ _ hc.out (by have := HNK.out; omega) (by have := HNK.out; omega) (Or.inl HM.out.1)).mono ?_; rintro e w5 ⟨rfl, rfl⟩)
        | (go_at_call_of 17 (Value.int .i64 M3); refine (Until_arg _ _ _ _ _ 0 _ _ _ hc.out (by have := HNK.out; omega) (by have := HNK.out; omega) (Or.inr HM.out.2.2.1)).mono ?_; rintro e w5 ⟨rfl, rfl⟩))
      go_cut [138] from 121 to 138 (fun s wx => s = .bool false ∧ Hid (Clk wx B0 p g c0 N (List.replicate N 0)) ∧ Hid (Below w.heap.size w wx))
      case first =>
        refine wp_region_any (by kernel_rfl) ?_
        change wpAny _ _ _ _ _ _ _ (World.drew _)
        refine wpAny_take (i := 0) (v := (.int .i64 2)) rfl (by kernel_rfl) (by kernel_rfl) (by kernel_rfl) (fun _ _ _ h => h) (Or.inl ⟨by rfl, fun w => by go_simp⟩) ?_
        simp only [Act.put, List.getElem_toArray, List.getElem_cons_succ, List.getElem_cons_zero, List.setIfInBounds_toArray, List.set_cons_succ, List.set_cons_zero]
        refine wpAny_take (i := 1) (v := (.bool false)) rfl (by kernel_rfl) (by kernel_rfl) (by kernel_rfl) (fun _ _ _ h => h) (Or.inl ⟨by rfl, fun w => by go_simp⟩) ?_
        simp only [Act.put, List.getElem_toArray, List.getElem_cons_succ, List.getElem_cons_zero, List.setIfInBounds_toArray, List.set_cons_succ, List.set_cons_zero]
        refine wpAny_take (i := 2) (v := (.bool false)) rfl (by kernel_rfl) (by kernel_rfl) (by kernel_rfl) (fun _ _ _ h => h) (Or.inl ⟨by rfl, fun w => by go_simp⟩) ?_
        simp only [Act.put, List.getElem_toArray, List.getElem_cons_succ, List.getElem_cons_zero, List.setIfInBounds_toArray, List.set_cons_succ, List.set_cons_zero]
        refine wpAny_take (i := 3) (v := (.int .i64 2)) rfl (by kernel_rfl) (by kernel_rfl) (by kernel_rfl) (fun _ _ _ h => h) (Or.inl ⟨by rfl, fun w => by go_simp⟩) ?_
        simp only [Act.put, List.getElem_toArray, List.getElem_cons_succ, List.getElem_cons_zero, List.setIfInBounds_toArray, List.set_cons_succ, List.set_cons_zero]
        refine wpAny_take (i := 4) (v := (.bool false)) rfl (by kernel_rfl) (by kernel_rfl) (by kernel_rfl) (fun _ _ _ h => h) (Or.inl ⟨by rfl, fun w => by go_simp⟩) ?_
        simp only [Act.put, List.getElem_toArray, List.getElem_cons_succ, List.getElem_cons_zero, List.setIfInBounds_toArray, List.set_cons_succ, List.set_cons_zero]
        refine wpAny_take (i := 5) (v := (.bool false)) rfl (by kernel_rfl) (by kernel_rfl) (by kernel_rfl) (fun _ _ _ h => h) (Or.inl ⟨by rfl, fun w => by go_simp⟩) ?_
        simp only [Act.put, List.getElem_toArray, List.getElem_cons_succ, List.getElem_cons_zero, List.setIfInBounds_toArray, List.set_cons_succ, List.set_cons_zero]
        refine wpAny_take (i := 6) (v := (.bool false)) rfl (by kernel_rfl) (by kernel_rfl) (by kernel_rfl) (fun _ _ _ h => h) (Or.inl ⟨by rfl, fun w => by go_simp⟩) ?_
        simp only [Act.put, List.getElem_toArray, List.getElem_cons_succ, List.getElem_cons_zero, List.setIfInBounds_toArray, List.set_cons_succ, List.set_cons_zero]
        refine wpAny_take (i := 7) (v := (.int .i64 2)) rfl (by kernel_rfl) (by kernel_rfl) (by kernel_rfl) (fun _ _ _ h => h) (Or.inl ⟨by rfl, fun w => by go_simp⟩) ?_
        simp only [Act.put, List.getElem_toArray, List.getElem_cons_succ, List.getElem_cons_zero, List.setIfInBounds_toArray, List.set_cons_succ, List.set_cons_zero]
        refine wpAny_take (i := 8) (v := (.bool false)) rfl (by kernel_rfl) (by kernel_rfl) (by kernel_rfl) (fun _ _ _ h => h) (Or.inl ⟨by rfl, fun w => by go_simp⟩) ?_
        simp only [Act.put, List.getElem_toArray, List.getElem_cons_succ, List.getElem_cons_zero, List.setIfInBounds_toArray, List.set_cons_succ, List.set_cons_zero]
        refine wpAny_take (i := 9) (v := (.bool false)) rfl (by kernel_rfl) (by kernel_rfl) (by kernel_rfl) (fun _ _ _ h => h) (Or.inl ⟨by rfl, fun w => by go_simp⟩) ?_
        simp only [Act.put, List.getElem_toArray, List.getElem_cons_succ, List.getElem_cons_zero, List.setIfInBounds_toArray, List.set_cons_succ, List.set_cons_zero]
        refine wpAny_take (i := 10) (v := (.bool false)) rfl (by kernel_rfl) (by kernel_rfl) (by kernel_rfl) (fun _ _ _ h => h) (Or.inl ⟨by rfl, fun w => by go_simp⟩) ?_
        simp only [Act.put, List.getElem_toArray, List.getElem_cons_succ, List.getElem_cons_zero, List.setIfInBounds_toArray, List.set_cons_succ, List.set_cons_zero]
        refine wpAny_take (i := 11) (v := (.pointer (some ⟨p, 0, none⟩))) rfl (by kernel_rfl) (by kernel_rfl) (by kernel_rfl) (fun _ _ _ h => h) (Or.inl ⟨by rfl, fun w => by go_simp⟩) ?_
        simp only [Act.put, List.getElem_toArray, List.getElem_cons_succ, List.getElem_cons_zero, List.setIfInBounds_toArray, List.set_cons_succ, List.set_cons_zero]
        refine wpAny_take (i := 13) (v := (.int .i64 (N : Int))) rfl (by kernel_rfl) (by kernel_rfl) (by kernel_rfl) (fun _ _ _ h => h) (Or.inl ⟨by rfl, fun w => by go_simp⟩) ?_
        simp only [Act.put, List.getElem_toArray, List.getElem_cons_succ, List.getElem_cons_zero, List.setIfInBounds_toArray, List.set_cons_succ, List.set_cons_zero]
        refine wpAny_ready (rs := [12, 14]) (by kernel_rfl) (by simp) ?_
        refine AllReady.cons rfl (fun K hK => ?_) (AllReady.cons rfl (fun K hK => ?_) AllReady.nil)
        · go_simp
          go_wp2_with (go_at_call 15; refine (All_any _ _ _ _ _ _ _ (hc.out.below (Below.refl _ _).drew) (by have := HNK.out; omega)).mono ?_; rintro e w6 ⟨A6, c6, rfl, o6, b6⟩)
          try simp only [Act.put, List.getElem_toArray, List.getElem_cons_succ, List.getElem_cons_zero, List.setIfInBounds_toArray, List.set_cons_succ, List.set_cons_zero]
          refine wpAny_ready (rs := [14]) (by kernel_rfl) (by simp) ?_
          refine AllReady.cons rfl (fun K hK => ?_) AllReady.nil
          go_simp
          refine hK _ _ ?_
          try simp only [Act.put, List.getElem_toArray, List.getElem_cons_succ, List.getElem_cons_zero, List.setIfInBounds_toArray, List.set_cons_succ, List.set_cons_zero]
          have s6 := Lib.hid ((sees_own o6).below ((Below.refl _ _).alloc (Nat.le_refl _) (.cells (madeCells #[.int .i64 0] N) 3)) (Nat.le_refl _))
          have s7 := Lib.hid (sees_made w6 N (by have := HNK.out; omega))
          have b7 := Lib.hid ((Below.refl wr.heap.size wr).drew.trans (b6.trans (((Below.refl w6.heap.size w6).alloc (Nat.le_refl _) (.cells (madeCells #[.int .i64 0] N) 3)).mono b6.size)))
          refine wpAny_ready (rs := [15]) (by kernel_rfl) (by simp) ?_
          refine AllReady.cons rfl (fun K hK => ?_) AllReady.nil
          go_simp
          go_wp2_with (go_at_call 18; refine (SameInts_any _ _ _ _ _ _ (List.replicate N 0) (List.replicate N 0) _ s6.out s7.out).mono ?_; rw [eqL_self]; rintro e w8 ⟨rfl, b8⟩)
          try simp only [Act.put, List.getElem_toArray, List.getElem_cons_succ, List.getElem_cons_zero, List.setIfInBounds_toArray, List.set_cons_succ, List.set_cons_zero]
          refine wpAny_take (i := 16) (v := (.bool false)) rfl (by kernel_rfl) (by kernel_rfl) (by kernel_rfl) (fun _ _ _ h => h) (Or.inl ⟨by rfl, fun w => by go_simp⟩) ?_
          simp only [Act.put, List.getElem_toArray, List.getElem_cons_succ, List.getElem_cons_zero, List.setIfInBounds_toArray, List.set_cons_succ, List.set_cons_zero]
          refine wpAny_take (i := 17) (v := (.bool false)) rfl (by kernel_rfl) (by kernel_rfl) (by kernel_rfl) (fun _ _ _ h => h) (Or.inl ⟨by rfl, fun w => by go_simp⟩) ?_
          simp only [Act.put, List.getElem_toArray, List.getElem_cons_succ, List.getElem_cons_zero, List.setIfInBounds_toArray, List.set_cons_succ, List.set_cons_zero]
          refine wpAny_done (by kernel_rfl) ?_ _
          have hb8 := b7.out.trans (b8.mono b7.out.size)
          have HB8 := Lib.hid hb8
          have hc8 := Lib.hid (hc.out.below hb8)
          clear hb8 b6 b8 o6
          go_wp2_with fail
          go_meet
          exact ⟨rfl, hc8, Lib.hid (HB.out.trans (HB8.out.mono HB.out.size))⟩
        · go_simp
          refine hK _ _ ?_
          try simp only [Act.put, List.getElem_toArray, List.getElem_cons_succ, List.getElem_cons_zero, List.setIfInBounds_toArray, List.set_cons_succ, List.set_cons_zero]
          refine wpAny_ready (rs := [12]) (by kernel_rfl) (by simp) ?_
          refine AllReady.cons rfl (fun K hK => ?_) AllReady.nil
          go_simp
          go_wp2_with (go_at_call 15; refine (All_any _ _ _ _ _ _ _ ((hc.out.below (Below.refl _ _).drew).below ((Below.refl _ _).alloc (Nat.le_refl _) (.cells (madeCells #[.int .i64 0] N) 3))) (by have := HNK.out; omega)).mono ?_; rintro e w6 ⟨A6, c6, rfl, o6, b6⟩)
          try simp only [Act.put, List.getElem_toArray, List.getElem_cons_succ, List.getElem_cons_zero, List.setIfInBounds_toArray, List.set_cons_succ, List.set_cons_zero]
          have s6 := Lib.hid (sees_own o6)
          have s7 := Lib.hid ((sees_made wr.drew N (by have := HNK.out; omega)).below b6 (Nat.le_refl _))
          have b7 := Lib.hid (((Below.refl wr.heap.size wr).drew.alloc (Nat.le_refl _) (.cells (madeCells #[.int .i64 0] N) 3)).trans (b6.mono (by simp)))
          refine wpAny_ready (rs := [15]) (by kernel_rfl) (by simp) ?_
          refine AllReady.cons rfl (fun K hK => ?_) AllReady.nil
          go_simp
          go_wp2_with (go_at_call 18; refine (SameInts_any _ _ _ _ _ _ (List.replicate N 0) (List.replicate N 0) _ s6.out s7.out).mono ?_; rw [eqL_self]; rintro e w8 ⟨rfl, b8⟩)
          try simp only [Act.put, List.getElem_toArray, List.getElem_cons_succ, List.getElem_cons_zero, List.setIfInBounds_toArray, List.set_cons_succ, List.set_cons_zero]
          refine wpAny_take (i := 16) (v := (.bool false)) rfl (by kernel_rfl) (by kernel_rfl) (by kernel_rfl) (fun _ _ _ h => h) (Or.inl ⟨by rfl, fun w => by go_simp⟩) ?_
          simp only [Act.put, List.getElem_toArray, List.getElem_cons_succ, List.getElem_cons_zero, List.setIfInBounds_toArray, List.set_cons_succ, List.set_cons_zero]
          refine wpAny_take (i := 17) (v := (.bool false)) rfl (by kernel_rfl) (by kernel_rfl) (by kernel_rfl) (fun _ _ _ h => h) (Or.inl ⟨by rfl, fun w => by go_simp⟩) ?_
          simp only [Act.put, List.getElem_toArray, List.getElem_cons_succ, List.getElem_cons_zero, List.setIfInBounds_toArray, List.set_cons_succ, List.set_cons_zero]
          refine wpAny_done (by kernel_rfl) ?_ _
          have hb8 := b7.out.trans (b8.mono b7.out.size)
          have HB8 := Lib.hid hb8
          have hc8 := Lib.hid (hc.out.below hb8)
          clear hb8 b6 b8 o6
          go_wp2_with fail
          go_meet
          exact ⟨rfl, hc8, Lib.hid (HB.out.trans (HB8.out.mono HB.out.size))⟩
      case rest =>
        obtain ⟨rfl, hc8, HB8⟩ := hcut
        clear hc hC0 hmk d1
        have HB0 := HB8.out.size
        go_wp2
        obtain ⟨W, hW⟩ : ∃ W, wc.alloc (.cells #[.int .i64 M4, .int .i64 M5] 3) = W := ⟨_, rfl⟩
        have hb2W : Below wc.heap.size wc W := by rw [← hW]; exact (Below.refl _ _).alloc (Nat.le_refl _) _
        have hbW : Below w.heap.size w W := HB8.out.trans (hb2W.mono HB8.out.size)
        have h2W : ∀ i, i < 2 → ∃ v, (v < 1 ∨ 64 < v) ∧ W.cell? ⟨wc.heap.size, i, none⟩ = some (.int .i64 v) := by
          intro i hi
          rw [← hW]
          match i, hi with
          | 0, _ => exact ⟨M4, .inl HM.out.2.2.2.1, (cell_of_row _ _ 0 _ _ _ (heap_alloc_new wc _)).trans rfl⟩
          | 1, _ => exact ⟨M5, .inr HM.out.2.2.2.2, (cell_of_row _ _ 1 _ _ _ (heap_alloc_new wc _)).trans rfl⟩
        have hlW : wc.heap.size < W.heap.size := by rw [← hW]; simp
        have H2 := Lib.hid (And.intro h2W (And.intro hlW hbW))
        rw [hW]
        clear hW h2W hlW hbW hb2W HB0 hc8
        generalize wc.heap.size = G2 at H2 ⊢
        go_loopw [145] (fun i wr => ∃ k : Nat, Hid (k ≤ 2) ∧ i = .int .i64 (k : Int) ∧ Below W.heap.size W wr) (fun i _ => 2 - (intOf i).toNat)
        case atStart => exact ⟨0, Lib.hid (by omega), rfl, Below.refl _ _⟩
        case round =>
          obtain ⟨k, HI2, rfl, hb⟩ := hrel
          by_cases hlt : k < 2
          · obtain ⟨v, hv, hcell⟩ := H2.out.1 k hlt
            have g1 : wr.cell? ⟨G2, k, none⟩ = some (.int .i64 v) := (hb.cell (p := ⟨G2, k, none⟩) H2.out.2.1).trans hcell
            have d1 : decide ((k : Int) < 2) = true := by simp; omega
            have hk1 : (k : Int) ≤ 1 := by omega
            have HLT := Lib.hid hlt
            have HV := Lib.hid hv
            have HBB := Lib.hid hb
            clear hlt hcell hv hb
            go_wp2_with (first
              | (go_at_call 23; refine (Stamps_any v none none 0 0 0 0 [] [] _ (Sees.nil _ _ _ _ (Nat.zero_le _) fun _ => rfl) (Sees.nil _ _ _ _ (Nat.zero_le _) fun _ => rfl) (by decide)).mono ?_; rw [each_num HV.out]; rintro e w7 ⟨A7, c7, m7, rfl, o7, b7⟩)
              | (go_at_call 24; refine (Deltas_any v none 0 0 [] _ (Sees.nil _ _ _ _ (Nat.zero_le _) fun _ => rfl) (by decide)).mono ?_; rw [each_num HV.out]; rintro e w6 ⟨A6, c6, m6, rfl, o6, b6⟩)
              | (go_at_call 12; refine (New_bad v _ HV.out).mono ?_; rintro e w5 ⟨rfl, b5⟩))
            go_roundw
            case rel => exact ⟨k + 1, Lib.hid HLT.out, by go_num, HBB.out.trans ((below_step (below_step b5 b6) b7).mono HBB.out.size)⟩
            case measure => have := HLT.out; simp [intOf]; omega
          · have d1 : decide ((k : Int) < 2) = false := by simp; omega
            have HB9 := Lib.hid (H2.out.2.2.trans (hb.mono H2.out.2.2.size))
            clear hlt hb H2
            go_wp2_with (first
              | (at_builtin; refine wpList_app4 E_int rfl _ _ rfl rfl (O9.out.2.1.alloc _) rfl (Sees.one _ _ _) (one1 rfl) (by decide) (by have := K9.out; simp [maxLen]; omega) (by have := K9.out; omega) (by have := B9.out.size; simp; omega) ?_; intro A4 c4 w4 hown4 hg4 hb4 hold4; have o14 := own_kept_as (O9.out.1.alloc _) hg4 (ne_row (ne_swap O9.out.2.2)); have O4 := Lib.hid (And.intro hown4 (And.intro o14 (And.intro hold4 ((B9.out.alloc B9.out.size _).trans hb4)))); clear hown4 hg4 hb4 hold4 o14)
              | (go_at_call 13; refine (made_ne N _ _ _ l _ (by exact h.below HB9.out (Nat.le_refl _)) HL.out HNK.out.1).mono ?_; rintro e w3 ⟨A1, c1, A2, c2, k9, rfl, o1, o2, hne, hk1, hk2, hk3, b3⟩; have hgd := made_good (N := N) HNK.out.1.1 (HL.out.take k9); have l1 : (mC (N : Int) (l.take k9)).length = k9 := (by simp [mC]; omega); have l2 : (mD (l.take k9)).length = k9 := (by simp [mD]; omega); generalize mC (N : Int) (l.take k9) = cs at hgd l1 o1; generalize mD (l.take k9) = ds at hgd l2 o2; have O9 := Lib.hid (And.intro o1 (And.intro o2 hne)); have K9 := Lib.hid (And.intro hk1 (And.intro l1 (And.intro l2 hgd))); have B9 := Lib.hid b3; clear o1 o2 hne hk1 hk2 hk3 b3 hgd l1 l2))
            have HA1 := Lib.hid (sees_own O4.out.2.1)
            have hK9 : (k9 : Int) ≤ 100 := by have := K9.out.1; omega
            have HS1 := Lib.hid (Stamps_any (N : Int) A1 A4 k9 c1 (k9 + 1) c4 cs (ds ++ [1]) w4 HA1.out (by have := sees_own O4.out.1; rw [List.map_append]; exact this) (by have := K9.out; omega))
            have HE1 : Hid (eachF tickF (N : Int) cs (ds ++ [1]) = ([], 2)) := Lib.hid (each_len (by have := K9.out; simp; omega))
            by_cases hk0 : k9 = 0
            · subst hk0
              go_wp2_with (go_at_call 23; refine HS1.out.mono ?_; rw [HE1.out]; rintro e w5 ⟨A5, c5, m5, rfl, o5, b5⟩)
              go_ret
              exact ⟨rfl, HB9.out.trans ((O4.out.2.2.2.trans (b5.mono (O4.out.2.2.2.size))).mono HB9.out.size)⟩
            · have z1 : ((k9 : Int) == 0) = false := by simp; omega
              have z2 : (k9 == 0) = false := by simp; omega
              have z3 : ¬ (k9 : Int) = 0 := by omega
              have z4 : (0 : Int) < (k9 : Int) := by omega
              have HST := Lib.hid (each_tick (N := N) HNK.out.1 (cs := cs) (ds := ds) (by have := K9.out; omega) (by have := K9.out; omega) K9.out.2.2.2)
              have hstl : (stOf (cs.zip ds) (List.replicate N 0)).length = k9 := by rw [stOf_len]; have := K9.out; simp; omega
              obtain ⟨st, hst⟩ : ∃ st, stOf (cs.zip ds) (List.replicate N 0) = st := ⟨_, rfl⟩
              rw [hst] at hstl
              have HSTL := Lib.hid (And.intro hst hstl)
              obtain ⟨kk, hkk, hkk2⟩ : ∃ kk : Nat, (at8 : Int) % (k9 : Int) = (kk : Int) ∧ kk < k9 := ⟨at8 % k9, by norm_cast, Nat.mod_lt _ (by omega)⟩
              have HKK := Lib.hid hkk2
              have hkk3 : (kk : Int) < (k9 : Int) := by omega
              have HK0 := Lib.hid hk0
              clear hst hstl hkk2 hk0
              go_upto_region 41 with (first
                | (at_builtin; have _q := O8; refine wpList_app E_int rfl _ _ rfl rfl (World.ownsRow_lit (base := w8.heap.size) (e := 3) (size := 1) w8 #[] 0 (Nat.le_refl _) (by decide) rfl) rfl ((sees_own O8.out.2.1).below ((Below.refl _ _).alloc (Nat.le_refl _) _) (Nat.le_refl _)) (ints1 _ _) (by simp [maxLen]; omega) (by omega) (by simp) ?_; intro A9 c9 w9 o9 g9 b9; have o9 := (show w9.ownsRow w8.heap.size 3 1 (.slice A9 k9 c9) k9 (cs.map (Value.int .i64)) by have := o9; simpa only [Nat.zero_add, List.nil_append] using this); have bb9 := ((Below.refl w8.heap.size w8).alloc (Nat.le_refl _) (.cells #[] 3)).trans b9; have O10 := Lib.hid (And.intro o9 bb9); clear o9 g9 b9 bb9)
                | (at_builtin; have _q := O7; refine wpList_app E_int rfl _ _ rfl rfl (World.ownsRow_lit (base := w7.heap.size) (e := 3) (size := 1) w7 #[] 0 (Nat.le_refl _) (by decide) rfl) rfl ((sees_own O7.out.2.2.1).below ((Below.refl _ _).alloc (Nat.le_refl _) _) (Nat.le_refl _)) (ints1 _ _) (by simp [maxLen]; omega) (by omega) (by simp) ?_; intro A8 c8 w8 o8 g8 b8; have o8 := (show w8.ownsRow w7.heap.size 3 1 (.slice A8 k9 c8) k9 (ds.map (Value.int .i64)) by have := o8; simpa only [Nat.zero_add, List.nil_append] using this); have bb8 := ((Below.refl w7.heap.size w7).alloc (Nat.le_refl _) (.cells #[] 3)).trans b8; have O8 := Lib.hid (And.intro o8 (And.intro (own_below O7.out.2.1 bb8 (Nat.le_refl _)) bb8)); clear o8 g8 b8 bb8)
                | (at_builtin; refine wpList_app E_int rfl _ _ rfl rfl (World.ownsRow_lit (base := w6.heap.size) (e := 3) (size := 1) w6 #[] 0 (Nat.le_refl _) (by decide) rfl) rfl ((sees_own O6.out.2.2.1).below ((Below.refl _ _).alloc (Nat.le_refl _) _) (Nat.le_refl _)) (ints1 _ _) (by simp [maxLen]; omega) (by omega) (by simp) ?_; intro A7 c7 w7 o7 g7 b7; have o7 := (show w7.ownsRow w6.heap.size 3 1 (.slice A7 k9 c7) k9 (ds.map (Value.int .i64)) by have := o7; simpa only [Nat.zero_add, List.nil_append] using this); have bb7 := ((Below.refl w6.heap.size w6).alloc (Nat.le_refl _) (.cells #[] 3)).trans b7; have O7 := Lib.hid (And.intro o7 (And.intro (own_below O6.out.2.1 bb7 (Nat.le_refl _)) (And.intro (own_below O6.out.2.2.1 bb7 (Nat.le_refl _)) bb7))); clear o7 g7 b7 bb7)
                | (go_at_call 23; have _q := O5; refine (Stamps_any (N : Int) A1 A2 k9 c1 k9 c2 cs ds _ (sees_own O5.out.1) (sees_own O5.out.2.1) (by omega)).mono ?_; rw [HST.out, HSTL.out.1]; rintro e w6 ⟨A6, c6, m6, rfl, o6, b6⟩; obtain rfl : k9 = m6 := (by have h1 : (flat st).length = m6 * 2 := o6.1; rw [flat_len] at h1; have := HSTL.out.2; omega); have O6 := Lib.hid (And.intro o6 (And.intro (own_below O5.out.1 b6 (Nat.le_refl _)) (And.intro (own_below O5.out.2.1 b6 (Nat.le_refl _)) b6))); clear o6 b6)
                | (go_at_call 23; refine HS1.out.mono ?_; rw [HE1.out]; rintro e w5 ⟨A5, c5, m5, rfl, o5, b5⟩; have O5 := Lib.hid (And.intro (own_below O4.out.2.1 b5 (Nat.le_refl _)) (And.intro (own_below O4.out.2.2.1 b5 (Nat.le_refl _)) b5)); clear o5 b5))
              have hkp : 0 < k9 := by omega
              have r7 := own_below (own_below O7.out.1 O8.out.2.2 (Nat.le_refl _)) O10.out.2 (Nat.le_refl _)
              have r8 := own_below O8.out.1 O10.out.2 (Nat.le_refl _)
              have r9 := O10.out.1
              have rcs := own_below O8.out.2.1 O10.out.2 (Nat.le_refl _)
              have rds := own_below (own_below O7.out.2.2.1 O8.out.2.2 (Nat.le_refl _)) O10.out.2 (Nat.le_refl _)
              have rst := own_below (own_below (own_below O6.out.1 O7.out.2.2.2 (Nat.le_refl _)) O8.out.2.2 (Nat.le_refl _)) O10.out.2 (Nat.le_refl _)
              obtain ⟨q7, rfl, hq7, hl7⟩ := own_some O7.out.1 hkp
              obtain ⟨q8, rfl, hq8, hl8⟩ := own_some O8.out.1 hkp
              obtain ⟨q9, rfl, hq9, hl9⟩ := own_some O10.out.1 hkp
              obtain ⟨q6, rfl, hq6, hl6⟩ := own_some O6.out.1 hkp
              obtain ⟨q1, rfl, hq1, hl1⟩ := own_some O5.out.1 hkp
              obtain ⟨q2, rfl, hq2, hl2⟩ := own_some O5.out.2.1 hkp
              have z65 := O6.out.2.2.2.size
              have n1 : q7 ≠ q8 := by omega
              have n2 : q7 ≠ q9 := by have := O8.out.2.2.size; omega
              have n3 : q8 ≠ q9 := by omega
              have n4 : q1 ≠ q7 ∧ q1 ≠ q8 ∧ q1 ≠ q9 ∧ q2 ≠ q7 ∧ q2 ≠ q8 ∧ q2 ≠ q9 ∧ q6 ≠ q7 ∧ q6 ≠ q8 ∧ q6 ≠ q9 ∧ q6 ≠ q1 ∧ q6 ≠ q2 := by
                have := O8.out.2.2.size; have := O7.out.2.2.2.size; omega
              have hBq : Below w.heap.size w w9 := HB9.out.trans (((((O4.out.2.2.2.trans (O5.out.2.2.mono O4.out.2.2.2.size)).trans (O6.out.2.2.2.mono (O4.out.2.2.2.trans (O5.out.2.2.mono O4.out.2.2.2.size)).size)).trans (O7.out.2.2.2.mono ((O4.out.2.2.2.trans (O5.out.2.2.mono O4.out.2.2.2.size)).trans (O6.out.2.2.2.mono (O4.out.2.2.2.trans (O5.out.2.2.mono O4.out.2.2.2.size)).size)).size)).mono HB9.out.size).trans ((O8.out.2.2.trans (O10.out.2.mono O8.out.2.2.size)).mono (by have := HB9.out.size; have := O4.out.2.2.2.size; have := O5.out.2.2.size; have := O7.out.2.2.2.size; omega)))
              have t7 := own_cellK r7 HKK.out
              have t8 := own_cellK r8 HKK.out
              have t9 := own_cellK r9 HKK.out
              obtain ⟨t7, t7'⟩ := t7
              obtain ⟨t8, t8'⟩ := t8
              obtain ⟨t9, t9'⟩ := t9
              have HN4 := Lib.hid (And.intro n1 (And.intro n2 (And.intro n3 n4)))
              have HR := Lib.hid (And.intro r7 (And.intro r8 (And.intro r9 (And.intro rcs (And.intro rds rst)))))
              have HBQ := Lib.hid (And.intro hBq (show w.heap.size ≤ q7 ∧ w.heap.size ≤ q8 ∧ w.heap.size ≤ q9 ∧ w.heap.size ≤ q6 from by have := HB9.out.size; have := O4.out.2.2.2.size; have := O5.out.2.2.size; have := O7.out.2.2.2.size; have := O8.out.2.2.size; omega))
              clear r7 r8 r9 rcs rds rst n4 hBq hq7 hl7 hq8 hl8 hq9 hl9 hq6 hl6 hq1 hl1 hq2 hl2 z65
              go_wp2
              obtain ⟨n1', n2', n3', n4'⟩ := HN4.out
              obtain ⟨r7, r8, r9, rcs, rds, rst⟩ := HR.out
              have ne : ∀ {a b n c : Nat}, a ≠ b → (Value.slice (some ⟨a, 0, none⟩) n c).ownBlock ≠ some b := fun h e => h (by simpa [Value.ownBlock] using e)
              have f7 := ownsRow_setCell_other (a := ⟨q9, kk, none⟩) (ownsRow_setCell_other (a := ⟨q8, kk, none⟩) (own_setK r7 kk 281474976710657) (ne n1') (.int .i64 (-1))) (ne n2') (.int .i64 M2)
              have f8 := ownsRow_setCell_other (a := ⟨q9, kk, none⟩) (own_setK (ownsRow_setCell_other (a := ⟨q7, kk, none⟩) r8 (ne (Ne.symm n1')) (.int .i64 281474976710657)) kk (-1)) (ne n3') (.int .i64 M2)
              have f9 := own_setK (ownsRow_setCell_other (a := ⟨q8, kk, none⟩) (ownsRow_setCell_other (a := ⟨q7, kk, none⟩) r9 (ne (Ne.symm n2')) (.int .i64 281474976710657)) (ne (Ne.symm n3')) (.int .i64 (-1))) kk M2
              have fcs := ownsRow_setCell_other (a := ⟨q9, kk, none⟩) (ownsRow_setCell_other (a := ⟨q8, kk, none⟩) (ownsRow_setCell_other (a := ⟨q7, kk, none⟩) rcs (ne n4'.1) (.int .i64 281474976710657)) (ne n4'.2.1) (.int .i64 (-1))) (ne n4'.2.2.1) (.int .i64 M2)
              have fds := ownsRow_setCell_other (a := ⟨q9, kk, none⟩) (ownsRow_setCell_other (a := ⟨q8, kk, none⟩) (ownsRow_setCell_other (a := ⟨q7, kk, none⟩) rds (ne n4'.2.2.2.1) (.int .i64 281474976710657)) (ne n4'.2.2.2.2.1) (.int .i64 (-1))) (ne n4'.2.2.2.2.2.1) (.int .i64 M2)
              have fst := ownsRow_setCell_other (a := ⟨q9, kk, none⟩) (ownsRow_setCell_other (a := ⟨q8, kk, none⟩) (ownsRow_setCell_other (a := ⟨q7, kk, none⟩) rst (ne n4'.2.2.2.2.2.2.1) (.int .i64 281474976710657)) (ne n4'.2.2.2.2.2.2.2.1) (.int .i64 (-1))) (ne n4'.2.2.2.2.2.2.2.2.1) (.int .i64 M2)
              have fB : Below w.heap.size w (((w9.setCell ⟨q7, kk, none⟩ (.int .i64 281474976710657)).setCell ⟨q8, kk, none⟩ (.int .i64 (-1))).setCell ⟨q9, kk, none⟩ (.int .i64 M2)) := ((HBQ.out.1.setCell (p := ⟨q7, kk, none⟩) HBQ.out.2.1 _).setCell (p := ⟨q8, kk, none⟩) HBQ.out.2.2.1 _).setCell (p := ⟨q9, kk, none⟩) HBQ.out.2.2.2.1 _
              clear r7 r8 r9 rcs rds rst n1' n2' n3' n4' t7 t7' t8 t8' t9 t9' HR n1 n2
              generalize ((w9.setCell ⟨q7, kk, none⟩ (.int .i64 281474976710657)).setCell ⟨q8, kk, none⟩ (.int .i64 (-1))).setCell ⟨q9, kk, none⟩ (.int .i64 M2) = Wx at f7 f8 f9 fcs fds fst fB ⊢
              obtain ⟨lst, hls⟩ : ∃ lst : Nat, k9 = lst + 1 := ⟨k9 - 1, by omega⟩
              have hls1 : lst < k9 := by omega
              obtain ⟨u8, u8'⟩ := own_cellK f8 hls1
              obtain ⟨u9, u9'⟩ := own_cellK f9 hls1
              obtain ⟨u9k, u9k'⟩ := own_cellK f9 HKK.out
              have hM2k : (cs.set kk M2).getD kk 0 = M2 := getD_set (by have := K9.out.2.1; have := HKK.out; omega) M2
              rw [hM2k] at u9k
              obtain ⟨L8, hL8⟩ : ∃ v, (ds.set kk (-1)).getD lst 0 = v := ⟨_, rfl⟩
              obtain ⟨L9, hL9⟩ : ∃ v, (cs.set kk M2).getD lst 0 = v := ⟨_, rfl⟩
              rw [hL8] at u8
              rw [hL9] at u9
              obtain ⟨E8, hE8⟩ : ∃ v : Int, (if 0 < L8 then 0 else L8) = v := ⟨_, rfl⟩
              obtain ⟨E9, hE9⟩ : ∃ v : Int, (if L9 < M2 then M2 else L9) = v := ⟨_, rfl⟩
              have e1 : (k9 : Int) - 1 = (lst : Int) := by omega
              have e2 : IntKind.i64.wrap ((k9 : Int) - 1) = (lst : Int) := by rw [e1]; exact IntWalk.i64_in _ (by omega)
              have e3 : (lst : Int) < (k9 : Int) := by omega
              have HF := Lib.hid (And.intro f7 (And.intro f8 (And.intro f9 (And.intro fcs (And.intro fds (And.intro fst fB))))))
              have HLS := Lib.hid (And.intro hls (And.intro hL8 (And.intro hL9 (And.intro hE8 hE9))))
              have hne89 : q8 ≠ q9 := n3
              clear f7 f8 f9 fcs fds fst fB hls hL8 hL9 hM2k hls1 n3
              go_region
              obtain ⟨f7, f8, f9, fcs, fds, fst, fB⟩ := HF.out
              obtain ⟨n1', n2', n3', n4'⟩ := HN4.out
              have ne : ∀ {a b n c : Nat}, a ≠ b → (Value.slice (some ⟨a, 0, none⟩) n c).ownBlock ≠ some b := fun h e => h (by simpa [Value.ownBlock] using e)
              have y7 := (ownsRow_setCell_other (a := ⟨q9, lst, none⟩) (ownsRow_setCell_other (a := ⟨q8, lst, none⟩) f7 (ne n1') (.int .i64 E8)) (ne n2') (.int .i64 E9)).drew
              have y8 := (ownsRow_setCell_other (a := ⟨q9, lst, none⟩) (own_setK f8 lst E8) (ne n3') (.int .i64 E9)).drew
              have y9 := (own_setK (ownsRow_setCell_other (a := ⟨q8, lst, none⟩) f9 (ne (Ne.symm n3')) (.int .i64 E8)) lst E9).drew
              have ycs := (ownsRow_setCell_other (a := ⟨q9, lst, none⟩) (ownsRow_setCell_other (a := ⟨q8, lst, none⟩) fcs (ne n4'.2.1) (.int .i64 E8)) (ne n4'.2.2.1) (.int .i64 E9)).drew
              have yds := (ownsRow_setCell_other (a := ⟨q9, lst, none⟩) (ownsRow_setCell_other (a := ⟨q8, lst, none⟩) fds (ne n4'.2.2.2.2.1) (.int .i64 E8)) (ne n4'.2.2.2.2.2.1) (.int .i64 E9)).drew
              have yst := (ownsRow_setCell_other (a := ⟨q9, lst, none⟩) (ownsRow_setCell_other (a := ⟨q8, lst, none⟩) fst (ne n4'.2.2.2.2.2.2.2.1) (.int .i64 E8)) (ne n4'.2.2.2.2.2.2.2.2.1) (.int .i64 E9)).drew
              have yB : Below w.heap.size w ((Wx.setCell ⟨q8, lst, none⟩ (.int .i64 E8)).setCell ⟨q9, lst, none⟩ (.int .i64 E9)).drew := ((fB.setCell (p := ⟨q8, lst, none⟩) HBQ.out.2.2.1 _).setCell (p := ⟨q9, lst, none⟩) HBQ.out.2.2.2.1 _).drew
              clear f7 f8 f9 fcs fds fst fB n1' n2' n3' n4' HF u8 u8' u9 u9' u9k u9k' hne89 e2
              generalize ((Wx.setCell ⟨q8, lst, none⟩ (.int .i64 E8)).setCell ⟨q9, lst, none⟩ (.int .i64 E9)).drew = W11 at y7 y8 y9 ycs yds yst yB ⊢
              obtain ⟨hls, hL8, hL9, hE8, hE9⟩ := HLS.out
              have lc := K9.out.2.1
              have ld := K9.out.2.2.1
              have k9l := K9.out.1
              have hkk9 := HKK.out
              have hgk : (0 ≤ cs.getD kk 0 ∧ cs.getD kk 0 < (N : Int)) ∧ 0 ≤ ds.getD kk 0 ∧ ds.getD kk 0 ≤ 33554428 := K9.out.2.2.2 (cs.getD kk 0, ds.getD kk 0) (List.mem_of_mem_drop (i := kk) (by rw [zip_drop (by omega) (by omega)]; simp))
              have x4 : (eachF tickF (N : Int) cs (ds.set kk 281474976710657)).2 = 4 := each_tick_bad HNK.out.1 (by decide) (k := kk) (by simp; omega) (by omega) (by omega) rfl (take_set_ge _ _ (Nat.le_refl _)) K9.out.2.2.2 (fun xs hxl ho => tick_fullF (by rw [hxl]; exact hgk.1) ho (by rw [getD_set (by omega)]; decide))
              have x2 : (eachF tickF (N : Int) cs ((ds.set kk (-1)).set lst E8)).2 = 2 := each_tick_bad HNK.out.1 (by decide) (k := kk) (by simp; omega) (by omega) (by omega) rfl (by rw [take_set_ge _ _ (by omega), take_set_ge _ _ (Nat.le_refl _)]) K9.out.2.2.2 (fun xs hxl ho => tick_negF (by rw [hxl]; exact hgk.1) (by
                rw [getD_set2 (by omega) (by omega) (fun e => ?_)]
                · decide
                · rw [← e, getD_set (by omega)] at hL8; rw [← hE8, ← hL8]; decide))
              have x290 : (eachF tickF (N : Int) ((cs.set kk M2).set lst E9) ds).2 = 290 := each_tick_bad HNK.out.1 (by decide) (k := kk) (by simp; omega) (by simp; omega) (by simp; omega) (by rw [take_set_ge _ _ (by omega), take_set_ge _ _ (Nat.le_refl _)]) rfl K9.out.2.2.2 (fun xs hxl ho => tick_cpuF (.inr (by
                rw [getD_set2 (by omega) (by omega) (fun e => ?_), hxl]
                · exact HM.out.2.1
                · rw [← e, getD_set (by omega)] at hL9; rw [← hE9, ← hL9, if_neg (by omega)])))
              have HX4 := Lib.hid (And.intro x4 (And.intro x2 (And.intro x290 hgk)))
              have HY := Lib.hid (And.intro y7 (And.intro y8 (And.intro y9 (And.intro ycs (And.intro yds (And.intro yst yB))))))
              clear y7 y8 y9 ycs yds yst yB hls hL8 hL9 hE8 hE9 lc ld k9l hkk9 hgk x4 x2 x290
              go_upto_region 46 with (first
                | (go_at_call 23; have _q := b13; refine (Stamps_any (N : Int) _ _ k9 c9 k9 c2 _ ds _ ((sees_own HY.out.2.2.1).below (below_step b12 b13) (Nat.le_refl _)) ((sees_own HY.out.2.2.2.2.1).below (below_step b12 b13) (Nat.le_refl _)) (by omega)).mono ?_; rw [HX4.out.2.2.1]; rintro e w14 ⟨A14, c14, m14, rfl, o14, b14⟩)
                | (go_at_call 23; have _q := b12; refine (Stamps_any (N : Int) _ _ k9 c1 k9 c8 cs _ _ ((sees_own HY.out.2.2.2.1).below b12 (Nat.le_refl _)) ((sees_own HY.out.2.1).below b12 (Nat.le_refl _)) (by omega)).mono ?_; rw [HX4.out.2.1]; rintro e w13 ⟨A13, c13, m13, rfl, o13, b13⟩)
                | (go_at_call 23; refine (Stamps_any (N : Int) _ _ k9 c1 k9 c7 cs _ _ (sees_own HY.out.2.2.2.1) (sees_own HY.out.1) (by omega)).mono ?_; rw [HX4.out.1]; rintro e w12 ⟨A12, c12, m12, rfl, o12, b12⟩))
              have B14 := below_step (below_step b12 b13) b14
              have v6 := own_below HY.out.2.2.2.2.2.1 B14 (Nat.le_refl _)
              have v1 := own_below HY.out.2.2.2.1 B14 (Nat.le_refl _)
              have hB14 := HY.out.2.2.2.2.2.2.trans (B14.mono HY.out.2.2.2.2.2.2.size)
              have hsl := HSTL.out.2
              obtain ⟨s1, s2, s3, s4⟩ := own_cellF v6 HKK.out hsl
              have HV := Lib.hid (And.intro v6 (And.intro v1 (And.intro hB14 hsl)))
              clear B14 v6 v1 hB14 hsl b12 b13 b14 o12 o13 o14
              go_upto_region 47 with fail
              obtain ⟨v6, v1, hB14, hsl⟩ := HV.out
              have ne : ∀ {a b n c : Nat}, a ≠ b → (Value.slice (some ⟨a, 0, none⟩) n c).ownBlock ≠ some b := fun h e => h (by simpa [Value.ownBlock] using e)
              have n61 : q6 ≠ q1 := HN4.out.2.2.2.2.2.2.2.2.2.2.2.2.1
              have x6 := own_setF0 v6 kk (by rw [hsl]; exact HKK.out) M1
              have x1 := ownsRow_setCell_other (a := ⟨q6, kk * 2, none⟩) v1 (ne (Ne.symm n61)) (.int .i64 M1)
              have hB15 := hB14.setCell (p := ⟨q6, kk * 2, none⟩) HBQ.out.2.2.2.2 (.int .i64 M1)
              clear v6 v1 hB14 s1 s2 s3 s4 HV
              generalize w14.setCell ⟨q6, kk * 2, none⟩ (.int .i64 M1) = W15 at x6 x1 hB15 ⊢
              generalize (st.getD kk (0, 0)).2 = tt at x6
              have hsl1 : (st.set kk (M1, tt)).length = k9 := by simpa using hsl
              have hr1 : (eachF untilF (N : Int) ((st.set kk (M1, tt)).map (·.1)) ((st.set kk (M1, tt)).map (·.2))).2 = 290 := each_until_bad (N := N) HNK.out.1 (ps := cs.zip ds) (by decide) (k := kk) (by rw [hsl1]; exact HKK.out) (by rw [hsl1]; exact K9.out.1) (by rw [HSTL.out.1]; exact take_set_geP _ _ (Nat.le_refl _)) K9.out.2.2.2 (fun xs hxl ho => by
                rw [getD_setP (by rw [hsl]; exact HKK.out)]
                exact until_cpuF (.inl HM.out.1))
              have HW := Lib.hid (And.intro x6 (And.intro x1 (And.intro hB15 (And.intro hsl1 (And.intro hr1 hsl)))))
              clear x6 x1 hB15 hsl hsl1 hr1
              go_upto_region 48 with (go_at_call 24; refine (Deltas_any (N : Int) _ k9 c6 _ _ (sees_own HW.out.1) (by omega)).mono ?_; rw [HW.out.2.2.2.2.1]; rintro e w16 ⟨A16, c16, m16, rfl, o16, b16⟩)
              have v6 := own_below HW.out.1 b16 (Nat.le_refl _)
              have v1 := own_below HW.out.2.1 b16 (Nat.le_refl _)
              have hB16 := HW.out.2.2.1.trans (b16.mono HW.out.2.2.1.size)
              have hsl1 := HW.out.2.2.2.1
              obtain ⟨s1, s2, s3, s4⟩ := own_cellF v6 HKK.out hsl1
              obtain ⟨s5, s6⟩ := own_cellK v1 HKK.out
              obtain ⟨ck, hck⟩ : ∃ ck, cs.getD kk 0 = ck := ⟨_, rfl⟩
              rw [hck] at s5
              have HV := Lib.hid (And.intro v6 (And.intro v1 (And.intro hB16 (And.intro hsl1 hck))))
              have n16 : q1 ≠ q6 := Ne.symm n61
              clear v6 v1 hB16 hsl1 b16 o16 hck
              go_upto_region 49 with fail
              obtain ⟨v6, v1, hB16, hsl1, hck⟩ := HV.out
              have x6 := own_setF0 v6 kk (by rw [hsl1]; exact HKK.out) ck
              have x6' := own_setF1 x6 kk (by simp; have := HW.out.2.2.2.2.2; have := HKK.out; omega) M3
              have x1 := ownsRow_setCell_other (a := ⟨q6, kk * 2 + 1, none⟩) (ownsRow_setCell_other (a := ⟨q6, kk * 2, none⟩) v1 (ne n16) (.int .i64 ck)) (ne n16) (.int .i64 M3)
              have hB17 := (hB16.setCell (p := ⟨q6, kk * 2, none⟩) HBQ.out.2.2.2.2 (.int .i64 ck)).setCell (p := ⟨q6, kk * 2 + 1, none⟩) HBQ.out.2.2.2.2 (.int .i64 M3)
              clear v6 v1 hB16 s1 s2 s3 s4 s5 s6 HV x6
              generalize (w16.setCell ⟨q6, kk * 2, none⟩ (.int .i64 ck)).setCell ⟨q6, kk * 2 + 1, none⟩ (.int .i64 M3) = W17 at x6' x1 hB17 ⊢
              have hsl9 := HW.out.2.2.2.2.2
              obtain ⟨st3, hst3⟩ : ∃ st3, (st.set kk (M1, tt)).set kk (ck, ((st.set kk (M1, tt)).getD kk (0, 0)).2) = st3 := ⟨_, rfl⟩
              have hsl3 : st3.length = k9 := by rw [← hst3, List.length_set, List.length_set]; exact hsl9
              have hst3k : (st3.getD kk (0, 0)).1 = ck := by rw [← hst3, getD_setP (by rw [List.length_set, hsl9]; exact HKK.out)]
              rw [hst3, hst3k] at x6'
              obtain ⟨st2, hst2⟩ : ∃ st2, st3.set kk (ck, M3) = st2 := ⟨_, rfl⟩
              rw [hst2] at x6'
              have hsl2 : st2.length = k9 := by rw [← hst2, List.length_set]; exact hsl3
              have hgk := HX4.out.2.2.2
              rw [hck] at hgk
              have hr2 : (eachF untilF (N : Int) (st2.map (·.1)) (st2.map (·.2))).2 = 2 := each_until_bad (N := N) HNK.out.1 (ps := cs.zip ds) (by decide) (k := kk) (by rw [hsl2]; exact HKK.out) (by rw [hsl2]; exact K9.out.1) (by rw [HSTL.out.1, ← hst2, take_set_geP _ _ (Nat.le_refl _), ← hst3, take_set_geP _ _ (Nat.le_refl _), take_set_geP _ _ (Nat.le_refl _)]) K9.out.2.2.2 (fun xs hxl ho => by
                rw [← hst2, getD_setP (by rw [hsl3]; exact HKK.out)]
                exact until_argF (by rw [hxl]; exact hgk.1) (.inr HM.out.2.2.1))
              have hr3 := each_back HNK.out.1 (c := ck) hgk.1 (pick5_in x)
              have HW2 := Lib.hid (And.intro x6' (And.intro x1 (And.intro hB17 (And.intro hr2 (And.intro hr3 hck)))))
              clear x6' x1 hB17 hst2 hsl2 hr2 hr3 hck hsl9 hgk hst3 hsl3 hst3k
              go_upto_region 50 with (go_at_call 24; refine (Deltas_any (N : Int) _ k9 c6 st2 _ (sees_own HW2.out.1) (by omega)).mono ?_; rw [HW2.out.2.2.2.1]; rintro e w18 ⟨A18, c18, m18, rfl, o18, b18⟩)
              have hB18 := Lib.hid (HW2.out.2.2.1.trans (b18.mono HW2.out.2.2.1.size))
              obtain ⟨s5, s6⟩ := own_cellK (own_below HW2.out.2.1 b18 (Nat.le_refl _)) HKK.out
              rw [HW2.out.2.2.2.2.2] at s5
              have hS : w18.cell? ⟨q1, kk, none⟩ = some (.int .i64 ck) ∧ w18.cell? ⟨q1, kk, none⟩ = some (.int .i64 ck) ∧ Below w18.heap.size w18 w18 := ⟨s5, s5, Below.refl _ _⟩
              clear b18 o18 s6
              go_region_held3 (fun w' => w'.cell? ⟨q1, kk, none⟩ = some (.int .i64 ck) ∧ w'.cell? ⟨q1, kk, none⟩ = some (.int .i64 ck) ∧ Below w18.heap.size w18 w') (first | exact keepD hS | exact keepA hS ((Below.refl _ _).alloc (Nat.le_refl _) _).drew | exact keepA (keepA hS ((Below.refl _ _).alloc (Nat.le_refl _) _).drew) b19 | assumption) (first
                | (go_at_call 24; refine (Deltas_any (N : Int) _ 3 3 [(ck, 5), (ck, pick5 x), (-1, 0)] _ (sees_block2 (lit_drew (heap_alloc_new _ _)) rfl (by decide)) (by decide)).mono ?_; rw [HW2.out.2.2.2.2.1]; rintro e w19 ⟨A19, c19, m19, rfl, o19, b19⟩)
                | (go_at_call 26; refine (pick5_any x _ HX.out).mono ?_; rintro e w' ⟨rfl, rfl⟩))
              all_goals
                rename_i hH
                have HFIN := Lib.hid (hB18.out.trans (hH.2.2.mono hB18.out.size))
                clear hS hH
                go_wp2
                go_ret
                exact ⟨rfl, HFIN.out⟩
end Go.Proofs.Ytllbcohfelgamaa
