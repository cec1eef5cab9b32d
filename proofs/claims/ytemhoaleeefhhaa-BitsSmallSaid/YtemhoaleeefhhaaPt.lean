/- Walks: BitsSmall. Printed by gen_pt.py. -/
import Derived.Test.YtemhoaleeefhhaaProg
import Derived.Test.YtemhoaleeefhhaaPm
import Derived.Test.YtemhoaleeefhhaaPi
import Derived.Test.YtemhoaleeefhhaaNd
import Derived.Test.YtemhoaleeefhhaaOa
import Derived.Test.YtemhoaleeefhhaaBt
import Derived.Deep.DeepCutAuto
namespace Go.Proofs.Ytemhoaleeefhhaa
open Go.RowKit
set_option linter.unusedVariables false

theorem cnt_zero (n N : Nat) : cnt (List.replicate n 0) N = 0 := by
  induction N with
  | zero => rfl
  | succ N ih => rw [cnt_succ, ih, bt_zeros]; rfl
theorem zeros_right (N : Nat) (h : N ≤ 65536) : RightW (N : Int) (List.replicate ((N + 63) / 64) 0) :=
  RightW.of_bits (W64.zeros _) (by omega) (by omega) (by rw [List.length_replicate]; omega) fun i _ _ => bt_zeros _ _
section
variable {F : List Int}
theorem full_right (h : notW 65536 (List.replicate 1024 0) = F) : RightW 65536 F := by
  rw [← h]; exact notW_right (N := 65536) (W64.zeros _) (zeros_right 65536 (Nat.le_refl _))
theorem full_nx (h : notW 65536 (List.replicate 1024 0) = F) : ∀ i, i < 65536 → bt F i = true := fun i hi => by
  rw [← h, notW_nx (N := 65536) (zeros_right 65536 (Nat.le_refl _)) i hi, bt_zeros]; rfl
theorem full_cnt (h : notW 65536 (List.replicate 1024 0) = F) (N : Nat) (hN : N ≤ 65536) : cnt F N = N := by
  have h1 := cnt_not (zs := List.replicate 1024 0) (nt := F) (N := N) (fun i hi => by rw [full_nx h i (by omega), bt_zeros]; rfl)
  rw [cnt_zero] at h1
  omega
theorem full_rank (h : notW 65536 (List.replicate 1024 0) = F) : rankF F 65536 65536 = 65536 := by
  unfold rankF
  rw [if_pos (full_right h), show (min (65536 : Int) 65536).toNat = 65536 from rfl]
  exact full_cnt h 65536 (Nat.le_refl _)
theorem full_sel (h : notW 65536 (List.replicate 1024 0) = F) : selF F 65536 65535 = some 65535 := by
  unfold selF
  rw [if_pos ⟨full_right h, by decide⟩]
  have h1 := mem_rank (l := F) (N := 65536) (i := 65535) (by decide) (full_nx h 65535 (by decide))
  rw [full_cnt h 65535 (by decide)] at h1
  exact h1
theorem full_runs (h : notW 65536 (List.replicate 1024 0) = F) : runsF F 65536 = [(0, 65536)] := by
  unfold runsF
  rw [if_pos (full_right h)]
  have h1 := rn_run (l := F) (f := 0) (j := 65536) (fun r hr => by rw [rn_zero] at hr; cases hr) (by decide) (fun i _ hi => full_nx h i hi)
  rw [rn_zero] at h1
  exact h1
end
theorem JX.begin_ (w : World) : JX w w [] [] [] := ⟨Below.refl _ _, fun _ h => (List.not_mem_nil h).elim, fun _ h => (List.not_mem_nil h).elim, fun _ h => (List.not_mem_nil h).elim, List.Pairwise.nil⟩
theorem JX.plus {w W : World} {S : List Sx} {R E : List Rx} (h : JX w W S R E) (o : Obj) : JX w (W.alloc o) S R E := h.step ((Below.refl _ _).alloc (Nat.le_refl _) o)
theorem JX.more {w W : World} {S : List Sx} {R E : List Rx} (h : JX w W S R E) {A : Option Addr} {n c : Nat} {zs : List Int} (s : Sees W 1 A n c (zs.map (Value.int .u64))) : JX w W S R (⟨A, n, c, zs⟩ :: E) := by
  refine ⟨h.bel, h.box, h.row, fun e he => ?_, h.dis⟩
  rcases List.mem_cons.1 he with rfl | he
  · exact s
  · exact h.see e he
theorem JX.less {w W : World} {S : List Sx} {R E : List Rx} (h : JX w W S R E) : JX w W [] [] [] := ⟨h.bel, fun _ h => (List.not_mem_nil h).elim, fun _ h => (List.not_mem_nil h).elim, fun _ h => (List.not_mem_nil h).elim, List.Pairwise.nil⟩
theorem JX.litSet {w W : World} {S : List Sx} {R E : List Rx} (h : JX w W S R E) (N x : Int) : JX w ((W.alloc (.cells #[.int .u64 x] 54)).alloc (.cells #[.int .i64 N, .slice (some ⟨W.heap.size, 0, none⟩) 1 1] 24)) (⟨W.heap.size + 1, N, some ⟨W.heap.size, 0, none⟩, 1, 1⟩ :: S) R (⟨some ⟨W.heap.size, 0, none⟩, 1, 1, [x]⟩ :: E) := by
  have h1 := (h.plus (.cells #[.int .u64 x] 54)).more (zs := [x]) (sees_block (heap_alloc_new _ _) rfl (Nat.le_refl _) (by decide) ⟨[], rfl⟩ : Sees _ 1 _ 1 1 [Value.int .u64 x])
  have h2 := h1.newBox N (some ⟨W.heap.size, 0, none⟩) 1 1
  rw [alloc_sizeP] at h2
  exact h2
theorem JX.tail9 {w W : World} {S : List Sx} {R E : List Rx} {e : Rx} (h : JX w W S R (e :: E)) : JX w W [] [] E := ⟨h.bel, fun _ h => (List.not_mem_nil h).elim, fun _ h => (List.not_mem_nil h).elim, fun x hx => h.see x (List.mem_cons_of_mem _ hx), List.Pairwise.nil⟩
theorem w64_one {x : Int} (h0 : 0 ≤ x) (h1 : x ≤ 18446744073709551615) : W64 [x] := fun y hy => by rw [List.mem_singleton] at hy; subst hy; exact ⟨h0, h1⟩
theorem keptL {w w' : World} {g : Nat} {o : Obj} (h : w.heap[g]? = some o) (k : Below w.heap.size w w') : w'.heap[g]? = some o := (k.block g (lt_heapK h)).trans h
theorem cellL {w : World} {g : Nat} {cs : Array Value} {t : TypeId} {fz : Nat × Nat} (h : w.heap[g]? = some (.cells cs t fz)) (k : Nat) : w.cell? ⟨g, k, none⟩ = cs[k]? := by simp [World.cell?, h]
theorem plusL {w : World} {g : Nat} {o o' : Obj} (h : w.heap[g]? = some o) : (w.alloc o').heap[g]? = some o := keptL h ((Below.refl _ _).alloc (Nat.le_refl _) o')

theorem at6 {w : World} {g j : Nat} {t : TypeId} (h : w.heap[g]? = some (.cells #[.int .i64 63, .int .i64 64, .int .i64 65, .int .i64 127, .int .i64 128, .int .i64 129] t)) (hj : j < 6) : ∃ n : Nat, w.cell? ⟨g, j, none⟩ = some (.int .i64 (n : Int)) ∧ 63 ≤ n ∧ n ≤ 129 := by
  rcases (show j = 0 ∨ j = 1 ∨ j = 2 ∨ j = 3 ∨ j = 4 ∨ j = 5 by omega) with rfl | rfl | rfl | rfl | rfl | rfl
  · exact ⟨63, by simp [World.cell?, h], by decide, by decide⟩
  · exact ⟨64, by simp [World.cell?, h], by decide, by decide⟩
  · exact ⟨65, by simp [World.cell?, h], by decide, by decide⟩
  · exact ⟨127, by simp [World.cell?, h], by decide, by decide⟩
  · exact ⟨128, by simp [World.cell?, h], by decide, by decide⟩
  · exact ⟨129, by simp [World.cell?, h], by decide, by decide⟩
theorem at10 {w : World} {g j : Nat} {t : TypeId} (h : w.heap[g]? = some (.cells #[.int .i64 0, .int .i64 1, .int .i64 62, .int .i64 63, .int .i64 64, .int .i64 65, .int .i64 126, .int .i64 127, .int .i64 128, .int .i64 (-1)] t)) (hj : j < 10) : ∃ k : Int, w.cell? ⟨g, j, none⟩ = some (.int .i64 k) ∧ -1 ≤ k ∧ k ≤ 128 := by
  rcases (show j = 0 ∨ j = 1 ∨ j = 2 ∨ j = 3 ∨ j = 4 ∨ j = 5 ∨ j = 6 ∨ j = 7 ∨ j = 8 ∨ j = 9 by omega) with rfl | rfl | rfl | rfl | rfl | rfl | rfl | rfl | rfl | rfl <;> exact ⟨_, by simp [World.cell?, h] <;> rfl, by decide, by decide⟩
theorem at11 {w : World} {g j : Nat} {t : TypeId} {a b c d e : Int} (h : w.heap[g]? = some (.cells #[.int .i64 (-9223372036854775808), .int .i64 (-1), .int .i64 0, .int .i64 a, .int .i64 b, .int .i64 c, .int .i64 63, .int .i64 64, .int .i64 d, .int .i64 e, .int .i64 9223372036854775807] t)) (hj : j < 11)
    (ha : -2 ≤ a ∧ a ≤ 200) (hb : -2 ≤ b ∧ b ≤ 200) (hc : -2 ≤ c ∧ c ≤ 200) (hd : -2 ≤ d ∧ d ≤ 200) (he : -2 ≤ e ∧ e ≤ 200) : ∃ x : Int, w.cell? ⟨g, j, none⟩ = some (.int .i64 x) ∧ (-9223372036854775808 ≤ x ∧ x ≤ 9223372036854775807) := by
  rcases (show j = 0 ∨ j = 1 ∨ j = 2 ∨ j = 3 ∨ j = 4 ∨ j = 5 ∨ j = 6 ∨ j = 7 ∨ j = 8 ∨ j = 9 ∨ j = 10 by omega) with rfl | rfl | rfl | rfl | rfl | rfl | rfl | rfl | rfl | rfl | rfl
  · exact ⟨-9223372036854775808, by simp [World.cell?, h], by decide, by decide⟩
  · exact ⟨-1, by simp [World.cell?, h], by decide, by decide⟩
  · exact ⟨0, by simp [World.cell?, h], by decide, by decide⟩
  · exact ⟨a, by simp [World.cell?, h], by omega, by omega⟩
  · exact ⟨b, by simp [World.cell?, h], by omega, by omega⟩
  · exact ⟨c, by simp [World.cell?, h], by omega, by omega⟩
  · exact ⟨63, by simp [World.cell?, h], by decide, by decide⟩
  · exact ⟨64, by simp [World.cell?, h], by decide, by decide⟩
  · exact ⟨d, by simp [World.cell?, h], by omega, by omega⟩
  · exact ⟨e, by simp [World.cell?, h], by omega, by omega⟩
  · exact ⟨9223372036854775807, by simp [World.cell?, h], by decide, by decide⟩
theorem nilS (w : World) (K : IntKind) : Sees w 1 none 0 0 (([] : List Int).map (Value.int K)) := Sees.nil _ _ _ _ (Nat.zero_le _) fun _ => rfl
theorem w64_nil : W64 [] := fun x hx => by cases hx
theorem w64_two {x y : Int} (hx : 0 ≤ x ∧ x ≤ 18446744073709551615) (hy : 0 ≤ y ∧ y ≤ 18446744073709551615) : W64 [x, y] := fun z hz => by
  rcases List.mem_cons.1 hz with rfl | hz
  · exact hx
  · rw [List.mem_singleton] at hz; subst hz; exact hy
def nineO (g : Nat) : Obj := .cells #[.int .i64 0, .slice none 0 0, .int .i64 (-1), .slice none 0 0, .int .i64 64, .slice (some ⟨g, 0, none⟩) 2 2, .int .i64 65, .slice (some ⟨g + 1, 0, none⟩) 1 1, .int .i64 1, .slice none 0 0, .int .i64 65537, .slice none 0 0, .int .i64 4611686018427387904, .slice none 0 0, .int .i64 0, .slice (some ⟨g + 1 + 1, 0, none⟩) 1 1, .int .i64 (-9223372036854775808), .slice (some ⟨g + 1 + 1 + 1, 0, none⟩) 1 1] 24
def nineE (g : Nat) : List Rx := [⟨some ⟨g + 1 + 1 + 1, 0, none⟩, 1, 1, [5]⟩, ⟨some ⟨g + 1 + 1, 0, none⟩, 1, 1, [0]⟩, ⟨some ⟨g + 1, 0, none⟩, 1, 1, [1]⟩, ⟨some ⟨g, 0, none⟩, 2, 2, [1, 0]⟩]
theorem JX.lit1 {w W : World} {S : List Sx} {R E : List Rx} (h : JX w W S R E) (x : Int) : JX w (W.alloc (.cells #[.int .u64 x] 54)) S R (⟨some ⟨W.heap.size, 0, none⟩, 1, 1, [x]⟩ :: E) :=
  (h.plus (.cells #[.int .u64 x] 54)).more (zs := [x]) (sees_block (heap_alloc_new _ _) rfl (Nat.le_refl _) (by decide) ⟨[], rfl⟩ : Sees _ 1 _ 1 1 [Value.int .u64 x])
theorem JX.lit2 {w W : World} {S : List Sx} {R E : List Rx} (h : JX w W S R E) (x y : Int) : JX w (W.alloc (.cells #[.int .u64 x, .int .u64 y] 54)) S R (⟨some ⟨W.heap.size, 0, none⟩, 2, 2, [x, y]⟩ :: E) :=
  (h.plus (.cells #[.int .u64 x, .int .u64 y] 54)).more (zs := [x, y]) (sees_block (heap_alloc_new _ _) rfl (Nat.le_refl _) (by decide) ⟨[], rfl⟩ : Sees _ 1 _ 2 2 [Value.int .u64 x, Value.int .u64 y])
theorem nine_is {w W : World} (h : JX w W [] [] []) (W2 : World) (hW2 : ((((W.alloc (.cells #[.int .u64 1, .int .u64 0] 54)).alloc (.cells #[.int .u64 1] 54)).alloc (.cells #[.int .u64 0] 54)).alloc (.cells #[.int .u64 5] 54)).alloc (nineO W.heap.size) = W2) :
    JX w W2 [] [] (nineE W.heap.size) ∧ W2.heap[W.heap.size + 1 + 1 + 1 + 1]? = some (nineO W.heap.size) := by
  subst hW2
  have h1 := (((h.lit2 1 0).lit1 1).lit1 0).lit1 5
  simp only [alloc_sizeP] at h1
  refine ⟨h1.plus _, ?_⟩
  have := heap_alloc_new ((((W.alloc (.cells #[.int .u64 1, .int .u64 0] 54)).alloc (.cells #[.int .u64 1] 54)).alloc (.cells #[.int .u64 0] 54)).alloc (.cells #[.int .u64 5] 54)) (nineO W.heap.size)
  simpa only [alloc_sizeP] using this
theorem at9 {w W : World} {g G j : Nat} (hj : j < 9) (h : JX w W [] [] (nineE G)) (hg : W.heap[g]? = some (nineO G)) :
    ∃ (N : Int) (A : Option Addr) (n c : Nat) (zs : List Int), W.cell? ⟨g, j * 2, none⟩ = some (.int .i64 N) ∧ W.cell? ⟨g, j * 2 + 1, none⟩ = some (.slice A n c) ∧ Sees W 1 A n c (zs.map (Value.int .u64)) ∧ W64 zs := by
  unfold nineO at hg
  rcases (show j = 0 ∨ j = 1 ∨ j = 2 ∨ j = 3 ∨ j = 4 ∨ j = 5 ∨ j = 6 ∨ j = 7 ∨ j = 8 by omega) with rfl | rfl | rfl | rfl | rfl | rfl | rfl | rfl | rfl
  · exact ⟨0, none, 0, 0, [], by simp [World.cell?, hg], by simp [World.cell?, hg], nilS _ _, w64_nil⟩
  · exact ⟨-1, none, 0, 0, [], by simp [World.cell?, hg], by simp [World.cell?, hg], nilS _ _, w64_nil⟩
  · exact ⟨64, some ⟨G, 0, none⟩, 2, 2, [1, 0], by simp [World.cell?, hg], by simp [World.cell?, hg], h.e _ _ _ _ (by simp [nineE]), w64_two (by decide) (by decide)⟩
  · exact ⟨65, some ⟨G + 1, 0, none⟩, 1, 1, [1], by simp [World.cell?, hg], by simp [World.cell?, hg], h.e _ _ _ _ (by simp [nineE]), w64_one (by decide) (by decide)⟩
  · exact ⟨1, none, 0, 0, [], by simp [World.cell?, hg], by simp [World.cell?, hg], nilS _ _, w64_nil⟩
  · exact ⟨65537, none, 0, 0, [], by simp [World.cell?, hg], by simp [World.cell?, hg], nilS _ _, w64_nil⟩
  · exact ⟨4611686018427387904, none, 0, 0, [], by simp [World.cell?, hg], by simp [World.cell?, hg], nilS _ _, w64_nil⟩
  · exact ⟨0, some ⟨G + 1 + 1, 0, none⟩, 1, 1, [0], by simp [World.cell?, hg], by simp [World.cell?, hg], h.e _ _ _ _ (by simp [nineE]), w64_one (by decide) (by decide)⟩
  · exact ⟨-9223372036854775808, some ⟨G + 1 + 1 + 1, 0, none⟩, 1, 1, [5], by simp [World.cell?, hg], by simp [World.cell?, hg], h.e _ _ _ _ (by simp [nineE]), w64_one (by decide) (by decide)⟩
theorem NewFull {Z : List Int} (hZ : List.replicate 1024 0 = Z) (w : World) : Calls Try.prog 37 #[.int .i64 65536] w fun e w' => ∃ A n c, e = .returned (.tuple #[setv 65536 A n c, .int .i64 0]) ∧ Sees w' 1 A n c (Z.map (Value.int .u64)) ∧ Below w.heap.size w w' :=
  (New_ok 65536 w (Nat.le_refl _)).mono fun e w' h => by
    obtain ⟨v, rfl, ⟨A, n, c, rfl, o⟩, k⟩ := h
    rw [show (65536 + 63) / 64 = 1024 from rfl, hZ] at o
    exact ⟨A, n, c, rfl, sees_own o, k⟩
theorem NotFull {Z F : List Int} (hZ : List.replicate 1024 0 = Z) (hF : notW 65536 (List.replicate 1024 0) = F) (A : Option Addr) (n c : Nat) (w : World) (hs : Sees w 1 A n c (Z.map (Value.int .u64))) : Calls Try.prog 28 #[setv 65536 A n c] w fun e w' => ∃ A' n' c', e = .returned (.tuple #[setv 65536 A' n' c', .int .i64 0]) ∧ Sees w' 1 A' n' c' (F.map (Value.int .u64)) ∧ Below w.heap.size w w' :=
  (Not_ok 65536 A n c Z w hs (by rw [← hZ]; exact W64.zeros _) (by rw [← hZ]; exact zeros_right 65536 (Nat.le_refl _))).mono fun e w' h => by
    obtain ⟨v, rfl, ⟨A', n', c', rfl, o⟩, k⟩ := h
    rw [← hZ, hF] at o
    exact ⟨A', n', c', rfl, sees_own o, k⟩
theorem full_w {F : List Int} (hF : notW 65536 (List.replicate 1024 0) = F) : W64 F := by rw [← hF]; exact notW_w _ (W64.zeros _)
theorem full_selv {F : List Int} (hF : notW 65536 (List.replicate 1024 0) = F) : optV (selF F 65536 65535) = .tuple #[.int .i64 65535, .bool true] := by rw [full_sel hF]; rfl
theorem full_rankv {F : List Int} (hF : notW 65536 (List.replicate 1024 0) = F) : ((rankF F 65536 65536 : Nat) : Int) = 65536 := by rw [full_rank hF]; rfl
theorem full_runsv {F : List Int} (hF : notW 65536 (List.replicate 1024 0) = F) : (runsF F 65536).length = 1 := by rw [full_runs hF]; rfl

set_option maxRecDepth 20000 in
set_option maxHeartbeats 8000000 in
theorem BitsSmall_any (w : World) : Calls Try.prog 10 #[] w fun e w' => e = .returned (.bool true) ∧ Below w.heap.size w w' := by
  have J0 := Lib.hid (JX.begin_ w)
  go_enter Try.func10, Try.ntmps10
  go_wp2_with fail
  go_loopw [25] (fun iv wr => ∃ p : Nat, Hid (p ≤ 6) ∧ iv = .int .i64 (p : Int) ∧ Hid (JX w wr [] [] [])) (fun iv _ => 6 - (intOf iv).toNat)
  case atStart => exact ⟨0, Lib.hid (Nat.zero_le _), rfl, J0⟩
  case round =>
    clear J0
    obtain ⟨p, HP, rfl, J0⟩ := hrel
    by_cases hlt : p < 6
    · have HPL := Lib.hid hlt
      have d0 : decide ((p : Int) < 6) = true := by simp; omega
      have d0' : decide (p < 6) = true := by simp; omega
      have hp5 : (p : Int) ≤ 5 := by omega
      clear hlt
      go_wp2_with fail
      clear d0 d0'
      go_loopw [28] (fun iv wr => ∃ q : Nat, Hid (q ≤ 64) ∧ iv = .int .u64 (q : Int) ∧ Hid (JX w wr [] [] [])) (fun iv _ => 64 - (intOf iv).toNat)
      case atStart => exact ⟨0, Lib.hid (Nat.zero_le _), rfl, J0⟩
      case round =>
        clear J0
        obtain ⟨q, HQ, rfl, J0⟩ := hrel
        by_cases hlt : q < 64
        · have HQL := Lib.hid hlt
          have d0 : decide ((q : Int) < 64) = true := by simp; omega
          have d0' : decide (q < 64) = true := by simp; omega
          have hq5 : (q : Int) ≤ 63 := by omega
          have HWq : Hid (W64 [(q : Int)]) := Lib.hid (w64_one (by omega) (by omega))
          clear hlt
          go_upto_region 8 with fail
          clear d0 d0'
          have J1 := Lib.hid (J0.out.litSet (p : Int) (q : Int))
          generalize (wr.alloc (.cells #[.int .u64 (q : Int)] 54)).alloc (.cells #[.int .i64 (p : Int), .slice (some ⟨wr.heap.size, 0, none⟩) 1 1] 24) = W1 at J1 ⊢
          generalize wr.heap.size + 1 = bS at J1 ⊢
          generalize wr.heap.size = gS at J1 ⊢
          clear J0
          go_wp2_with fail
          go_loopw [4] (fun v wq => ∃ k : Int, Hid (-1 ≤ k ∧ k ≤ 7) ∧ v = .int .i64 k ∧ Hid (JX w wq [⟨bS, (p : Int), some ⟨gS, 0, none⟩, 1, 1⟩] [] [⟨some ⟨gS, 0, none⟩, 1, 1, [(q : Int)]⟩])) (fun v _ => (7 - intOf v).toNat)
          case atStart => exact ⟨-1, Lib.hid (by omega), rfl, J1⟩
          case round =>
            clear J1
            obtain ⟨k, HK, rfl, J1⟩ := hrel
            by_cases hlt : k < 7
            · have d1 : decide (k < 7) = true := by simp; omega
              have hk1 : -1 ≤ k := HK.out.1
              have hk2 : k ≤ 6 := by omega
              have HK3 := Lib.hid hlt
              clear hlt
              have x0 := (J1.out.b bS (p : Int) (some ⟨gS, 0, none⟩) 1 1 (by simp)).c0; have x1 := (J1.out.b bS (p : Int) (some ⟨gS, 0, none⟩) 1 1 (by simp)).c1
              go_wp2_with (first
                | (go_at_call 30; have _q := J2; refine (changes_any (p : Int) k (p : Int) (some ⟨gS, 0, none⟩) (some ⟨w2.heap.size, 0, none⟩) 1 1 2 2 [(q : Int)] [k, 0] _ ((J2.out.plus (.cells #[.int .i64 k, .int .i64 0] 3)).e (some ⟨gS, 0, none⟩) 1 1 [(q : Int)] (by simp)) HWq.out (by exact sees_block (heap_alloc_new _ _) rfl (Nat.le_refl _) (by decide) ⟨[], rfl⟩)).mono ?_; rintro e w3 ⟨rfl, k3⟩; have J3 := Lib.hid ((J2.out.plus (.cells #[.int .i64 k, .int .i64 0] 3)).step k3); clear k3)
                | (go_at_call 14; refine (tells_any (p : Int) k (some ⟨gS, 0, none⟩) 1 1 [(q : Int)] _ (J1.out.e (some ⟨gS, 0, none⟩) 1 1 [(q : Int)] (by simp)) HWq.out (by omega)).mono ?_; rintro e w2 ⟨rfl, k2⟩; have J2 := Lib.hid (J1.out.step k2); clear k2 x0 x1; have x0 := (J2.out.b bS (p : Int) (some ⟨gS, 0, none⟩) 1 1 (by simp)).c0; have x1 := (J2.out.b bS (p : Int) (some ⟨gS, 0, none⟩) 1 1 (by simp)).c1))
              go_roundw
              case rel => exact ⟨k + 1, Lib.hid (by have := HK3.out; omega), by go_num, J3⟩
              case measure => have := HK3.out; simp [intOf]; omega
            · have d1 : decide (k < 7) = false := by simp; omega
              clear hlt HK
              by_cases hp3 : p ≤ 3
              · have d2 : decide ((3 : Int) < (p : Int)) = false := by simp; omega
                have d2' : decide (3 < p) = false := by simp; omega
                by_cases hq7 : q ≤ 7
                · have d3 : decide ((7 : Int) < (q : Int)) = false := by simp; omega
                  have d3' : decide (7 < q) = false := by simp; omega
                  clear hp3 hq7
                  go_wp2_with fail
                  clear d1 d2 d2' d3 d3'
                  go_loopw [58] (fun iv wr => ∃ v : Nat, Hid (v ≤ 8) ∧ iv = .int .u64 (v : Int) ∧ Hid (JX w wr [⟨bS, (p : Int), some ⟨gS, 0, none⟩, 1, 1⟩] [] [⟨some ⟨gS, 0, none⟩, 1, 1, [(q : Int)]⟩])) (fun iv _ => 8 - (intOf iv).toNat)
                  case atStart => exact ⟨0, Lib.hid (Nat.zero_le _), rfl, J1⟩
                  case round =>
                    clear J1
                    obtain ⟨v, HV, rfl, J1⟩ := hrel
                    by_cases hlt : v < 8
                    · have HVL := Lib.hid hlt
                      have d0 : decide ((v : Int) < 8) = true := by simp; omega
                      have d0' : decide (v < 8) = true := by simp; omega
                      have hv5 : (v : Int) ≤ 7 := by omega
                      have HWv : Hid (W64 [(v : Int)]) := Lib.hid (w64_one (by omega) (by omega))
                      clear hlt
                      go_wp2_with fail
                      clear d0 d0'
                      go_loopw [61] (fun iv wr => ∃ m : Nat, Hid (m ≤ 4) ∧ iv = .int .i64 (m : Int) ∧ Hid (JX w wr [⟨bS, (p : Int), some ⟨gS, 0, none⟩, 1, 1⟩] [] [⟨some ⟨gS, 0, none⟩, 1, 1, [(q : Int)]⟩])) (fun iv _ => 4 - (intOf iv).toNat)
                      case atStart => exact ⟨0, Lib.hid (Nat.zero_le _), rfl, J1⟩
                      case round =>
                        clear J1
                        obtain ⟨m, HM, rfl, J1⟩ := hrel
                        by_cases hlt : m < 4
                        · have HML := Lib.hid hlt
                          have d0 : decide ((m : Int) < 4) = true := by simp; omega
                          have d0' : decide (m < 4) = true := by simp; omega
                          have hm5 : (m : Int) ≤ 3 := by omega
                          clear hlt
                          have x0 := (J1.out.b bS (p : Int) (some ⟨gS, 0, none⟩) 1 1 (by simp)).c0; have x1 := (J1.out.b bS (p : Int) (some ⟨gS, 0, none⟩) 1 1 (by simp)).c1
                          go_wp2_with (go_at_call 12; refine (joins_any (p : Int) (m : Int) (some ⟨gS, 0, none⟩) (some ⟨wr.heap.size, 0, none⟩) 1 1 1 1 [(q : Int)] [(v : Int)] _ ((J1.out.plus (.cells #[.int .u64 (v : Int)] 54)).e (some ⟨gS, 0, none⟩) 1 1 [(q : Int)] (by simp)) HWq.out (by exact (sees_block (heap_alloc_new _ _) rfl (Nat.le_refl _) (by decide) ⟨[], rfl⟩ : Sees _ 1 _ 1 1 [Value.int .u64 (v : Int)])) HWv.out).mono ?_; rintro e w3 ⟨rfl, k3⟩; have J3 := Lib.hid ((J1.out.plus (.cells #[.int .u64 (v : Int)] 54)).step k3); clear k3)
                          go_roundw
                          case rel => exact ⟨m + 1, Lib.hid HML.out, by go_num, J3⟩
                          case measure => have := HML.out; simp [intOf]; omega
                        · obtain rfl : m = 4 := by have := HM.out; omega
                          clear hlt
                          go_wp2_with fail
                          go_roundw
                          case rel => exact ⟨v + 1, Lib.hid HVL.out, by go_num, J1⟩
                          case measure => have := HVL.out; simp [intOf]; omega
                    · obtain rfl : v = 8 := by have := HV.out; omega
                      clear hlt
                      go_wp2_with fail
                      go_roundw
                      case rel => exact ⟨q + 1, Lib.hid HQL.out, by go_num, Lib.hid J1.out.less⟩
                      case measure => have := HQL.out; simp [intOf]; omega
                · have d3 : decide ((7 : Int) < (q : Int)) = true := by simp; omega
                  have d3' : decide (7 < q) = true := by simp; omega
                  clear hp3 hq7
                  go_wp2_with fail
                  go_roundw
                  case rel => exact ⟨q + 1, Lib.hid HQL.out, by go_num, Lib.hid J1.out.less⟩
                  case measure => have := HQL.out; simp [intOf]; omega
              · have d2 : decide ((3 : Int) < (p : Int)) = true := by simp; omega
                have d2' : decide (3 < p) = true := by simp; omega
                clear hp3
                go_wp2_with fail
                go_roundw
                case rel => exact ⟨q + 1, Lib.hid HQL.out, by go_num, Lib.hid J1.out.less⟩
                case measure => have := HQL.out; simp [intOf]; omega
        · obtain rfl : q = 64 := by have := HQ.out; omega
          clear hlt
          go_wp2_with fail
          go_roundw
          case rel => exact ⟨p + 1, Lib.hid HPL.out, by go_num, J0⟩
          case measure => have := HPL.out; simp [intOf]; omega
    · obtain rfl : p = 6 := by have := HP.out; omega
      clear hlt
      go_upto_region 27 with fail
      have J6 := Lib.hid (J0.out.plus (.cells #[.int .i64 63, .int .i64 64, .int .i64 65, .int .i64 127, .int .i64 128, .int .i64 129] 3))
      have G6 : Hid ((wr.alloc (.cells #[.int .i64 63, .int .i64 64, .int .i64 65, .int .i64 127, .int .i64 128, .int .i64 129] 3)).heap[wr.heap.size]? = some (.cells #[.int .i64 63, .int .i64 64, .int .i64 65, .int .i64 127, .int .i64 128, .int .i64 129] 3 (0, 0))) := Lib.hid (heap_alloc_new _ _)
      generalize wr.alloc (.cells #[.int .i64 63, .int .i64 64, .int .i64 65, .int .i64 127, .int .i64 128, .int .i64 129] 3) = W6 at J6 G6  ⊢
      generalize wr.heap.size = g6 at G6 ⊢
      clear J0
      go_wp2_with fail
      go_loopw [77] (fun iv wr => ∃ j : Nat, Hid (j ≤ 6) ∧ iv = .int .i64 (j : Int) ∧ Hid (JX w wr [] [] []) ∧ Hid (wr.heap[g6]? = some (.cells #[.int .i64 63, .int .i64 64, .int .i64 65, .int .i64 127, .int .i64 128, .int .i64 129] 3 (0, 0)))) (fun iv _ => 6 - (intOf iv).toNat)
      case atStart => exact ⟨0, Lib.hid (Nat.zero_le _), rfl, J6, G6⟩
      case round =>
        clear J6 G6
        obtain ⟨j6, HJ6, rfl, J6, G6⟩ := hrel
        by_cases hlt : j6 < 6
        · have HL6 := Lib.hid hlt
          have d0 : decide ((j6 : Int) < 6) = true := by simp; omega
          have d0' : decide (j6 < 6) = true := by simp; omega
          have hj6 : (j6 : Int) ≤ 5 := by omega
          obtain ⟨nn, e6, hn0, hn1⟩ := at6 G6.out hlt
          have hn2 : (nn : Int) ≤ 129 := by omega
          have hn3 : 63 ≤ (nn : Int) := by omega
          have HNN := Lib.hid (And.intro hn0 hn1)
          clear hlt hn0 hn1
          go_upto_region 30 with fail
          have J10 := Lib.hid (J6.out.plus (.cells #[.int .i64 0, .int .i64 1, .int .i64 62, .int .i64 63, .int .i64 64, .int .i64 65, .int .i64 126, .int .i64 127, .int .i64 128, .int .i64 (-1)] 3))
          have G10 : Hid ((wr.alloc (.cells #[.int .i64 0, .int .i64 1, .int .i64 62, .int .i64 63, .int .i64 64, .int .i64 65, .int .i64 126, .int .i64 127, .int .i64 128, .int .i64 (-1)] 3)).heap[wr.heap.size]? = some (.cells #[.int .i64 0, .int .i64 1, .int .i64 62, .int .i64 63, .int .i64 64, .int .i64 65, .int .i64 126, .int .i64 127, .int .i64 128, .int .i64 (-1)] 3 (0, 0))) := Lib.hid (heap_alloc_new _ _)
          have G6b := Lib.hid (plusL (o' := (.cells #[.int .i64 0, .int .i64 1, .int .i64 62, .int .i64 63, .int .i64 64, .int .i64 65, .int .i64 126, .int .i64 127, .int .i64 128, .int .i64 (-1)] 3)) G6.out)
          generalize wr.alloc (.cells #[.int .i64 0, .int .i64 1, .int .i64 62, .int .i64 63, .int .i64 64, .int .i64 65, .int .i64 126, .int .i64 127, .int .i64 128, .int .i64 (-1)] 3) = W10 at J10 G10 G6b ⊢
          generalize wr.heap.size = g10 at G10 ⊢
          clear J6 G6 e6 d0 d0'
          go_wp2_with fail
          go_loopw [83] (fun iv wr => ∃ j : Nat, Hid (j ≤ 10) ∧ iv = .int .i64 (j : Int) ∧ Hid (JX w wr [] [] []) ∧ Hid (wr.heap[g6]? = some (.cells #[.int .i64 63, .int .i64 64, .int .i64 65, .int .i64 127, .int .i64 128, .int .i64 129] 3 (0, 0))) ∧ Hid (wr.heap[g10]? = some (.cells #[.int .i64 0, .int .i64 1, .int .i64 62, .int .i64 63, .int .i64 64, .int .i64 65, .int .i64 126, .int .i64 127, .int .i64 128, .int .i64 (-1)] 3 (0, 0)))) (fun iv _ => 10 - (intOf iv).toNat)
          case atStart => exact ⟨0, Lib.hid (Nat.zero_le _), rfl, J10, G6b, G10⟩
          case round =>
            clear J10 G6b G10
            obtain ⟨j7, HJ7, rfl, J10, G6, G10⟩ := hrel
            by_cases hlt : j7 < 10
            · have HL7 := Lib.hid hlt
              have d0 : decide ((j7 : Int) < 10) = true := by simp; omega
              have d0' : decide (j7 < 10) = true := by simp; omega
              have hj7 : (j7 : Int) ≤ 9 := by omega
              obtain ⟨k, e10, hk0, hk1⟩ := at10 G10.out hlt
              clear hlt
              by_cases hnk : (nn : Int) ≤ k
              · have d2 : decide ((nn : Int) ≤ k) = true := by simp; omega
                clear hnk
                go_wp2_with fail
                go_roundw
                case rel => exact ⟨j7 + 1, Lib.hid HL7.out, by go_num, J10, G6, G10⟩
                case measure => have := HL7.out; simp [intOf]; omega
              · have d2 : decide ((nn : Int) ≤ k) = false := by simp; omega
                obtain ⟨km, hkm⟩ : ∃ x, k - 1 = x := ⟨_, rfl⟩
                obtain ⟨kp, hkp⟩ : ∃ x, k + 1 = x := ⟨_, rfl⟩
                obtain ⟨nm, hnm⟩ : ∃ x, (nn : Int) - 1 = x := ⟨_, rfl⟩
                obtain ⟨np, hnp⟩ : ∃ x, (nn : Int) + 1 = x := ⟨_, rfl⟩
                have hwkm : IntKind.i64.wrap km = km := IntWalk.i64_in _ (by omega)
                have hwkp : IntKind.i64.wrap kp = kp := IntWalk.i64_in _ (by omega)
                have hwnm : IntKind.i64.wrap nm = nm := IntWalk.i64_in _ (by omega)
                have hwnp : IntKind.i64.wrap np = np := IntWalk.i64_in _ (by omega)
                have HV := Lib.hid (show (-2 ≤ km ∧ km ≤ 200) ∧ (-2 ≤ k ∧ k ≤ 200) ∧ (-2 ≤ kp ∧ kp ≤ 200) ∧ (-2 ≤ nm ∧ nm ≤ 200) ∧ (-2 ≤ (nn : Int) ∧ (nn : Int) ≤ 200) by omega)
                have hfd : ∀ (w : World) (A : Option Addr) (n c : Nat), (Instr.field 55 (.agg #[.int .i64 (nn : Int), .slice A n c]) 1).run Try.prog w = .ok (.slice A n c) w := fun _ _ _ _ => by kernel_rfl
                have HK0 := Lib.hid hk0
                by_cases hk2 : 0 ≤ k
                · have d3 : decide (0 ≤ k) = true := by simp; omega
                  have HOK : Hid (okAll nn [k]) := Lib.hid (fun y hy => by rw [List.mem_singleton] at hy; subst hy; omega)
                  clear hk2 hnk
                  go_upto_region 36 with fail
                  have JA := Lib.hid (J10.out.plus (.cells #[.int .i64 k] 3))
                  have G6a := Lib.hid (plusL (o' := (.cells #[.int .i64 k] 3)) G6.out)
                  have G10a := Lib.hid (plusL (o' := (.cells #[.int .i64 k] 3)) G10.out)
                  have SL : Hid (Sees (wr.alloc (.cells #[.int .i64 k] 3)) 1 (some ⟨wr.heap.size, 0, none⟩) 1 1 (([k] : List Int).map (Value.int .i64))) := Lib.hid (sees_block (heap_alloc_new _ _) rfl (Nat.le_refl _) (by decide) ⟨[], rfl⟩ : Sees _ 1 _ 1 1 [Value.int .i64 k])
                  generalize wr.alloc (.cells #[.int .i64 k] 3) = W2 at JA G6a G10a SL ⊢
                  generalize wr.heap.size = gk at SL ⊢
                  clear d0 d0' d2 d3 J10 G6 G10 e10
                  go_upto_region 39 with (first
                    | (go_at_call 36; have _q := J4; refine (refJoin_any nn A3 none n3 c3 0 0 (ofW nn [k]) [] true false false false _ (by have := HNN.out; omega) (J4.out.e A3 n3 c3 (ofW nn [k]) (by simp)) (nilS _ _) (ofW_w _ _) w64_nil).mono ?_; rintro e w4 ⟨v, rfl, ⟨A4, n4, c4, rfl, o4⟩, k4⟩; have J5 := Lib.hid (((J4.out.step k4).more (sees_own o4)).newBox (nn : Int) A4 n4 c4); have G6d := Lib.hid (plusL (o' := (.cells #[.int .i64 (nn : Int), .slice A4 n4 c4] 24)) (keptL G6c.out k4)); have G10d := Lib.hid (plusL (o' := (.cells #[.int .i64 (nn : Int), .slice A4 n4 c4] 24)) (keptL G10c.out k4)); clear k4 o4)
                    | (go_at_call 35; refine (refOf_in nn (some ⟨gk, 0, none⟩) 1 1 [k] _ (by have := HNN.out; omega) SL.out HOK.out).mono ?_; rintro e w3 ⟨v, rfl, ⟨A3, n3, c3, rfl, o3⟩, k3⟩; have J4 : Hid (JX w ((w3.alloc (.cells #[.int .i64 (nn : Int), .slice A3 n3 c3] 55)).alloc (.cells #[.int .i64 (nn : Int), .slice A3 n3 c3] 24)) [⟨w3.heap.size + 1, (nn : Int), A3, n3, c3⟩] [] [⟨A3, n3, c3, (ofW nn [k])⟩]) := Lib.hid (by have h := (((JA.out.step k3).more (sees_own o3)).plus (.cells #[.int .i64 (nn : Int), .slice A3 n3 c3] 55)).newBox (nn : Int) A3 n3 c3; rw [alloc_sizeP] at h; exact h); have G6c := Lib.hid (plusL (o' := (.cells #[.int .i64 (nn : Int), .slice A3 n3 c3] 24)) (plusL (o' := (.cells #[.int .i64 (nn : Int), .slice A3 n3 c3] 55)) (keptL G6a.out k3))); have G10c := Lib.hid (plusL (o' := (.cells #[.int .i64 (nn : Int), .slice A3 n3 c3] 24)) (plusL (o' := (.cells #[.int .i64 (nn : Int), .slice A3 n3 c3] 55)) (keptL G10a.out k3))); have f1 : (w3.alloc (.cells #[.int .i64 (nn : Int), .slice A3 n3 c3] 55)).cell? ⟨w3.heap.size, 1, none⟩ = some (.slice A3 n3 c3) := cellL (heap_alloc_new w3 (.cells #[.int .i64 (nn : Int), .slice A3 n3 c3] 55)) 1; have f2 : ((w3.alloc (.cells #[.int .i64 (nn : Int), .slice A3 n3 c3] 55)).alloc (.cells #[.int .i64 (nn : Int), .slice A3 n3 c3] 24)).cell? ⟨w3.heap.size, 1, none⟩ = some (.slice A3 n3 c3) := cellL (plusL (o' := (.cells #[.int .i64 (nn : Int), .slice A3 n3 c3] 24)) (heap_alloc_new w3 (.cells #[.int .i64 (nn : Int), .slice A3 n3 c3] 55))) 1; clear k3 o3))
                  generalize w4.alloc (.cells #[.int .i64 (nn : Int), .slice A4 n4 c4] 24) = W5 at J5 G6d G10d ⊢
                  generalize w4.heap.size = b14 at J5 ⊢
                  generalize w3.heap.size + 1 = b13 at J4 J5 ⊢
                  clear J4 G6c G10c f1 f2 JA G6a G10a SL HOK hfd
                  go_upto_region 40 with fail
                  have J8 := Lib.hid (J5.out.plus (.cells #[.int .i64 (-9223372036854775808), .int .i64 (-1), .int .i64 0, .int .i64 km, .int .i64 k, .int .i64 kp, .int .i64 63, .int .i64 64, .int .i64 nm, .int .i64 (nn : Int), .int .i64 9223372036854775807] 3))
                  have G11 : Hid ((W5.alloc (.cells #[.int .i64 (-9223372036854775808), .int .i64 (-1), .int .i64 0, .int .i64 km, .int .i64 k, .int .i64 kp, .int .i64 63, .int .i64 64, .int .i64 nm, .int .i64 (nn : Int), .int .i64 9223372036854775807] 3)).heap[W5.heap.size]? = some (.cells #[.int .i64 (-9223372036854775808), .int .i64 (-1), .int .i64 0, .int .i64 km, .int .i64 k, .int .i64 kp, .int .i64 63, .int .i64 64, .int .i64 nm, .int .i64 (nn : Int), .int .i64 9223372036854775807] 3 (0, 0))) := Lib.hid (heap_alloc_new _ _)
                  have G6e := Lib.hid (plusL (o' := (.cells #[.int .i64 (-9223372036854775808), .int .i64 (-1), .int .i64 0, .int .i64 km, .int .i64 k, .int .i64 kp, .int .i64 63, .int .i64 64, .int .i64 nm, .int .i64 (nn : Int), .int .i64 9223372036854775807] 3)) G6d.out)
                  have G10e := Lib.hid (plusL (o' := (.cells #[.int .i64 (-9223372036854775808), .int .i64 (-1), .int .i64 0, .int .i64 km, .int .i64 k, .int .i64 kp, .int .i64 63, .int .i64 64, .int .i64 nm, .int .i64 (nn : Int), .int .i64 9223372036854775807] 3)) G10d.out)
                  generalize W5.alloc (.cells #[.int .i64 (-9223372036854775808), .int .i64 (-1), .int .i64 0, .int .i64 km, .int .i64 k, .int .i64 kp, .int .i64 63, .int .i64 64, .int .i64 nm, .int .i64 (nn : Int), .int .i64 9223372036854775807] 3) = W8 at J8 G11 G6e G10e ⊢
                  generalize W5.heap.size = g11 at G11 ⊢
                  clear J5 G6d G10d
                  go_wp2_with fail
                  go_loopw [118] (fun iv wr => ∃ j : Nat, Hid (j ≤ 11) ∧ iv = .int .i64 (j : Int) ∧ Hid (JX w wr [⟨b14, (nn : Int), A4, n4, c4⟩, ⟨b13, (nn : Int), A3, n3, c3⟩] [] [⟨A4, n4, c4, (joinW true false false false (ofW nn [k]) [] nn)⟩, ⟨A3, n3, c3, (ofW nn [k])⟩]) ∧ Hid (wr.heap[g6]? = some (.cells #[.int .i64 63, .int .i64 64, .int .i64 65, .int .i64 127, .int .i64 128, .int .i64 129] 3 (0, 0))) ∧ Hid (wr.heap[g10]? = some (.cells #[.int .i64 0, .int .i64 1, .int .i64 62, .int .i64 63, .int .i64 64, .int .i64 65, .int .i64 126, .int .i64 127, .int .i64 128, .int .i64 (-1)] 3 (0, 0))) ∧ Hid (wr.heap[g11]? = some (.cells #[.int .i64 (-9223372036854775808), .int .i64 (-1), .int .i64 0, .int .i64 km, .int .i64 k, .int .i64 kp, .int .i64 63, .int .i64 64, .int .i64 nm, .int .i64 (nn : Int), .int .i64 9223372036854775807] 3 (0, 0)))) (fun iv _ => 11 - (intOf iv).toNat)
                  case atStart => exact ⟨0, Lib.hid (Nat.zero_le _), rfl, J8, G6e, G10e, G11⟩
                  case round =>
                    clear J8 G6e G10e G11
                    obtain ⟨j8, HJ8, rfl, J8, G6e, G10e, G11⟩ := hrel
                    by_cases hlt : j8 < 11
                    · have HL8 := Lib.hid hlt
                      have d0 : decide ((j8 : Int) < 11) = true := by simp; omega
                      have d0' : decide (j8 < 11) = true := by simp; omega
                      have hj8 : (j8 : Int) ≤ 10 := by omega
                      obtain ⟨x, e11, hx⟩ := at11 G11.out hlt HV.out.1 HV.out.2.1 HV.out.2.2.1 HV.out.2.2.2.1 HV.out.2.2.2.2
                      have HX := Lib.hid hx
                      clear hlt hx
                      have r0 := (J8.out.b b13 (nn : Int) A3 n3 c3 (by simp)).c0; have r1 := (J8.out.b b13 (nn : Int) A3 n3 c3 (by simp)).c1
                      go_wp2_with (first
                        | (go_at_call 30; have _q := Jc; refine (changes_any (nn : Int) x x A4 none n4 c4 0 0 (joinW true false false false (ofW nn [k]) [] nn) [] _ (Jc.out.e A4 n4 c4 (joinW true false false false (ofW nn [k]) [] nn) (by simp)) (joinW_w _ _ _ _ _ _ _) (nilS _ _)).mono ?_; rintro e wd ⟨rfl, kd⟩; have Jd := Lib.hid (Jc.out.step kd); have G6x := Lib.hid (keptL (keptL (plusL (o' := (.cells #[.int .i64 k] 3)) (keptL (keptL G6e.out Ka.out) Kb.out)) Kc.out) kd); have G10x := Lib.hid (keptL (keptL (plusL (o' := (.cells #[.int .i64 k] 3)) (keptL (keptL G10e.out Ka.out) Kb.out)) Kc.out) kd); have G11x := Lib.hid (keptL (keptL (plusL (o' := (.cells #[.int .i64 k] 3)) (keptL (keptL G11.out Ka.out) Kb.out)) Kc.out) kd); clear kd)
                        | (go_at_call 30; have _q := Jb; refine (changes_any (nn : Int) x (nn : Int) A3 (some ⟨wb.heap.size, 0, none⟩) n3 c3 1 1 (ofW nn [k]) [k] _ ((Jb.out.plus (.cells #[.int .i64 k] 3)).e A3 n3 c3 (ofW nn [k]) (by simp)) (ofW_w _ _) (by exact (sees_block (heap_alloc_new _ _) rfl (Nat.le_refl _) (by decide) ⟨[], rfl⟩ : Sees _ 1 _ 1 1 [Value.int .i64 k]))).mono ?_; rintro e wc ⟨rfl, kc⟩; have Jc := Lib.hid ((Jb.out.plus (.cells #[.int .i64 k] 3)).step kc); have Kc := Lib.hid kc; clear kc s0 s1 r0 r1; have s0 := (Jc.out.b b14 (nn : Int) A4 n4 c4 (by simp)).c0; have s1 := (Jc.out.b b14 (nn : Int) A4 n4 c4 (by simp)).c1)
                        | (go_at_call 14; have _q := Ja; refine (tells_any (nn : Int) x A4 n4 c4 (joinW true false false false (ofW nn [k]) [] nn) _ (Ja.out.e A4 n4 c4 (joinW true false false false (ofW nn [k]) [] nn) (by simp)) (joinW_w _ _ _ _ _ _ _) HX.out).mono ?_; rintro e wb ⟨rfl, kb⟩; have Jb := Lib.hid (Ja.out.step kb); have Kb := Lib.hid kb; clear kb s0 s1; have r0 := (Jb.out.b b13 (nn : Int) A3 n3 c3 (by simp)).c0; have r1 := (Jb.out.b b13 (nn : Int) A3 n3 c3 (by simp)).c1; have s0 := (Jb.out.b b14 (nn : Int) A4 n4 c4 (by simp)).c0; have s1 := (Jb.out.b b14 (nn : Int) A4 n4 c4 (by simp)).c1)
                        | (go_at_call 14; refine (tells_any (nn : Int) x A3 n3 c3 (ofW nn [k]) _ (J8.out.e A3 n3 c3 (ofW nn [k]) (by simp)) (ofW_w _ _) HX.out).mono ?_; rintro e wa ⟨rfl, ka⟩; have Ja := Lib.hid (J8.out.step ka); have Ka := Lib.hid ka; clear ka r0 r1; have s0 := (Ja.out.b b14 (nn : Int) A4 n4 c4 (by simp)).c0; have s1 := (Ja.out.b b14 (nn : Int) A4 n4 c4 (by simp)).c1))
                      go_roundw
                      case rel => exact ⟨j8 + 1, Lib.hid HL8.out, by go_num, Jd, G6x, G10x, G11x⟩
                      case measure => have := HL8.out; simp [intOf]; omega
                    · obtain rfl : j8 = 11 := by have := HJ8.out; omega
                      clear hlt
                      have r0 := (J8.out.b b13 (nn : Int) A3 n3 c3 (by simp)).c0; have r1 := (J8.out.b b13 (nn : Int) A3 n3 c3 (by simp)).c1
                      have s0 := (J8.out.b b14 (nn : Int) A4 n4 c4 (by simp)).c0; have s1 := (J8.out.b b14 (nn : Int) A4 n4 c4 (by simp)).c1
                      go_wp2_with (first
                        | (go_at_call 12; have _q := Jb; refine (joins_any (nn : Int) np A3 A4 n3 c3 n4 c4 (ofW nn [k]) (joinW true false false false (ofW nn [k]) [] nn) _ (Jb.out.e A3 n3 c3 (ofW nn [k]) (by simp)) (ofW_w _ _) (Jb.out.e A4 n4 c4 (joinW true false false false (ofW nn [k]) [] nn) (by simp)) (joinW_w _ _ _ _ _ _ _)).mono ?_; rintro e wc ⟨rfl, kc⟩; have Jc := Lib.hid (Jb.out.step kc); have G6x := Lib.hid (keptL (keptL (keptL G6e.out Ka.out) Kb.out) kc); have G10x := Lib.hid (keptL (keptL (keptL G10e.out Ka.out) Kb.out) kc); clear kc)
                        | (go_at_call 12; have _q := Ja; refine (joins_any (nn : Int) (nn : Int) A4 A4 n4 c4 n4 c4 (joinW true false false false (ofW nn [k]) [] nn) (joinW true false false false (ofW nn [k]) [] nn) _ (Ja.out.e A4 n4 c4 (joinW true false false false (ofW nn [k]) [] nn) (by simp)) (joinW_w _ _ _ _ _ _ _) (Ja.out.e A4 n4 c4 (joinW true false false false (ofW nn [k]) [] nn) (by simp)) (joinW_w _ _ _ _ _ _ _)).mono ?_; rintro e wb ⟨rfl, kb⟩; have Jb := Lib.hid (Ja.out.step kb); have Kb := Lib.hid kb; clear kb s0 s1; have r0 := (Jb.out.b b13 (nn : Int) A3 n3 c3 (by simp)).c0; have r1 := (Jb.out.b b13 (nn : Int) A3 n3 c3 (by simp)).c1; have s0 := (Jb.out.b b14 (nn : Int) A4 n4 c4 (by simp)).c0; have s1 := (Jb.out.b b14 (nn : Int) A4 n4 c4 (by simp)).c1)
                        | (go_at_call 12; refine (joins_any (nn : Int) (nn : Int) A3 A4 n3 c3 n4 c4 (ofW nn [k]) (joinW true false false false (ofW nn [k]) [] nn) _ (J8.out.e A3 n3 c3 (ofW nn [k]) (by simp)) (ofW_w _ _) (J8.out.e A4 n4 c4 (joinW true false false false (ofW nn [k]) [] nn) (by simp)) (joinW_w _ _ _ _ _ _ _)).mono ?_; rintro e wa ⟨rfl, ka⟩; have Ja := Lib.hid (J8.out.step ka); have Ka := Lib.hid ka; clear ka r0 r1 s0 s1; have s0 := (Ja.out.b b14 (nn : Int) A4 n4 c4 (by simp)).c0; have s1 := (Ja.out.b b14 (nn : Int) A4 n4 c4 (by simp)).c1))
                      go_roundw
                      case rel =>
                        (repeat apply Exists.intro)
                        exact ⟨⟨j7 + 1, Lib.hid HL7.out, by go_num, Lib.hid Jc.out.less, G6x, G10x⟩, rfl⟩
                      case measure => have := HL7.out; simp [intOf]; omega
                · have d3 : decide (0 ≤ k) = false := by simp; omega
                  have HOK : Hid (okAll nn []) := Lib.hid (fun y hy => by cases hy)
                  clear hk2 hnk
                  go_upto_region 36 with fail
                  have JA := J10
                  have G6a := G6
                  have G10a := G10
                  have SL := Lib.hid (nilS wr .i64)
                  clear d0 d0' d2 d3 J10 G6 G10 e10
                  go_upto_region 39 with (first
                    | (go_at_call 36; have _q := J4; refine (refJoin_any nn A3 none n3 c3 0 0 (ofW nn []) [] true false false false _ (by have := HNN.out; omega) (J4.out.e A3 n3 c3 (ofW nn []) (by simp)) (nilS _ _) (ofW_w _ _) w64_nil).mono ?_; rintro e w4 ⟨v, rfl, ⟨A4, n4, c4, rfl, o4⟩, k4⟩; have J5 := Lib.hid (((J4.out.step k4).more (sees_own o4)).newBox (nn : Int) A4 n4 c4); have G6d := Lib.hid (plusL (o' := (.cells #[.int .i64 (nn : Int), .slice A4 n4 c4] 24)) (keptL G6c.out k4)); have G10d := Lib.hid (plusL (o' := (.cells #[.int .i64 (nn : Int), .slice A4 n4 c4] 24)) (keptL G10c.out k4)); clear k4 o4)
                    | (go_at_call 35; refine (refOf_in nn none 0 0 [] _ (by have := HNN.out; omega) SL.out HOK.out).mono ?_; rintro e w3 ⟨v, rfl, ⟨A3, n3, c3, rfl, o3⟩, k3⟩; have J4 : Hid (JX w ((w3.alloc (.cells #[.int .i64 (nn : Int), .slice A3 n3 c3] 55)).alloc (.cells #[.int .i64 (nn : Int), .slice A3 n3 c3] 24)) [⟨w3.heap.size + 1, (nn : Int), A3, n3, c3⟩] [] [⟨A3, n3, c3, (ofW nn [])⟩]) := Lib.hid (by have h := (((JA.out.step k3).more (sees_own o3)).plus (.cells #[.int .i64 (nn : Int), .slice A3 n3 c3] 55)).newBox (nn : Int) A3 n3 c3; rw [alloc_sizeP] at h; exact h); have G6c := Lib.hid (plusL (o' := (.cells #[.int .i64 (nn : Int), .slice A3 n3 c3] 24)) (plusL (o' := (.cells #[.int .i64 (nn : Int), .slice A3 n3 c3] 55)) (keptL G6a.out k3))); have G10c := Lib.hid (plusL (o' := (.cells #[.int .i64 (nn : Int), .slice A3 n3 c3] 24)) (plusL (o' := (.cells #[.int .i64 (nn : Int), .slice A3 n3 c3] 55)) (keptL G10a.out k3))); have f1 : (w3.alloc (.cells #[.int .i64 (nn : Int), .slice A3 n3 c3] 55)).cell? ⟨w3.heap.size, 1, none⟩ = some (.slice A3 n3 c3) := cellL (heap_alloc_new w3 (.cells #[.int .i64 (nn : Int), .slice A3 n3 c3] 55)) 1; have f2 : ((w3.alloc (.cells #[.int .i64 (nn : Int), .slice A3 n3 c3] 55)).alloc (.cells #[.int .i64 (nn : Int), .slice A3 n3 c3] 24)).cell? ⟨w3.heap.size, 1, none⟩ = some (.slice A3 n3 c3) := cellL (plusL (o' := (.cells #[.int .i64 (nn : Int), .slice A3 n3 c3] 24)) (heap_alloc_new w3 (.cells #[.int .i64 (nn : Int), .slice A3 n3 c3] 55))) 1; clear k3 o3))
                  generalize w4.alloc (.cells #[.int .i64 (nn : Int), .slice A4 n4 c4] 24) = W5 at J5 G6d G10d ⊢
                  generalize w4.heap.size = b14 at J5 ⊢
                  generalize w3.heap.size + 1 = b13 at J4 J5 ⊢
                  clear J4 G6c G10c f1 f2 JA G6a G10a SL HOK hfd
                  go_upto_region 40 with fail
                  have J8 := Lib.hid (J5.out.plus (.cells #[.int .i64 (-9223372036854775808), .int .i64 (-1), .int .i64 0, .int .i64 km, .int .i64 k, .int .i64 kp, .int .i64 63, .int .i64 64, .int .i64 nm, .int .i64 (nn : Int), .int .i64 9223372036854775807] 3))
                  have G11 : Hid ((W5.alloc (.cells #[.int .i64 (-9223372036854775808), .int .i64 (-1), .int .i64 0, .int .i64 km, .int .i64 k, .int .i64 kp, .int .i64 63, .int .i64 64, .int .i64 nm, .int .i64 (nn : Int), .int .i64 9223372036854775807] 3)).heap[W5.heap.size]? = some (.cells #[.int .i64 (-9223372036854775808), .int .i64 (-1), .int .i64 0, .int .i64 km, .int .i64 k, .int .i64 kp, .int .i64 63, .int .i64 64, .int .i64 nm, .int .i64 (nn : Int), .int .i64 9223372036854775807] 3 (0, 0))) := Lib.hid (heap_alloc_new _ _)
                  have G6e := Lib.hid (plusL (o' := (.cells #[.int .i64 (-9223372036854775808), .int .i64 (-1), .int .i64 0, .int .i64 km, .int .i64 k, .int .i64 kp, .int .i64 63, .int .i64 64, .int .i64 nm, .int .i64 (nn : Int), .int .i64 9223372036854775807] 3)) G6d.out)
                  have G10e := Lib.hid (plusL (o' := (.cells #[.int .i64 (-9223372036854775808), .int .i64 (-1), .int .i64 0, .int .i64 km, .int .i64 k, .int .i64 kp, .int .i64 63, .int .i64 64, .int .i64 nm, .int .i64 (nn : Int), .int .i64 9223372036854775807] 3)) G10d.out)
                  generalize W5.alloc (.cells #[.int .i64 (-9223372036854775808), .int .i64 (-1), .int .i64 0, .int .i64 km, .int .i64 k, .int .i64 kp, .int .i64 63, .int .i64 64, .int .i64 nm, .int .i64 (nn : Int), .int .i64 9223372036854775807] 3) = W8 at J8 G11 G6e G10e ⊢
                  generalize W5.heap.size = g11 at G11 ⊢
                  clear J5 G6d G10d
                  go_wp2_with fail
                  go_loopw [118] (fun iv wr => ∃ j : Nat, Hid (j ≤ 11) ∧ iv = .int .i64 (j : Int) ∧ Hid (JX w wr [⟨b14, (nn : Int), A4, n4, c4⟩, ⟨b13, (nn : Int), A3, n3, c3⟩] [] [⟨A4, n4, c4, (joinW true false false false (ofW nn []) [] nn)⟩, ⟨A3, n3, c3, (ofW nn [])⟩]) ∧ Hid (wr.heap[g6]? = some (.cells #[.int .i64 63, .int .i64 64, .int .i64 65, .int .i64 127, .int .i64 128, .int .i64 129] 3 (0, 0))) ∧ Hid (wr.heap[g10]? = some (.cells #[.int .i64 0, .int .i64 1, .int .i64 62, .int .i64 63, .int .i64 64, .int .i64 65, .int .i64 126, .int .i64 127, .int .i64 128, .int .i64 (-1)] 3 (0, 0))) ∧ Hid (wr.heap[g11]? = some (.cells #[.int .i64 (-9223372036854775808), .int .i64 (-1), .int .i64 0, .int .i64 km, .int .i64 k, .int .i64 kp, .int .i64 63, .int .i64 64, .int .i64 nm, .int .i64 (nn : Int), .int .i64 9223372036854775807] 3 (0, 0)))) (fun iv _ => 11 - (intOf iv).toNat)
                  case atStart => exact ⟨0, Lib.hid (Nat.zero_le _), rfl, J8, G6e, G10e, G11⟩
                  case round =>
                    clear J8 G6e G10e G11
                    obtain ⟨j8, HJ8, rfl, J8, G6e, G10e, G11⟩ := hrel
                    by_cases hlt : j8 < 11
                    · have HL8 := Lib.hid hlt
                      have d0 : decide ((j8 : Int) < 11) = true := by simp; omega
                      have d0' : decide (j8 < 11) = true := by simp; omega
                      have hj8 : (j8 : Int) ≤ 10 := by omega
                      obtain ⟨x, e11, hx⟩ := at11 G11.out hlt HV.out.1 HV.out.2.1 HV.out.2.2.1 HV.out.2.2.2.1 HV.out.2.2.2.2
                      have HX := Lib.hid hx
                      clear hlt hx
                      have r0 := (J8.out.b b13 (nn : Int) A3 n3 c3 (by simp)).c0; have r1 := (J8.out.b b13 (nn : Int) A3 n3 c3 (by simp)).c1
                      go_wp2_with (first
                        | (go_at_call 30; have _q := Jc; refine (changes_any (nn : Int) x x A4 none n4 c4 0 0 (joinW true false false false (ofW nn []) [] nn) [] _ (Jc.out.e A4 n4 c4 (joinW true false false false (ofW nn []) [] nn) (by simp)) (joinW_w _ _ _ _ _ _ _) (nilS _ _)).mono ?_; rintro e wd ⟨rfl, kd⟩; have Jd := Lib.hid (Jc.out.step kd); have G6x := Lib.hid (keptL (keptL (plusL (o' := (.cells #[.int .i64 k] 3)) (keptL (keptL G6e.out Ka.out) Kb.out)) Kc.out) kd); have G10x := Lib.hid (keptL (keptL (plusL (o' := (.cells #[.int .i64 k] 3)) (keptL (keptL G10e.out Ka.out) Kb.out)) Kc.out) kd); have G11x := Lib.hid (keptL (keptL (plusL (o' := (.cells #[.int .i64 k] 3)) (keptL (keptL G11.out Ka.out) Kb.out)) Kc.out) kd); clear kd)
                        | (go_at_call 30; have _q := Jb; refine (changes_any (nn : Int) x (nn : Int) A3 (some ⟨wb.heap.size, 0, none⟩) n3 c3 1 1 (ofW nn []) [k] _ ((Jb.out.plus (.cells #[.int .i64 k] 3)).e A3 n3 c3 (ofW nn []) (by simp)) (ofW_w _ _) (by exact (sees_block (heap_alloc_new _ _) rfl (Nat.le_refl _) (by decide) ⟨[], rfl⟩ : Sees _ 1 _ 1 1 [Value.int .i64 k]))).mono ?_; rintro e wc ⟨rfl, kc⟩; have Jc := Lib.hid ((Jb.out.plus (.cells #[.int .i64 k] 3)).step kc); have Kc := Lib.hid kc; clear kc s0 s1 r0 r1; have s0 := (Jc.out.b b14 (nn : Int) A4 n4 c4 (by simp)).c0; have s1 := (Jc.out.b b14 (nn : Int) A4 n4 c4 (by simp)).c1)
                        | (go_at_call 14; have _q := Ja; refine (tells_any (nn : Int) x A4 n4 c4 (joinW true false false false (ofW nn []) [] nn) _ (Ja.out.e A4 n4 c4 (joinW true false false false (ofW nn []) [] nn) (by simp)) (joinW_w _ _ _ _ _ _ _) HX.out).mono ?_; rintro e wb ⟨rfl, kb⟩; have Jb := Lib.hid (Ja.out.step kb); have Kb := Lib.hid kb; clear kb s0 s1; have r0 := (Jb.out.b b13 (nn : Int) A3 n3 c3 (by simp)).c0; have r1 := (Jb.out.b b13 (nn : Int) A3 n3 c3 (by simp)).c1; have s0 := (Jb.out.b b14 (nn : Int) A4 n4 c4 (by simp)).c0; have s1 := (Jb.out.b b14 (nn : Int) A4 n4 c4 (by simp)).c1)
                        | (go_at_call 14; refine (tells_any (nn : Int) x A3 n3 c3 (ofW nn []) _ (J8.out.e A3 n3 c3 (ofW nn []) (by simp)) (ofW_w _ _) HX.out).mono ?_; rintro e wa ⟨rfl, ka⟩; have Ja := Lib.hid (J8.out.step ka); have Ka := Lib.hid ka; clear ka r0 r1; have s0 := (Ja.out.b b14 (nn : Int) A4 n4 c4 (by simp)).c0; have s1 := (Ja.out.b b14 (nn : Int) A4 n4 c4 (by simp)).c1))
                      go_roundw
                      case rel => exact ⟨j8 + 1, Lib.hid HL8.out, by go_num, Jd, G6x, G10x, G11x⟩
                      case measure => have := HL8.out; simp [intOf]; omega
                    · obtain rfl : j8 = 11 := by have := HJ8.out; omega
                      clear hlt
                      have r0 := (J8.out.b b13 (nn : Int) A3 n3 c3 (by simp)).c0; have r1 := (J8.out.b b13 (nn : Int) A3 n3 c3 (by simp)).c1
                      have s0 := (J8.out.b b14 (nn : Int) A4 n4 c4 (by simp)).c0; have s1 := (J8.out.b b14 (nn : Int) A4 n4 c4 (by simp)).c1
                      go_wp2_with (first
                        | (go_at_call 12; have _q := Jb; refine (joins_any (nn : Int) np A3 A4 n3 c3 n4 c4 (ofW nn []) (joinW true false false false (ofW nn []) [] nn) _ (Jb.out.e A3 n3 c3 (ofW nn []) (by simp)) (ofW_w _ _) (Jb.out.e A4 n4 c4 (joinW true false false false (ofW nn []) [] nn) (by simp)) (joinW_w _ _ _ _ _ _ _)).mono ?_; rintro e wc ⟨rfl, kc⟩; have Jc := Lib.hid (Jb.out.step kc); have G6x := Lib.hid (keptL (keptL (keptL G6e.out Ka.out) Kb.out) kc); have G10x := Lib.hid (keptL (keptL (keptL G10e.out Ka.out) Kb.out) kc); clear kc)
                        | (go_at_call 12; have _q := Ja; refine (joins_any (nn : Int) (nn : Int) A4 A4 n4 c4 n4 c4 (joinW true false false false (ofW nn []) [] nn) (joinW true false false false (ofW nn []) [] nn) _ (Ja.out.e A4 n4 c4 (joinW true false false false (ofW nn []) [] nn) (by simp)) (joinW_w _ _ _ _ _ _ _) (Ja.out.e A4 n4 c4 (joinW true false false false (ofW nn []) [] nn) (by simp)) (joinW_w _ _ _ _ _ _ _)).mono ?_; rintro e wb ⟨rfl, kb⟩; have Jb := Lib.hid (Ja.out.step kb); have Kb := Lib.hid kb; clear kb s0 s1; have r0 := (Jb.out.b b13 (nn : Int) A3 n3 c3 (by simp)).c0; have r1 := (Jb.out.b b13 (nn : Int) A3 n3 c3 (by simp)).c1; have s0 := (Jb.out.b b14 (nn : Int) A4 n4 c4 (by simp)).c0; have s1 := (Jb.out.b b14 (nn : Int) A4 n4 c4 (by simp)).c1)
                        | (go_at_call 12; refine (joins_any (nn : Int) (nn : Int) A3 A4 n3 c3 n4 c4 (ofW nn []) (joinW true false false false (ofW nn []) [] nn) _ (J8.out.e A3 n3 c3 (ofW nn []) (by simp)) (ofW_w _ _) (J8.out.e A4 n4 c4 (joinW true false false false (ofW nn []) [] nn) (by simp)) (joinW_w _ _ _ _ _ _ _)).mono ?_; rintro e wa ⟨rfl, ka⟩; have Ja := Lib.hid (J8.out.step ka); have Ka := Lib.hid ka; clear ka r0 r1 s0 s1; have s0 := (Ja.out.b b14 (nn : Int) A4 n4 c4 (by simp)).c0; have s1 := (Ja.out.b b14 (nn : Int) A4 n4 c4 (by simp)).c1))
                      go_roundw
                      case rel =>
                        (repeat apply Exists.intro)
                        exact ⟨⟨j7 + 1, Lib.hid HL7.out, by go_num, Lib.hid Jc.out.less, G6x, G10x⟩, rfl⟩
                      case measure => have := HL7.out; simp [intOf]; omega
            · obtain rfl : j7 = 10 := by have := HJ7.out; omega
              clear hlt
              go_wp2_with fail
              go_roundw
              case rel => exact ⟨j6 + 1, Lib.hid HL6.out, by go_num, J10, G6⟩
              case measure => have := HL6.out; simp [intOf]; omega
        · obtain rfl : j6 = 6 := by have := HJ6.out; omega
          clear hlt
          go_upto_region 50 with fail
          obtain ⟨W9, hW9⟩ : ∃ W2, ((((wr.alloc (.cells #[.int .u64 1, .int .u64 0] 54)).alloc (.cells #[.int .u64 1] 54)).alloc (.cells #[.int .u64 0] 54)).alloc (.cells #[.int .u64 5] 54)).alloc (nineO wr.heap.size) = W2 := ⟨_, rfl⟩
          have JN := Lib.hid (nine_is J6.out W9 hW9)
          have HW9 := Lib.hid hW9
          clear hW9
          unfold nineO at HW9
          rw [HW9.out]
          clear HW9
          generalize wr.heap.size + 1 + 1 + 1 + 1 = g9 at JN ⊢
          generalize wr.heap.size = G at JN ⊢
          clear J6 G6
          go_wp2_with fail
          go_loopw [186] (fun iv wr => ∃ j : Nat, Hid (j ≤ 9) ∧ iv = .int .i64 (j : Int) ∧ Hid (JX w wr [] [] (nineE G) ∧ wr.heap[g9]? = some (nineO G))) (fun iv _ => 9 - (intOf iv).toNat)
          case atStart => exact ⟨0, Lib.hid (Nat.zero_le _), rfl, JN⟩
          case round =>
            clear JN
            obtain ⟨j9, HJ9, rfl, JN⟩ := hrel
            by_cases hlt : j9 < 9
            · have HL9 := Lib.hid hlt
              have d0 : decide ((j9 : Int) < 9) = true := by simp; omega
              have d0' : decide (j9 < 9) = true := by simp; omega
              have d1 : decide ((9 : Int) ≤ (j9 : Int)) = false := by simp; omega
              have d1' : decide (9 ≤ j9) = false := by simp; omega
              have hji : (j9 : Int) < 9 := by omega
              have hj9 : (j9 : Int) ≤ 8 := by omega
              obtain ⟨N, A, n, c, zs, a0, a1, hse, hzw⟩ := at9 hlt JN.out.1 JN.out.2
              have HE := Lib.hid hse
              have HZW := Lib.hid hzw
              clear hlt hse hzw
              go_upto_region 52 with fail
              clear d0 d0' d1 d1' a0 a1
              have J1 := Lib.hid ((JN.out.1.more HE.out).newBox N A n c)
              have G1 := Lib.hid (plusL (o' := (.cells #[.int .i64 N, .slice A n c] 24)) JN.out.2)
              generalize wr.alloc (.cells #[.int .i64 N, .slice A n c] 24) = W1 at J1 G1 ⊢
              generalize wr.heap.size = b at J1 ⊢
              clear JN HE
              have x0 := (J1.out.b b N A n c (by simp)).c0; have x1 := (J1.out.b b N A n c (by simp)).c1
              go_wp2_with (first
                | (go_at_call 12; have _q := J4; refine (joins_any N 0 A none n c 0 0 zs [] _ (J4.out.e A n c zs (by simp)) HZW.out (nilS _ _) w64_nil).mono ?_; rintro e w5 ⟨rfl, k5⟩; have J5 := Lib.hid (J4.out.step k5); have G5 := Lib.hid (keptL G4.out k5); clear k5)
                | (go_at_call 12; have _q := J3; refine (joins_any N N A A n c n c zs zs _ (J3.out.e A n c zs (by simp)) HZW.out (J3.out.e A n c zs (by simp)) HZW.out).mono ?_; rintro e w4 ⟨rfl, k4⟩; have J4 := Lib.hid (J3.out.step k4); have G4 := Lib.hid (keptL G3.out k4); clear k4 x0 x1; have x0 := (J4.out.b b N A n c (by simp)).c0; have x1 := (J4.out.b b N A n c (by simp)).c1)
                | (go_at_call 30; have _q := J2; refine (changes_any N 0 N A none n c 0 0 zs [] _ (J2.out.e A n c zs (by simp)) HZW.out (nilS _ _)).mono ?_; rintro e w3 ⟨rfl, k3⟩; have J3 := Lib.hid (J2.out.step k3); have G3 := Lib.hid (keptL G2.out k3); clear k3 x0 x1; have x0 := (J3.out.b b N A n c (by simp)).c0; have x1 := (J3.out.b b N A n c (by simp)).c1)
                | (go_at_call 14; refine (tells_any N 0 A n c zs _ (J1.out.e A n c zs (by simp)) HZW.out (by decide)).mono ?_; rintro e w2 ⟨rfl, k2⟩; have J2 := Lib.hid (J1.out.step k2); have G2 := Lib.hid (keptL G1.out k2); clear k2 x0 x1; have x0 := (J2.out.b b N A n c (by simp)).c0; have x1 := (J2.out.b b N A n c (by simp)).c1))
              go_roundw
              case rel =>
                (repeat apply Exists.intro)
                exact ⟨⟨j9 + 1, Lib.hid HL9.out, by go_num, Lib.hid ⟨JX.tail9 J5.out, G5.out⟩⟩, rfl⟩
              case measure => have := HL9.out; simp [intOf]; omega
            · obtain rfl : j9 = 9 := by have := HJ9.out; omega
              clear hlt
              obtain ⟨Z, hZ⟩ : ∃ Z : List Int, List.replicate 1024 0 = Z := ⟨_, rfl⟩
              obtain ⟨F, hF⟩ : ∃ F : List Int, notW 65536 (List.replicate 1024 0) = F := ⟨_, rfl⟩
              have HZ := Lib.hid hZ
              have HF := Lib.hid hF
              have J0 := Lib.hid JN.out.1.less
              clear hZ hF JN
              go_wp2_with (first
                | (go_at_call 13; have _q := J6; refine (awake_any _).mono ?_; rintro e w7 ⟨rfl, k7⟩; have J7 := Lib.hid (J6.out.step k7); clear k7)
                | (go_at_call 30; have _q := J5; refine (changes_any 0 0 65537 none none 0 0 0 0 [] [] _ (nilS _ _) w64_nil (nilS _ _)).mono ?_; rintro e w6 ⟨rfl, k6⟩; have J6 := Lib.hid (J5.out.step k6); clear k6)
                | (go_at_call 29; have _q := J4; refine (Runs_any 65536 A2 n2 c2 F _ (J4.out.e A2 n2 c2 F (by simp)) (full_w HF.out)).mono ?_; rw [full_runsv HF.out]; rintro e w5 ⟨AU, cU, rfl, _, k5⟩; have J5 := Lib.hid (J4.out.step k5); clear k5)
                | (go_at_call 17; have _q := J3; refine (Count_any 65536 A2 n2 c2 F _ (J3.out.e A2 n2 c2 F (by simp)) (full_w HF.out)).mono ?_; rw [full_rankv HF.out]; rintro e w4 ⟨rfl, k4⟩; have J4 := Lib.hid (J3.out.step k4); clear k4 x0 x1; have x0 := (J4.out.b w2.heap.size 65536 A2 n2 c2 (by simp)).c0; have x1 := (J4.out.b w2.heap.size 65536 A2 n2 c2 (by simp)).c1)
                | (go_at_call 19; have _q := J2; refine (Select_any 65536 65535 A2 n2 c2 F _ (J2.out.e A2 n2 c2 F (by simp)) (full_w HF.out) (by decide)).mono ?_; rw [full_selv HF.out]; rintro e w3 ⟨rfl, k3⟩; have J3 := Lib.hid (J2.out.step k3); clear k3 x0 x1; have x0 := (J3.out.b w2.heap.size 65536 A2 n2 c2 (by simp)).c0; have x1 := (J3.out.b w2.heap.size 65536 A2 n2 c2 (by simp)).c1)
                | (go_at_call 28; have _q := J1; refine (NotFull HZ.out HF.out A1 n1 c1 _ (J1.out.e A1 n1 c1 Z (by simp))).mono ?_; rintro e w2 ⟨A2, n2, c2, rfl, s2, k2⟩; have J2 := Lib.hid ((((J1.out.step k2).less).more s2).newBox 65536 A2 n2 c2); clear k2 s2 x0 x1; have x0 := (J2.out.b w2.heap.size 65536 A2 n2 c2 (by simp)).c0; have x1 := (J2.out.b w2.heap.size 65536 A2 n2 c2 (by simp)).c1)
                | (go_at_call 37; refine (NewFull HZ.out _).mono ?_; rintro e w1 ⟨A1, n1, c1, rfl, s1, k1⟩; have J1 := Lib.hid (((J0.out.step k1).more s1).newBox 65536 A1 n1 c1); have x0 := (J1.out.b w1.heap.size 65536 A1 n1 c1 (by simp)).c0; have x1 := (J1.out.b w1.heap.size 65536 A1 n1 c1 (by simp)).c1; clear k1 s1))
              go_ret
              exact ⟨rfl, J7.out.bel⟩
end Go.Proofs.Ytemhoaleeefhhaa
