/- Next. -/
import Derived.Test.YtemhoaleeefhhaaProg
import Derived.Test.YtemhoaleeefhhaaBe
namespace Go.Proofs.Ytemhoaleeefhhaa
open Go.RowKit Go.Shelf
set_option linter.unusedVariables false
attribute [local go_sem] Oper.semAt_some

theorem lit_newB {w : World} {o : Obj} {g : Nat} (h : g = w.heap.size) : (w.alloc o).heap[g]? = some o := by subst h; exact heap_alloc_new w o
theorem lit_skipB {w : World} {o o' : Obj} {g : Nat} (h : w.heap[g]? = some o') : (w.alloc o).heap[g]? = some o' := by rw [heap_alloc_old _ _ (lt_of_heap h)]; exact h
/-- A number, if there is one. -/
def optV (o : Option Nat) : Value := match o with
  | some m => .tuple #[.int .i64 (m : Int), .bool true]
  | none => .tuple #[.int .i64 0, .bool false]
def NxI (w : World) (Bs : Nat) (cs : Array Value) (a : Int) (b : Bool) (W : World) : Prop := (Boxed W (w.heap.size + 1) 3 (.int .i64 a) ∧ Boxed W (w.heap.size + 2) 4 (.bool b) ∧ W.heap[Bs]? = some (.cells cs 24 (0, 0))) ∧ Below w.heap.size w W

theorem nx_own (w : World) (Bs : Nat) (cs : Array Value) (a : Int) (b : Bool) (n : Nat) (hn : w.heap.size ≤ n) : OwnFrom n (fun (_ : List Nat) W => NxI w Bs cs a b W) :=
  OwnFrom.and (OwnFrom.and (Own.from (boxed_own _ _ _) _) (OwnFrom.and (Own.from (boxed_own _ _ _) _) (Own.from (block_ownB _ _ _ _) _))) (ownFrom_below (Nat.le_refl _) hn)

set_option maxRecDepth 100000 in
set_option maxHeartbeats 3200000 in
theorem Next_in (N f : Nat) (i : Int) (A : Option Addr) (n c : Nat) (l : List Int) (w : World) (hs : Sees w 1 A n c (l.map (Value.int .u64))) (hw : W64 l) (hr : RightW (N : Int) l) (hfi : max i 0 = (f : Int)) :
    CallsIn Fence.wide 9 Try.prog 20 #[setv (N : Int) A n c, .int .i64 i] w fun e w' => e = .returned (optV (memF l f N).head?) ∧ Below w.heap.size w w' := by
  have hF : ∀ k, Fence.wide.fn k := fun _ => trivial
  have hl := hs.length
  have HNN := Lib.hid (show N ≤ 64 * n ∧ N ≤ 65536 by have h1 := hr.2.1; have h2 := hr.2.2.1; omega)
  obtain ⟨wA, hwA⟩ : ∃ wA, ((w.alloc (.cells #[.int .i64 (N : Int), .slice A n c] 24)).alloc (.cells #[.int .i64 0] 3)).alloc (.cells #[.bool false] 4) = wA := ⟨_, rfl⟩
  have hB0 : Below w.heap.size w wA := by rw [← hwA]; exact (((Below.refl _ _).alloc (Nat.le_refl _) _).alloc (by simp) _).alloc (by simp; omega) _
  have hsz0 : wA.heap.size = w.heap.size + 3 := by rw [← hwA]; simp
  have bS : wA.heap[w.heap.size]? = some (.cells #[.int .i64 (N : Int), .slice A n c] 24 (0, 0)) := by
    rw [← hwA]; exact lit_skipB (lit_skipB (lit_newB rfl))
  have b1 : Boxed wA (w.heap.size + 1) 3 (.int .i64 0) := by
    rw [← hwA]; exact lit_skipB (lit_newB (by simp))
  have b2 : Boxed wA (w.heap.size + 2) 4 (.bool false) := by
    rw [← hwA]; exact lit_newB (by simp)
  have HRT := Lib.hid (decide_eq_true hr)
  have HSE := Lib.hid hs
  have HFI := Lib.hid hfi
  have HWA := Lib.hid hwA
  have HW0 := Lib.hid (And.intro hB0 (And.intro hsz0 (And.intro b1 (And.intro b2 bS))))
  have y0 : wA.cell? ⟨w.heap.size, 0, none⟩ = some (.int .i64 (N : Int)) := by simp [World.cell?, bS]
  have y1 : wA.cell? ⟨w.heap.size, 1, none⟩ = some (.slice A n c) := by simp [World.cell?, bS]
  clear hs hr hl hB0 hsz0 b1 b2 bS hfi hwA
  refine callsIn_of_wp_marks Try.func20 rfl trivial ?_ rfl
  simp only [Try.ntmps20, List.size_toArray, List.length_cons, List.length_nil, Nat.reduceAdd, Nat.reduceSub, Array.replicate_succ, Array.replicate_zero, List.push_toArray, List.append_toArray, List.nil_append, List.cons_append]
  gi_wp2_with (first
    | (gi_at_call 52; have _q := R1; refine (callsIn_wide.2 (members_any (N : Int) i A n c _)).mono ?_; rintro e w2 ⟨rfl, rfl⟩)
    | (gi_at_call 34; rw [HWA.out]; refine (callsIn_wide.2 (Right_any (N : Int) A n c l _ (HSE.out.below HW0.out.1 (Nat.le_refl _)) hw)).mono ?_; rw [HRT.out]; rintro e w1 ⟨rfl, k1⟩; have X1 := (k1.block w.heap.size (by rw [HW0.out.2.1]; omega)).trans HW0.out.2.2.2.2; have z0 : w1.cell? ⟨w.heap.size, 0, none⟩ = some (.int .i64 (N : Int)) := (by simp [World.cell?, X1]); have z1 : w1.cell? ⟨w.heap.size, 1, none⟩ = some (.slice A n c) := (by simp [World.cell?, X1]); have R1 := Lib.hid k1; clear k1 X1))
  have hb1 : Below w.heap.size w w1 := HW0.out.1.trans (R1.out.mono (by rw [HW0.out.2.1]; omega))
  have hz1 : w.heap.size + 3 ≤ w1.heap.size := by have h9 := R1.out.size; rw [HW0.out.2.1] at h9; exact h9
  obtain ⟨W0, hW0⟩ : ∃ W0, (w1.alloc (.cells #[.int .i64 (N : Int), .slice A n c] 24)).alloc (.cells #[.int .i64 i] 3) = W0 := ⟨_, rfl⟩
  have bO1 : Boxed W0 (w.heap.size + 1) 3 (.int .i64 0) := by
    rw [← hW0]; exact lit_skipB (lit_skipB ((R1.out.block (w.heap.size + 1) (by rw [HW0.out.2.1]; omega)).trans HW0.out.2.2.1))
  have bO2 : Boxed W0 (w.heap.size + 2) 4 (.bool false) := by
    rw [← hW0]; exact lit_skipB (lit_skipB ((R1.out.block (w.heap.size + 2) (by rw [HW0.out.2.1]; omega)).trans HW0.out.2.2.2.1))
  have bS : W0.heap[w1.heap.size]? = some (.cells #[.int .i64 (N : Int), .slice A n c] 24 (0, 0)) := by
    rw [← hW0]; exact lit_skipB (lit_newB rfl)
  have bF : W0.cell? ⟨w1.heap.size + 1, 0, none⟩ = some (.int .i64 i) := by
    have h9 : W0.heap[w1.heap.size + 1]? = some (.cells #[.int .i64 i] 3 (0, 0)) := by rw [← hW0]; exact lit_newB (by simp)
    simp [World.cell?, h9]
  have hB2 : Below w.heap.size w W0 := by rw [← hW0]; exact (hb1.alloc (by omega) _).alloc (by simp; omega) _
  have hz2 : W0.heap.size = w1.heap.size + 2 := by rw [← hW0]; simp
  rw [hW0]
  clear R1 z0 z1 hb1 hW0
  generalize w1.heap.size = Bs at bS bF hz1 hz2 ⊢
  refine wpIn_rangeFunc_ownH rfl (by decide) (gf := 68) (lb := #[.pointer (some ⟨Bs + 1, 0, none⟩), .pointer (some ⟨Bs, 0, none⟩)]) rfl trivial (enters_of Try.func68 (by kernel_rfl) rfl)
    (members_stops _ Bs (Bs + 1) w.heap.size N f i A n c l W0 HNN.out.1 HNN.out.2 HFI.out hw (by omega) (by omega) bS bF (fun W' hW' => HSE.out.below (hB2.trans hW') (Nat.le_refl _))) KeepsO.trans (keepsO_b (by omega) (by omega)) (Below.refl _ _) (fun _ => rfl)
    (fun pre W => pre = [] ∧ NxI w Bs #[.int .i64 (N : Int), .slice A n c] 0 false W)
    (fun j pre W => j = Code.ret ∧ ∃ x, pre = [x] ∧ NxI w Bs #[.int .i64 (N : Int), .slice A n c] (x : Int) true W)
    (OwnFrom.and (ownFrom_pure _ _) (nx_own w Bs _ 0 false _ (by omega)))
    (fun _ => fun s X Y row hs hg hr => by
      obtain ⟨e, x, h1, h2⟩ := hs
      exact ⟨e, x, h1, nx_own w Bs _ (x : Int) true _ (by omega) s X Y row h2 hg hr⟩)
    ⟨rfl, ⟨bO1, bO2, bS⟩, hB2⟩
    (fun x a' W => a' = { tmps := #[setv (N : Int) A n c, .int .i64 i, .pointer (some ⟨w.heap.size, 0, none⟩), undef, .pointer (some ⟨w.heap.size + 1, 0, none⟩), .pointer (some ⟨w.heap.size + 1 + 1, 0, none⟩), .int .i64 (x : Int), .agg #[.int .i64 (N : Int), .slice A n c], .bool true, .agg #[.int .i64 (N : Int), .slice A n c], .int .i64 i, .func (.func 68) #[] #[.pointer (some ⟨Bs + 1, 0, none⟩), .pointer (some ⟨Bs, 0, none⟩)], .int .i64 (x : Int), undef], defers := [] })
    (fun x a' => fun _ X Y row hs hg hr => hs) ?assign ?body ?done ?stop
  case assign =>
    rintro y pre x W K hi hK
    unfold enM
    gi_wp2
    exact hK _ _ ((KeepsOthers.refl _).from _) (KeepsO.refl _ _ _) hi rfl
  case body =>
    rintro y pre x a' W hl ⟨r, hr⟩ ⟨rfl, ⟨h1, h2, hE⟩, hB⟩ rfl hlt
    have hc1 := h1.cell
    have hf1 := h1.frozen
    have hc2 := h2.cell
    have hf2 := h2.frozen
    gi_wp2
    have B1 : Boxed ((W.setCell ⟨w.heap.size + 1, 0, none⟩ (.int .i64 (x : Int))).setCell ⟨w.heap.size + 1 + 1, 0, none⟩ (.bool true)) (w.heap.size + 1) 3 (.int .i64 (x : Int)) := by
      have e := heap_setCell_same W (w.heap.size + 1) 0 _ _ (.int .i64 (x : Int)) h1
      exact (Below.heap_setCell _ _ _ _ (by show w.heap.size + 1 ≠ w.heap.size + 1 + 1; omega)).trans (by simpa using e)
    have B2 : Boxed ((W.setCell ⟨w.heap.size + 1, 0, none⟩ (.int .i64 (x : Int))).setCell ⟨w.heap.size + 1 + 1, 0, none⟩ (.bool true)) (w.heap.size + 2) 4 (.bool true) := by
      have e0 : (W.setCell ⟨w.heap.size + 1, 0, none⟩ (.int .i64 (x : Int))).heap[w.heap.size + 1 + 1]? = some (.cells #[.bool false] 4 (0, 0)) := (Below.heap_setCell _ _ _ _ (by show w.heap.size + 1 + 1 ≠ w.heap.size + 1; omega)).trans h2
      have e := heap_setCell_same _ (w.heap.size + 1 + 1) 0 _ _ (.bool true) e0
      have e' : ((W.setCell ⟨w.heap.size + 1, 0, none⟩ (.int .i64 (x : Int))).setCell ⟨w.heap.size + 1 + 1, 0, none⟩ (.bool true)).heap[w.heap.size + 2]? = some (.cells #[.bool true] 4 (0, 0)) := by simpa using e
      exact e'
    have B3 : ((W.setCell ⟨w.heap.size + 1, 0, none⟩ (.int .i64 (x : Int))).setCell ⟨w.heap.size + 1 + 1, 0, none⟩ (.bool true)).heap[Bs]? = some (.cells #[.int .i64 (N : Int), .slice A n c] 24 (0, 0)) :=
      (Below.heap_setCell _ _ _ _ (by show Bs ≠ w.heap.size + 1 + 1; omega)).trans ((Below.heap_setCell _ _ _ _ (by show Bs ≠ w.heap.size + 1; omega)).trans hE)
    exact ⟨((KeepsOthers.setCell _ _ _).trans (KeepsOthers.setCell _ _ _)).from _, rfl, x, rfl, ⟨B1, B2, B3⟩, (hB.setCell (by show w.heap.size ≤ w.heap.size + 1; omega) _).setCell (by show w.heap.size ≤ w.heap.size + 1 + 1; omega) _⟩
  case done =>
    rintro D ys W hD rfl ⟨hnil, ⟨h1, h2, hE⟩, hB⟩ hK
    have hc1 := h1.cell
    have hf1 := h1.frozen
    have hc2 := h2.cell
    have hf2 := h2.frozen
    gi_wp2
    have e1 := heap_setCell_same W (w.heap.size + 1) 0 _ _ (.int .i64 0) h1
    have e2 : (W.setCell ⟨w.heap.size + 1, 0, none⟩ (.int .i64 0)).heap[w.heap.size + 1 + 1]? = some (.cells #[.bool false] 4 (0, 0)) := (Below.heap_setCell _ _ _ _ (by show w.heap.size + 1 + 1 ≠ w.heap.size + 1; omega)).trans h2
    have e3 := heap_setCell_same _ (w.heap.size + 1 + 1) 0 _ _ (.bool false) e2
    have e4 : ((W.setCell ⟨w.heap.size + 1, 0, none⟩ (.int .i64 0)).setCell ⟨w.heap.size + 1 + 1, 0, none⟩ (.bool false)).heap[w.heap.size + 1]? = some (.cells #[.int .i64 0] 3 (0, 0)) := (Below.heap_setCell _ _ _ _ (by show w.heap.size + 1 ≠ w.heap.size + 1 + 1; omega)).trans (by simpa using e1)
    have hK2 : ((W.setCell ⟨w.heap.size + 1, 0, none⟩ (.int .i64 0)).setCell ⟨w.heap.size + 1 + 1, 0, none⟩ (.bool false)).heap[D]? = some (.deferred (some [])) :=
      (Below.heap_setCell _ _ _ _ (by show D ≠ w.heap.size + 1 + 1; omega)).trans ((Below.heap_setCell _ _ _ _ (by show D ≠ w.heap.size + 1; omega)).trans hK)
    have hB9 : Below w.heap.size w ((W.setCell ⟨w.heap.size + 1, 0, none⟩ (.int .i64 0)).setCell ⟨w.heap.size + 1 + 1, 0, none⟩ (.bool false)) := (hB.setCell (by show w.heap.size ≤ w.heap.size + 1; omega) _).setCell (by show w.heap.size ≤ w.heap.size + 1 + 1; omega) _
    generalize (W.setCell ⟨w.heap.size + 1, 0, none⟩ (.int .i64 0)).setCell ⟨w.heap.size + 1 + 1, 0, none⟩ (.bool false) = W9 at e3 e4 hK2 hB9 ⊢
    have q1 : (W9.putObj D (.deferred none)).cell? ⟨w.heap.size + 1, 0, none⟩ = some (.int .i64 0) := by
      have e9 : (W9.putObj D (.deferred none)).heap[w.heap.size + 1]? = some (.cells #[.int .i64 0] 3 (0, 0)) := (World.putObj_heap_other (by omega)).trans e4
      simp [World.cell?, e9]
    have q2 : (W9.putObj D (.deferred none)).cell? ⟨w.heap.size + 1 + 1, 0, none⟩ = some (.bool false) := by
      have e9 : (W9.putObj D (.deferred none)).heap[w.heap.size + 1 + 1]? = some (.cells #[.bool false] 4 (0, 0)) := (World.putObj_heap_other (by omega)).trans (by simpa using e3)
      simp [World.cell?, e9]
    refine ⟨by simp, .inl ⟨_, _, rfl, run_takeDeferred hK2, ?_⟩⟩
    refine ⟨.tuple #[.int .i64 0, .bool false], by simp [results, Try.results20, go_sem, q1, q2], ?_⟩
    exact ⟨by rw [hnil]; rfl, hB9.trans ((Below.refl w.heap.size W9).grown (grownBy_putObj' W9 D _) hB9.size (fun k e => by cases e; omega))⟩
  case stop =>
    rintro D j pre W hD hSp ⟨rfl, x, rfl, ⟨h1, h2, hE⟩, hB⟩ hK
    have hc1 := h1.cell
    have hc2 := h2.cell
    obtain ⟨r, hr⟩ := hSp
    have hhd : (memF l f N).head? = some x := by rw [← hr]; rfl
    have q1 : (W.putObj D (.deferred none)).cell? ⟨w.heap.size + 1, 0, none⟩ = some (.int .i64 (x : Int)) := by
      have e9 : (W.putObj D (.deferred none)).heap[w.heap.size + 1]? = some (.cells #[.int .i64 (x : Int)] 3 (0, 0)) := (World.putObj_heap_other (by omega)).trans h1
      simp [World.cell?, e9]
    have q2 : (W.putObj D (.deferred none)).cell? ⟨w.heap.size + 1 + 1, 0, none⟩ = some (.bool true) := by
      have e9 : (W.putObj D (.deferred none)).heap[w.heap.size + 1 + 1]? = some (.cells #[.bool true] 4 (0, 0)) := (World.putObj_heap_other (by omega)).trans h2
      simp [World.cell?, e9]
    gi_wp2
    refine ⟨by simp, .inl ⟨_, _, rfl, run_takeDeferred hK, ?_⟩⟩
    refine ⟨.tuple #[.int .i64 (x : Int), .bool true], by simp [results, Try.results20, go_sem, q1, q2], ?_⟩
    exact ⟨by rw [hhd]; rfl, hB.trans ((Below.refl w.heap.size W).grown (grownBy_putObj' W D _) hB.size (fun k e => by cases e; omega))⟩
end Go.Proofs.Ytemhoaleeefhhaa
