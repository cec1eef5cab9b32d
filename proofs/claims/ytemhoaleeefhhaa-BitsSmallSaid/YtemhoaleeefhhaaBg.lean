/- Next in one contract; Select. -/
import Derived.Test.YtemhoaleeefhhaaProg
import Derived.Test.YtemhoaleeefhhaaBf
namespace Go.Proofs.Ytemhoaleeefhhaa
open Go.RowKit Go.Shelf
set_option linter.unusedVariables false
attribute [local go_sem] Oper.semAt_some

theorem boxed_set {W : World} {B : Nat} {t : TypeId} {v : Value} (h : Boxed W B t v) (u : Value) : Boxed (W.setCell ⟨B, 0, none⟩ u) B t u := by
  have e := heap_setCell_same W B 0 _ _ u h
  have e' : (W.setCell ⟨B, 0, none⟩ u).heap[B]? = some (.cells #[u] t (0, 0)) := by simpa using e
  exact e'
theorem boxed_ne {W : World} {B B' : Nat} {t : TypeId} {v : Value} (h : Boxed W B t v) (hne : B ≠ B') (u : Value) : Boxed (W.setCell ⟨B', 0, none⟩ u) B t v := (Below.heap_setCell _ _ _ _ hne).trans h
theorem boxed_below {W W' : World} {B N : Nat} {t : TypeId} {v : Value} (h : Boxed W B t v) (hb : Below N W W') (hN : W.heap.size ≤ N) : Boxed W' B t v := (hb.block B (Nat.lt_of_lt_of_le h.lt hN)).trans h
theorem boxed_put {W : World} {B D : Nat} {t : TypeId} {v : Value} (h : Boxed W B t v) (hne : B ≠ D) (o : Obj) : Boxed (W.putObj D o) B t v := (World.putObj_heap_other hne).trans h

/-- What Next tells. -/
def nextF (l : List Int) (N i : Int) : Option Nat := if RightW N l then (memF l (max i 0).toNat N.toNat).head? else none
set_option maxRecDepth 20000 in
theorem Next_no (N i : Int) (A : Option Addr) (n c : Nat) (l : List Int) (w : World) (hs : Sees w 1 A n c (l.map (Value.int .u64))) (hw : W64 l) (hr : ¬ RightW N l) :
    Calls Try.prog 20 #[setv N A n c, .int .i64 i] w fun e w' => e = .returned (.tuple #[.int .i64 0, .bool false]) ∧ Below w.heap.size w w' := by
  obtain ⟨wA, hwA⟩ : ∃ wA, ((w.alloc (.cells #[.int .i64 N, .slice A n c] 24)).alloc (.cells #[.int .i64 0] 3)).alloc (.cells #[.bool false] 4) = wA := ⟨_, rfl⟩
  have hB0 : Below w.heap.size w wA := by rw [← hwA]; exact (((Below.refl _ _).alloc (Nat.le_refl _) _).alloc (by simp) _).alloc (by simp; omega) _
  have hsz0 : wA.heap.size = w.heap.size + 3 := by rw [← hwA]; simp
  have bS : wA.heap[w.heap.size]? = some (.cells #[.int .i64 N, .slice A n c] 24 (0, 0)) := by
    rw [← hwA]; exact lit_skipB (lit_skipB (lit_newB rfl))
  have b1 : Boxed wA (w.heap.size + 1) 3 (.int .i64 0) := by
    rw [← hwA]; exact lit_skipB (lit_newB (by simp))
  have b2 : Boxed wA (w.heap.size + 1 + 1) 4 (.bool false) := by
    rw [← hwA]; exact lit_newB (by simp)
  have HR := Lib.hid (decide_eq_false hr)
  have HSE := Lib.hid (hs.below hB0 (Nat.le_refl _))
  have HWA := Lib.hid hwA
  have HW0 := Lib.hid (And.intro hB0 (And.intro hsz0 (And.intro b1 b2)))
  have y0 : wA.cell? ⟨w.heap.size, 0, none⟩ = some (.int .i64 N) := by simp [World.cell?, bS]
  have y1 : wA.cell? ⟨w.heap.size, 1, none⟩ = some (.slice A n c) := by simp [World.cell?, bS]
  clear hs hr hB0 hwA hsz0 b1 b2 bS
  go_enter Try.func20, Try.ntmps20
  go_wp2_with (go_at_call 34; rw [HWA.out]; refine (Right_any N A n c l _ HSE.out hw).mono ?_; rw [HR.out]; rintro e w1 ⟨rfl, k1⟩; have c1 := (show Boxed w1 (w.heap.size + 1) 3 (.int .i64 0) from (k1.block (w.heap.size + 1) HW0.out.2.2.1.lt).trans HW0.out.2.2.1); have c2 := (show Boxed w1 (w.heap.size + 1 + 1) 4 (.bool false) from (k1.block (w.heap.size + 1 + 1) HW0.out.2.2.2.lt).trans HW0.out.2.2.2); have d1 := c1.cell; have f1 := c1.frozen; have d2 := c2.cell; have f2 := c2.frozen; have R1 := Lib.hid (And.intro k1 (And.intro c1 c2)); clear k1 c1 c2)
  have q1 := (boxed_ne (boxed_set R1.out.2.1 (.int .i64 0)) (show w.heap.size + 1 ≠ w.heap.size + 1 + 1 by omega) (.bool false)).cell
  have q2 := (boxed_set (boxed_ne R1.out.2.2 (show w.heap.size + 1 + 1 ≠ w.heap.size + 1 by omega) (.int .i64 0)) (.bool false)).cell
  exact bodyPost_ret (v := .tuple #[.int .i64 0, .bool false]) (by simp [results, Try.results20, go_sem, q1, q2]) rfl ⟨rfl, ((below_step HW0.out.1 R1.out.1).setCell (by show w.heap.size ≤ w.heap.size + 1; omega) _).setCell (by show w.heap.size ≤ w.heap.size + 1 + 1; omega) _⟩

theorem Next_any (N i : Int) (A : Option Addr) (n c : Nat) (l : List Int) (w : World) (hs : Sees w 1 A n c (l.map (Value.int .u64))) (hw : W64 l) :
    Calls Try.prog 20 #[setv N A n c, .int .i64 i] w fun e w' => e = .returned (optV (nextF l N i)) ∧ Below w.heap.size w w' := by
  unfold nextF
  by_cases hr : RightW N l
  · rw [if_pos hr]
    obtain ⟨M, rfl⟩ : ∃ M : Nat, N = (M : Int) := ⟨N.toNat, by have := hr.1; omega⟩
    rw [Int.toNat_natCast]
    exact callsIn_wide.1 (Next_in M (max i 0).toNat i A n c l w hs hw hr (by omega))
  · rw [if_neg hr]
    exact Next_no N i A n c l w hs hw hr

/-- What Select tells. -/
def selF (l : List Int) (N k : Int) : Option Nat := if RightW N l ∧ 0 ≤ k then (mem l N.toNat)[k.toNat]? else none
theorem cnt_flat {N : Nat} {l : List Int} (hw : W64 l) (hr : RightW (N : Int) l) {M : Nat} (h : N ≤ M) : cnt l M = cnt l N := by
  rw [← mem_len, ← mem_len]
  have := memF_skip l 0 N M h (fun k h1 _ => hr.bits hw k (by omega))
  unfold mem
  rw [this]
theorem sel_none {N : Nat} {l : List Int} (hw : W64 l) (hr : RightW (N : Int) l) {n k kc : Nat} (hn : N ≤ 64 * n) (hk : k = cnt l (64 * n) + kc) : (mem l N)[k]? = none := by
  rw [List.getElem?_eq_none]
  rw [mem_len, ← cnt_flat hw hr hn]; omega
theorem sel_long {N : Nat} {l : List Int} (hw : W64 l) (hr : RightW (N : Int) l) {j kc : Nat} (hj : 64 * j ≤ N) (hk : kc < pc (l.getD j 0).toNat) : kc < (memF l (64 * j) N).length := by
  have h1 := mem_split l (64 * j) N hj
  have h2 := congrArg List.length h1
  rw [List.length_append, mem_len, mem_len] at h2
  have h3 := cnt_word l hw j
  by_cases hN : 64 * (j + 1) ≤ N
  · have := cnt_mono (l := l) hN; omega
  · have := cnt_flat hw hr (M := 64 * (j + 1)) (by omega); omega

/-- The boxes of Select. -/
def SlB (w : World) (kc a : Int) (b : Bool) (W : World) : Prop := (Boxed W (w.heap.size + 1) 3 (.int .i64 kc) ∧ Boxed W (w.heap.size + 2) 3 (.int .i64 a) ∧ Boxed W (w.heap.size + 3) 4 (.bool b)) ∧ Below w.heap.size w W
theorem SlB.below {w W W' : World} {kc a : Int} {b : Bool} {N : Nat} (h : SlB w kc a b W) (hb : Below N W W') (hN : W.heap.size ≤ N) : SlB w kc a b W' := ⟨⟨boxed_below h.1.1 hb hN, boxed_below h.1.2.1 hb hN, boxed_below h.1.2.2 hb hN⟩, h.2.trans (hb.mono (Nat.le_trans h.2.size hN))⟩
theorem SlB.setK {w W : World} {kc a : Int} {b : Bool} (h : SlB w kc a b W) (v : Int) : SlB w v a b (W.setCell ⟨w.heap.size + 1, 0, none⟩ (.int .i64 v)) :=
  ⟨⟨boxed_set h.1.1 _, boxed_ne h.1.2.1 (by omega) _, boxed_ne h.1.2.2 (by omega) _⟩, h.2.setCell (by show w.heap.size ≤ w.heap.size + 1; omega) _⟩
theorem SlB.setR {w W : World} {kc a : Int} {b : Bool} (h : SlB w kc a b W) (v : Int) (u : Bool) : SlB w kc v u ((W.setCell ⟨w.heap.size + 2, 0, none⟩ (.int .i64 v)).setCell ⟨w.heap.size + 3, 0, none⟩ (.bool u)) :=
  ⟨⟨boxed_ne (boxed_ne h.1.1 (by omega) _) (by omega) _, boxed_ne (boxed_set h.1.2.1 _) (by omega) _, boxed_set (boxed_ne h.1.2.2 (by omega) _) _⟩, (h.2.setCell (by show w.heap.size ≤ w.heap.size + 2; omega) _).setCell (by show w.heap.size ≤ w.heap.size + 3; omega) _⟩
theorem SlB.own (w : World) (kc a : Int) (b : Bool) (n : Nat) (hn : w.heap.size ≤ n) {β : Type} : OwnFrom n (fun (_ : β) W => SlB w kc a b W) :=
  OwnFrom.and (OwnFrom.and (Own.from (boxed_own _ _ _) _) (OwnFrom.and (Own.from (boxed_own _ _ _) _) (Own.from (boxed_own _ _ _) _))) (ownFrom_below (Nat.le_refl _) hn)
end Go.Proofs.Ytemhoaleeefhhaa
