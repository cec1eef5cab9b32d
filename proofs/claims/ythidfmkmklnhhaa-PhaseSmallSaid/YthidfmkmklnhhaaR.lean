/- A range over a function whose rounds never leave early; the iterator may keep state in one block of cells of its own. -/
import Derived.RangeFuncNested
import Derived.RangeFuncBound
import Derived.RangeFuncCalls
import Derived.RangeFuncLeaves
import Derived.Shelf.Abstract
import Derived.OwnWalkIn
import Derived.TacticsInMore
import Derived.LoopNIn
import Derived.LoopIn
import Derived.Test.YthidfmkmklnhhaaQ
namespace Go.Proofs.Ythidfmkmklnhhaa
open Go.RowKit

/-- A block lies as it lay. -/
def KeepsBlock (b : Nat) (W W' : World) : Prop := W'.heap[b]? = W.heap[b]?

theorem wp_range_all {P : Program} {α : Type} {g : Operand} {ps : Array Tmp} {assign body : Code} {Q : Exit → Act → World → Prop} {a : Act} {w : World}
    {gf : Nat} {lb : Array Value} (hg : a.eval g = .func (.func gf) #[] lb) (eg : ∀ args w, (callFunc gf args).run P w = .ok (.enter gf args) w)
    (encs : α → Array Value) (hps : ∀ x, (encs x).size = ps.size) (bx : Nat) (tb : TypeId) (hbx : bx < w.heap.size) (xs : List α)
    (hiter : ∀ (l : Nat) (J : List α → World → Prop) (W : World),
        (∀ pre W u v, J pre W → W.heap[bx]? = some (.cells #[u] tb (0, 0)) → J pre (W.setCell ⟨bx, 0, none⟩ v)) →
        (∀ pre x u W, J pre W → W.heap[bx]? = some (.cells #[u] tb (0, 0)) → (pre ++ [x]) <+: xs → YieldAt Fence.wide 0 P l (encs x) W fun e W' => e = .returned (.bool true) ∧ J (pre ++ [x]) W' ∧ KeepsBlock bx W W') →
        W.heap[bx]? = w.heap[bx]? → J [] W →
        CallsIn Fence.wide 0 P gf (#[.func (.yield l) #[] #[]] ++ lb) W fun e W' => (∃ v, e = .returned v) ∧ J xs W')
    (I : List α → World → Prop) (hI : OwnFrom w.heap.size I) (hIs : ∀ pre W u v, I pre W → W.heap[bx]? = some (.cells #[u] tb (0, 0)) → I pre (W.setCell ⟨bx, 0, none⟩ v)) (h0 : I [] w) (T : α → Array Value) (hT : ∀ x, (ps.zip (encs x)).foldl (fun t (p, v) => t.setIfInBounds p v) a.tmps = T x) (a₁ : α → Act)
    (hassign : ∀ (l : Nat) (x : α) (W : World) (K : Act → World → Prop), K (a₁ x) W → assign.wpIn (Fence.wide.inRound l) 0 P (Exit.then K (fun _ _ _ => False)) { tmps := T x, defers := [] } W)
    (hbody : ∀ (l : Nat) (pre : List α) (x : α) (u : Value) (W : World), I pre W → W.heap[bx]? = some (.cells #[u] tb (0, 0)) → (pre ++ [x]) <+: xs →
      body.wpIn (Fence.wide.inRound l) 0 P (fun e _ W' => e = .normal ∧ I (pre ++ [x]) W' ∧ KeepsOthers W W' ∧ KeepsBlock bx W W') (a₁ x) W)
    (hdone : ∀ (W : World), I xs W → W.heap[w.heap.size]? = some (.deferred (some [])) → Q .normal { a with defers := { target := .collected w.heap.size, args := #[] } :: a.defers } W) :
    (Code.rangeFunc g ps assign body).wpIn Fence.wide 0 P Q a w := by
  refine wpIn_rangeFunc ?_
  intro fn hfn
  obtain ⟨rec, hrec⟩ : ∃ rec : LoopState → Option Code → Loop, rec = fun st pe => { state := st, pending := pe, fn, tmps := a.tmps, params := ps, assign, body, defers := w.heap.size } := ⟨_, rfl⟩
  obtain ⟨W1, hW1⟩ : ∃ W1, (w.alloc (.deferred (some []))).alloc (.loop (rec .ready none)) = W1 := ⟨_, rfl⟩
  have hL1 : W1.heap[w.heap.size + 1]? = some (.loop (rec .ready none)) := by
    rw [← hW1]; have := World.alloc_heap_new (w.alloc (.deferred (some []))) (.loop (rec .ready none)); rwa [World.size_alloc] at this
  have hK1 : W1.heap[w.heap.size]? = some (.deferred (some [])) := by
    rw [← hW1]; exact (Below.heap_alloc _ _ _ (by simp)).trans (World.alloc_heap_new w _)
  have hI1 : I [] W1 := by rw [← hW1]; exact hI.alloc _ (hI.alloc _ h0)
  have hB1 : W1.heap[bx]? = w.heap[bx]? := by
    rw [← hW1]; exact (Below.heap_alloc _ _ _ (by simp; omega)).trans (Below.heap_alloc _ _ _ hbx)
  refine ⟨w.heap.size + 1, [{ target := .collected w.heap.size, args := #[] }], W1, { target := .fn (.func gf) lb, args := #[.func (.yield (w.heap.size + 1)) #[] #[]] }, W1, gf,
    #[.func (.yield (w.heap.size + 1)) #[] #[]] ++ lb, W1, ?_, ?_, fun _ _ => trivial, ?_, fun h => by simp [Fence.wide] at h, ?_⟩
  · rw [← hW1, hrec]; exact run_enterLoop_outer _ _ _ _ _
  · simp only [resolve, hg]
    simp [go_sem]
  · simp [invoke, go_sem, eg]
  · refine (hiter (w.heap.size + 1)
      (fun pre W => I pre W ∧ W.heap[w.heap.size + 1]? = some (.loop (rec .ready none)) ∧ W.heap[w.heap.size]? = some (.deferred (some [])))
      W1
      (fun pre W u v hs hu => ⟨hIs pre W u v hs.1 hu, (Below.heap_setCell _ _ _ _ (by show _ ≠ bx; omega)).trans hs.2.1, (Below.heap_setCell _ _ _ _ (by show _ ≠ bx; omega)).trans hs.2.2⟩)
      ?_ hB1 ⟨hI1, hL1, hK1⟩).mono ?_
    · rintro pre x u W ⟨hi, hl, hk⟩ hu hpre
      have hlt : w.heap.size + 1 < W.heap.size := (Array.getElem?_eq_some_iff.1 hl).1
      have hy := run_yield (P := P) (args := encs x) hl (by rw [hrec]; exact hps x)
      rw [hrec] at hy
      rw [hT x] at hy
      refine ⟨fn, _, assign, body, hy, roundIn_of_wpIn hfn (hassign _ x W _ ⟨_, run_beginRound hl (by rw [hrec]), ?_⟩)⟩
      have hl2 : (W.putObj (w.heap.size + 1) (.loop { rec .ready none with state := .busy })).heap[w.heap.size + 1]? = some (.loop { rec .ready none with state := .busy }) := World.putObj_heap_same hlt
      have hk2 : (W.putObj (w.heap.size + 1) (.loop { rec .ready none with state := .busy })).heap[w.heap.size]? = some (.deferred (some [])) := (World.putObj_heap_other (by omega)).trans hk
      have hb2 : (W.putObj (w.heap.size + 1) (.loop { rec .ready none with state := .busy })).heap[bx]? = W.heap[bx]? := World.putObj_heap_other (by omega)
      refine wpIn_mono (hbody _ pre x u _ (hI.putObj _ hi (by omega) hl rfl) (hb2.trans hu) hpre) ?_
      rintro e a3 W3 ⟨rfl, hi3, hk3, hb3⟩
      have hl3 := hk3.same _ _ hl2 rfl
      have hend := run_endRound (P := P) none hl3
      rw [hrec] at hend
      rw [hrec] at hl3
      refine ⟨_, _, hend, rfl, ⟨?_, ?_, ?_⟩, ?_⟩
      · exact hI.putObj _ hi3 (by omega) hl3 rfl
      · rw [hrec]; exact World.putObj_heap_same (Array.getElem?_eq_some_iff.1 hl3).1
      · exact (World.putObj_heap_other (by omega)).trans (hk3.same _ _ hk2 rfl)
      · exact (World.putObj_heap_other (by omega)).trans (hb3.trans hb2)
    · rintro e W2 ⟨⟨v, rfl⟩, hi, hl, hk⟩
      refine ⟨none, _, by have := run_endLoop (P := P) hl (by rw [hrec]; simp); rw [hrec] at this; exact this, hdone _ (hI.putObj _ hi (by omega) hl rfl) ((World.putObj_heap_other (by omega)).trans hk)⟩

/-- A block of one cell lies as it lay while something that is no cells turns. -/
theorem one_kept {W W' : World} {row : Option Nat} {b : Nat} {cs : Array Value} {t : TypeId} {fz : Nat × Nat} (h : W.heap[b]? = some (.cells cs t fz)) (hg : W.grownBy W' row)
    (hr : ∀ r, row = some r → ∃ o : Obj, W.heap[r]? = some o ∧ o.isCells = false) : W'.heap[b]? = some (.cells cs t fz) :=
  (grownBy_keeps_cells hg hr h rfl).trans h

/-- What is owned stays owned while something that is no cells turns. -/
theorem own_kept {W W' : World} {row : Option Nat} {base e s n : Nat} {v : Value} {xs : List Value} (h : W.ownsRow base e s v n xs) (hg : W.grownBy W' row)
    (hr : ∀ r, row = some r → ∃ o : Obj, W.heap[r]? = some o ∧ o.isCells = false) : W'.ownsRow base e s v n xs := by
  obtain ⟨hl, h2⟩ := h
  refine ⟨hl, ?_⟩
  rcases h2 with h0 | ⟨g, cap, cur, hv, hb, hh, r⟩
  · exact .inl h0
  · exact .inr ⟨g, cap, cur, hv, hb, one_kept hh hg hr, r⟩

/-- Below block B nothing turns while something from B on turns that is no cells. -/
theorem below_kept {w W W' : World} {B : Nat} {row : Option Nat} (h : Below B w W) (hg : W.grownBy W' row) (hr : ∀ r, row = some r → B ≤ r) (hB : B ≤ W.heap.size) : Below B w W' := h.grown hg hB hr

/-- A row that is owned and a block of cells of another type are not the same block. -/
theorem own_ne_block {w : World} {base e s n b : Nat} {v : Value} {xs : List Value} {cs : Array Value} {t : TypeId} {fz : Nat × Nat} (h : w.ownsRow base e s v n xs) (hb : w.heap[b]? = some (.cells cs t fz)) (hne : e ≠ t) : v.ownBlock ≠ some b := by
  rcases h.2 with ⟨rfl, _⟩ | ⟨g, cap, cur, rfl, _, hh, _⟩
  · simp [Value.ownBlock]
  · intro he
    have : g = b := by simpa [Value.ownBlock] using he
    subst this
    rw [hh] at hb
    injection hb with hb
    injection hb with _ ht
    exact hne ht

/-- A block lies on where an append has turned another one. -/
theorem box_after {W w1 : World} {o ob : Obj} {b : Nat} {row : Option Nat} (hg : (W.alloc o).grownBy w1 row) (hb : W.heap[b]? = some ob) (hne : row ≠ some b) : w1.heap[b]? = some ob := by
  have hlt : b < W.heap.size := lt_of_block hb
  exact (hg.block b (by simp; omega) (fun e => hne e.symm)).trans ((Below.heap_alloc W o b hlt).trans hb)
theorem keeps_after {W w1 : World} {cs : Array Value} {e : TypeId} {b : Nat} {row : Option Nat} (hg : (W.alloc (.cells cs e)).grownBy w1 row) (hlt : b < W.heap.size) (hne : row ≠ some b) : KeepsBlock b W w1 :=
  (hg.block b (by simp; omega) (fun e => hne e.symm)).trans (Below.heap_alloc W _ b hlt)
theorem others_after {W w1 : World} {base e s n : Nat} {v : Value} {xs : List Value} {cs : Array Value} {t : TypeId} (hg : (W.alloc (.cells cs t)).grownBy w1 v.ownBlock) (ho : (W.alloc (.cells cs t)).ownsRow base e s v n xs) : KeepsOthers W w1 :=
  (KeepsOthers.alloc W _).trans (KeepsOthers.of_grownBy hg (fun j o hj hj2 => by
    rcases ho.2 with ⟨rfl, _⟩ | ⟨g, cap, cur, rfl, _, hh, _⟩
    · simp [Value.ownBlock] at hj
    · have : g = j := by simpa [Value.ownBlock] using hj
      subst this
      rw [hh] at hj2
      cases hj2
      rfl))
end Go.Proofs.Ythidfmkmklnhhaa
