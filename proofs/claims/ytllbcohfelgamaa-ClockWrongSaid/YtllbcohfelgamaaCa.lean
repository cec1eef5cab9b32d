/- What clocks are in memory. -/
import Derived.Test.YtllbcohfelgamaaProg
import Derived.Test.YtllbcohfelgamaaQ4
namespace Go.Proofs.Ytllbcohfelgamaa
open Go.RowKit
set_option linter.unusedVariables false

theorem E_int : Elem Try.prog 29 3 (.int .i64 0) 1 8 := elem_of Try.underlying29 (by kernel_rfl) rfl (by decide)

/-- Block p holds clocks, whose times are the own row xs in block g. -/
structure Clk (w : World) (B p g c n : Nat) (xs : List Int) : Prop where
  ne : p ≠ g
  bp : B ≤ p
  obj : w.heap[p]? = some (.cells #[.pointer (some ⟨p, 0, none⟩), .slice (some ⟨g, 0, none⟩) n c] 61 (0, 0))
  row : w.ownsRow B 3 1 (.slice (some ⟨g, 0, none⟩) n c) n (xs.map (Value.int .i64))
  pos : 0 < n

section
variable {w : World} {B p g c n : Nat} {xs : List Int}
theorem lt_of_heap {w : World} {p : Nat} {o : Obj} (h : w.heap[p]? = some o) : p < w.heap.size := by
  rcases Nat.lt_or_ge p w.heap.size with h' | h'
  · exact h'
  · rw [Array.getElem?_eq_none h'] at h; cases h
theorem Clk.plt (h : Clk w B p g c n xs) : p < w.heap.size := lt_of_heap h.obj
theorem Clk.bg (h : Clk w B p g c n xs) : B ≤ g := by
  obtain ⟨_, h2⟩ := h.row
  rcases h2 with ⟨e, _⟩ | ⟨g', cap, cur, hv, hg, _⟩
  · cases e
  · cases hv; exact hg
theorem Clk.glt (h : Clk w B p g c n xs) : g < w.heap.size := by
  obtain ⟨_, h2⟩ := h.row
  rcases h2 with ⟨e, _⟩ | ⟨g', cap, cur, hv, hg, hh, _⟩
  · cases e
  · cases hv; exact lt_of_heap hh
theorem Clk.len (h : Clk w B p g c n xs) : xs.length = n := by have := h.row.1; simpa using this
theorem Clk.self (h : Clk w B p g c n xs) : w.cell? ⟨p, 0, none⟩ = some (.pointer (some ⟨p, 0, none⟩)) := by simp [World.cell?, h.obj]
theorem Clk.times (h : Clk w B p g c n xs) : w.cell? ⟨p, 1, none⟩ = some (.slice (some ⟨g, 0, none⟩) n c) := by simp [World.cell?, h.obj]
theorem Clk.at_ (h : Clk w B p g c n xs) {k : Nat} (hk : k < n) : w.cell? ⟨g, k, none⟩ = some (.int .i64 (xs.getD k 0)) := (own_cellK h.row hk).1
theorem Clk.free (h : Clk w B p g c n xs) {k : Nat} (hk : k < n) : w.frozen? ⟨g, k, none⟩ = false := (own_cellK h.row hk).2
theorem Clk.sees (h : Clk w B p g c n xs) : Sees w 1 (some ⟨g, 0, none⟩) n c (xs.map (Value.int .i64)) := sees_own h.row
theorem Clk.below {w' : World} (h : Clk w B p g c n xs) (hb : Below w.heap.size w w') : Clk w' B p g c n xs :=
  ⟨h.ne, h.bp, by rw [hb.block p h.plt]; exact h.obj, own_below h.row hb (Nat.le_refl _), h.pos⟩
theorem setCell_size (w : World) (a : Addr) (v : Value) : (w.setCell a v).heap.size = w.heap.size := by simp [World.setCell]
theorem Clk.set (h : Clk w B p g c n xs) (k : Nat) (v : Int) : Clk (w.setCell ⟨g, k, none⟩ (.int .i64 v)) B p g c n (xs.set k v) :=
  ⟨h.ne, h.bp, by rw [Below.heap_setCell _ _ _ _ h.ne]; exact h.obj, own_setK h.row k v, h.pos⟩
theorem Clk.other (h : Clk w B p g c n xs) {g' : Nat} (h1 : g' ≠ p) (h2 : g' ≠ g) (k : Nat) (v : Value) : Clk (w.setCell ⟨g', k, none⟩ v) B p g c n xs :=
  ⟨h.ne, h.bp, by rw [Below.heap_setCell _ _ _ _ (fun e => h1 e.symm)]; exact h.obj, ownsRow_setCell_other h.row (by simp [Value.ownBlock]; exact fun e => h2 e.symm) _, h.pos⟩
theorem Clk.base (h : Clk w B p g c n xs) {B' : Nat} (hB : B' ≤ B) : Clk w B' p g c n xs := ⟨h.ne, Nat.le_trans hB h.bp, h.obj, own_base h.row hB, h.pos⟩
/-- What is as behind a store into a block of the call's own is below that block as it was. -/
theorem below_set {w w' : World} {B : Nat} {a : Addr} {v : Value} (hb : Below (w.setCell a v).heap.size (w.setCell a v) w') (ha : B ≤ a.block) (hB : B ≤ w.heap.size) : Below B w w' :=
  ((Below.refl B w).setCell ha v).trans (hb.mono (by rw [setCell_size]; exact hB))
end
end Go.Proofs.Ytllbcohfelgamaa
