/- What readers and writers are in memory; Clone. -/
import Derived.Test.YtgngeachgkappaaProg
import Derived.Test.YtgngeachgkappaaQ6
import Derived.Test.YtgngeachgkappaaWv
import Derived.WalkLawsBesides
import Derived.LaidEqlPtr
namespace Go.Proofs.Ytgngeachgkappaa
open Go.RowKit
set_option linter.unusedVariables false

theorem eql_nil8 (w : World) (A : Option Addr) (n c : Nat) : (binOp .eql 31 (.slice A n c) (.slice none 0 0)).run Try.prog w = .ok (.bool A.isNone) w := Lib.run_eql_slice_nil w 31 5 A n c 0 0 Try.underlying31
theorem eql_selfR (w : World) (a : Addr) : (binOp .eql 38 (.pointer (some a)) (.pointer (some a))).run Try.prog w = .ok (.bool true) w := by
  obtain ⟨j, hj⟩ := Option.isSome_iff_exists.1 (show (Try.prog.info? 77).isSome = true by kernel_rfl)
  exact run_eql_ptr_same w a Try.underlying38 hj
theorem eql_selfW (w : World) (a : Addr) : (binOp .eql 25 (.pointer (some a)) (.pointer (some a))).run Try.prog w = .ok (.bool true) w := by
  obtain ⟨j, hj⟩ := Option.isSome_iff_exists.1 (show (Try.prog.info? 71).isSome = true by kernel_rfl)
  exact run_eql_ptr_same w a Try.underlying25 hj

/-- All as it was but block G; there may be new blocks. -/
structure Keeps (G : Nat) (w w' : World) : Prop where
  os : w'.os = w.os
  tape : w'.tape = w.tape
  output : w'.output = w.output
  size : w.heap.size ≤ w'.heap.size
  block : ∀ k, k < w.heap.size → k ≠ G → w'.heap[k]? = w.heap[k]?
theorem setCell_size (w : World) (a : Addr) (v : Value) : (w.setCell a v).heap.size = w.heap.size := by simp [World.setCell]
theorem lt_of_heap {w : World} {p : Nat} {o : Obj} (h : w.heap[p]? = some o) : p < w.heap.size := by
  rcases Nat.lt_or_ge p w.heap.size with h' | h'
  · exact h'
  · rw [Array.getElem?_eq_none h'] at h; cases h
theorem Keeps.refl (G : Nat) (w : World) : Keeps G w w := ⟨rfl, rfl, rfl, Nat.le_refl _, fun _ _ _ => rfl⟩
theorem Keeps.trans {G : Nat} {a b c : World} (h : Keeps G a b) (k : Keeps G b c) : Keeps G a c :=
  ⟨k.os.trans h.os, k.tape.trans h.tape, k.output.trans h.output, Nat.le_trans h.size k.size, fun i hi hg => (k.block i (Nat.lt_of_lt_of_le hi h.size) hg).trans (h.block i hi hg)⟩
theorem Keeps.of_below {G : Nat} {w w' : World} (h : Below w.heap.size w w') : Keeps G w w' := ⟨h.os, h.tape, h.output, h.size, fun i hi _ => h.block i hi⟩
theorem Keeps.set (G k : Nat) (w : World) (v : Value) : Keeps G w (w.setCell ⟨G, k, none⟩ v) := ⟨rfl, rfl, rfl, by rw [setCell_size]; exact Nat.le_refl _, fun i hi hg => Below.heap_setCell _ _ _ _ hg⟩
theorem Keeps.below {G B : Nat} {w w' : World} (h : Keeps G w w') (hG : B ≤ G) (hB : B ≤ w.heap.size) : Below B w w' := ⟨h.os, h.tape, h.output, h.size, fun i hi => h.block i (by omega) (by omega)⟩
/-- A view whose block is another one. -/
def Off (G : Nat) (A : Option Addr) : Prop := ∀ b, A = some b → b.block ≠ G
theorem Sees.keeps {w w' : World} {G s n c : Nat} {A : Option Addr} {xs : List Value} (h : Sees w s A n c xs) (hk : Keeps G w w') (h1 : Off G A) : Sees w' s A n c xs :=
  ⟨h.len, h.cap, h.capm, h.nil_, fun k u hu => by
    obtain ⟨b', o', hA, hc⟩ := h.look k u hu
    exact ⟨b', o', hA, (World.cell?_of_block (a := ⟨b', o' + k, none⟩) (hk.block b' (World.block_lt_of_cell? _ _ hc) (h1 _ hA))).trans hc⟩⟩

/-- Block p holds a reader of the bytes bs, at a place. -/
structure Rdr (w : World) (p : Nat) (A : Option Addr) (n c : Nat) (bs : List Int) (at_ : Nat) : Prop where
  obj : w.heap[p]? = some (.cells #[.slice A n c, .int .i64 (at_ : Int), .pointer (some ⟨p, 0, none⟩)] 77 (0, 0))
  row : Sees w 1 A n c (bs.map (Value.int .u8))
  off : Off p A
  le : at_ ≤ n
section
variable {w : World} {p n c at_ : Nat} {A : Option Addr} {bs : List Int}
theorem Rdr.plt (h : Rdr w p A n c bs at_) : p < w.heap.size := lt_of_heap h.obj
theorem Rdr.c0 (h : Rdr w p A n c bs at_) : w.cell? ⟨p, 0, none⟩ = some (.slice A n c) := by simp [World.cell?, h.obj]
theorem Rdr.c1 (h : Rdr w p A n c bs at_) : w.cell? ⟨p, 1, none⟩ = some (.int .i64 (at_ : Int)) := by simp [World.cell?, h.obj]
theorem Rdr.c2 (h : Rdr w p A n c bs at_) : w.cell? ⟨p, 2, none⟩ = some (.pointer (some ⟨p, 0, none⟩)) := by simp [World.cell?, h.obj]
theorem Rdr.f1 (h : Rdr w p A n c bs at_) : w.frozen? ⟨p, 1, none⟩ = false := by simp [World.frozen?, h.obj]
theorem Rdr.below {w' : World} (h : Rdr w p A n c bs at_) (hb : Below w.heap.size w w') : Rdr w' p A n c bs at_ :=
  ⟨by rw [hb.block p h.plt]; exact h.obj, h.row.below hb (Nat.le_refl _), h.off, h.le⟩
theorem Rdr.len (h : Rdr w p A n c bs at_) : bs.length = n := h.row.length
theorem Rdr.move (h : Rdr w p A n c bs at_) (q : Nat) (hq : q ≤ n) : Rdr (w.setCell ⟨p, 1, none⟩ (.int .i64 (q : Int))) p A n c bs q :=
  ⟨by have := heap_setCell_same w p 1 _ _ (.int .i64 (q : Int)) h.obj; simpa using this, h.row.keeps (Keeps.set p 1 w _) h.off, h.off, hq⟩
end

/-- b[lo:hi] -/
theorem run_cutm {P : Program} {t e : TypeId} {z : Value} {s bytes : Nat} (E : Elem P t e z s bytes) (A : Option Addr) (n c lo hi : Nat) {HI : Int} (hHI : HI = (hi : Int)) (h1 : lo ≤ hi) (h2 : hi ≤ c) (w : World) :
    (Instr.slice t (.slice A n c) (some (.int .i64 (lo : Int))) (some (.int .i64 HI)) none).run P w = .ok (.slice (cutA A c lo s) (hi - lo) (c - lo)) w := by
  subst hHI
  obtain ⟨ht, hz, hs, i, hi', hz0, hz1, hz2⟩ := E
  have hb : (Instr.sliceBound (.int .i64 (hi : Int)) c .sliceAcap).run P w = .ok hi w := by
    have := run_sliceBound (P := P) (w := w) .i64 (hi : Int) c .sliceAcap (by omega) (by omega)
    simpa using this
  have hb2 : (Instr.sliceBound (.int .i64 (lo : Int)) hi .sliceB).run P w = .ok lo w := by
    have := run_sliceBound (P := P) (w := w) .i64 (lo : Int) hi .sliceB (by omega) (by omega)
    simpa using this
  simp [Instr.slice, run_underlying ht, Instr.sliceBounds, hb, hb2, sizeOf, typeInfo, hi', hz1, cutA]

set_option maxRecDepth 20000 in
theorem Clone8_any (A : Option Addr) (n c : Nat) (l : List Int) (w : World) (h : Sees w 1 A n c (l.map (Value.int .u8))) (hn : n ≤ 100000000) :
    Calls Try.prog 38 #[.slice A n c] w fun e w' => ∃ A' c', e = .returned (.slice A' n c') ∧ w'.ownsRow w.heap.size 5 1 (.slice A' n c') n (l.map (Value.int .u8)) ∧ Below w.heap.size w w' := by
  have hE := eql_nil8
  cases A with
  | none =>
    have hc := h.nil_ rfl
    have hn0 : n = 0 := by have := h.cap; omega
    subst hn0 hc
    obtain rfl : l = [] := by have := h.length; exact List.eq_nil_of_length_eq_zero this
    go_enter Try.func38, Try.ntmps38
    go_wp2
    go_ret
    exact ⟨none, 0, rfl, World.ownsRow_nil _ _ _ _, Below.refl _ _⟩
  | some a =>
    go_enter Try.func38, Try.ntmps38
    go_wp2_with (at_builtin; refine wpList_app E_u8 rfl _ _ rfl rfl (World.ownsRow_lit (base := w.heap.size) (e := 5) (size := 1) w #[] 0 (Nat.le_refl _) (by decide) rfl) rfl (h.below ((Below.refl _ _).alloc (Nat.le_refl _) _) (Nat.le_refl _)) (ints1 _ _) (by simp [maxLen]; omega) (by omega) (by simp) ?_; intro A2 c2 w2 hown2 hg2 hb2)
    go_ret
    have hb := ((Below.refl w.heap.size w).alloc (Nat.le_refl _) (.cells #[] 5)).trans hb2
    rw [Nat.zero_add] at hown2
    exact ⟨A2, c2, by simp, by simpa using hown2, hb⟩

theorem own_off {w : World} {base e s n c G : Nat} {A : Option Addr} {xs : List Value} (h : w.ownsRow base e s (.slice A n c) n xs) (hG : G < base) : Off G A := by
  intro b hb
  subst hb
  have := (h.lt b.block rfl).1
  omega
theorem own_off' {w : World} {base e s n c G : Nat} {A : Option Addr} {xs : List Value} (h : w.ownsRow base e s (.slice A n c) n xs) (hG : w.heap.size ≤ G) : Off G A := by
  intro b hb
  subst hb
  have := (h.lt b.block rfl).2
  omega
end Go.Proofs.Ytgngeachgkappaa
