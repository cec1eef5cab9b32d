/- What a writer is in memory; walks: writers. -/
import Derived.Test.YtgngeachgkappaaProg
import Derived.Test.YtgngeachgkappaaWf
import Derived.Test.YtgngeachgkappaaWn
namespace Go.Proofs.Ytgngeachgkappaa
open Go.RowKit
set_option linter.unusedVariables false

/-- Block p holds a writer of a limit, with the bytes bs. -/
structure Wtr (w : World) (base p : Nat) (A : Option Addr) (n c : Nat) (bs : List Int) (lim : Nat) : Prop where
  obj : w.heap[p]? = some (.cells #[.slice A n c, .int .i64 (lim : Int), .pointer (some ⟨p, 0, none⟩)] 71 (0, 0))
  own : w.ownsRow base 5 1 (.slice A n c) n (bs.map (Value.int .u8))
  off : Off p A
  bp : base ≤ p
  le : n ≤ lim
  lm : lim ≤ 16777216
/-- All as it was but block p and what a row lay in; there may be new blocks. -/
structure Both (p : Nat) (r : Option Nat) (w w' : World) : Prop where
  os : w'.os = w.os
  tape : w'.tape = w.tape
  output : w'.output = w.output
  size : w.heap.size ≤ w'.heap.size
  block : ∀ k, k < w.heap.size → k ≠ p → some k ≠ r → w'.heap[k]? = w.heap[k]?
theorem Both.refl (p : Nat) (r : Option Nat) (w : World) : Both p r w w := ⟨rfl, rfl, rfl, Nat.le_refl _, fun _ _ _ _ => rfl⟩
theorem Both.trans {p : Nat} {r : Option Nat} {a b c : World} (h : Both p r a b) (k : Both p r b c) : Both p r a c :=
  ⟨k.os.trans h.os, k.tape.trans h.tape, k.output.trans h.output, Nat.le_trans h.size k.size, fun i hi h1 h2 => (k.block i (Nat.lt_of_lt_of_le hi h.size) h1 h2).trans (h.block i hi h1 h2)⟩
theorem Both.of_below {p : Nat} {r : Option Nat} {w w' : World} (h : Below w.heap.size w w') : Both p r w w' := ⟨h.os, h.tape, h.output, h.size, fun i hi _ _ => h.block i hi⟩
theorem Both.of_keeps {p : Nat} {r : Option Nat} {w w' : World} (h : Keeps p w w') : Both p r w w' := ⟨h.os, h.tape, h.output, h.size, fun i hi h1 _ => h.block i hi h1⟩
theorem Both.of_grown {p : Nat} {r : Option Nat} {w w' : World} (h : w.grownBy w' r) : Both p r w w' := ⟨h.os, h.tape, h.output, h.size, fun i hi _ h2 => h.block i hi h2⟩
theorem Both.below {p B : Nat} {r : Option Nat} {w w' : World} (h : Both p r w w') (hp : B ≤ p) (hr : ∀ q, r = some q → B ≤ q) (hB : B ≤ w.heap.size) : Below B w w' :=
  ⟨h.os, h.tape, h.output, h.size, fun i hi => h.block i (by omega) (by omega) (fun e => by have := hr i e.symm; omega)⟩
section
variable {w : World} {base p n c lim : Nat} {A : Option Addr} {bs : List Int}
theorem Wtr.plt (h : Wtr w base p A n c bs lim) : p < w.heap.size := lt_of_heap h.obj
theorem Wtr.c0 (h : Wtr w base p A n c bs lim) : w.cell? ⟨p, 0, none⟩ = some (.slice A n c) := by simp [World.cell?, h.obj]
theorem Wtr.c1 (h : Wtr w base p A n c bs lim) : w.cell? ⟨p, 1, none⟩ = some (.int .i64 (lim : Int)) := by simp [World.cell?, h.obj]
theorem Wtr.c2 (h : Wtr w base p A n c bs lim) : w.cell? ⟨p, 2, none⟩ = some (.pointer (some ⟨p, 0, none⟩)) := by simp [World.cell?, h.obj]
theorem Wtr.f0 (h : Wtr w base p A n c bs lim) : w.frozen? ⟨p, 0, none⟩ = false := by simp [World.frozen?, h.obj]
theorem Wtr.below {w' : World} (h : Wtr w base p A n c bs lim) (hb : Below w.heap.size w w') : Wtr w' base p A n c bs lim :=
  ⟨by rw [hb.block p h.plt]; exact h.obj, own_below h.own hb (Nat.le_refl _), h.off, h.bp, h.le, h.lm⟩
theorem Wtr.len (h : Wtr w base p A n c bs lim) : bs.length = n := by have := h.own.1; simpa using this
theorem Wtr.row (h : Wtr w base p A n c bs lim) : ∀ q, (Value.slice A n c).ownBlock = some q → base ≤ q := fun q hq => (h.own.lt q hq).1
theorem Wtr.both {w' : World} (h : Wtr w base p A n c bs lim) (hb : Both p (Value.slice A n c).ownBlock w w') (hB : base ≤ w.heap.size) : Below base w w' := hb.below h.bp h.row hB
end

set_option maxRecDepth 20000 in
theorem NewWriter_ok (N : Nat) (w : World) (h : N ≤ 16777216) :
    Calls Try.prog 12 #[.int .i64 (N : Int)] w fun e w' => ∃ p, e = .returned (.tuple #[.pointer (some ⟨p, 0, none⟩), .int .i64 0]) ∧ Wtr w' w.heap.size p none 0 0 [] N ∧ Below w.heap.size w w' := by
  have d1 : decide ((N : Int) < 0) = false := by simp
  have d2 : decide ((16777216 : Int) < (N : Int)) = false := by simp; omega
  have HN := Lib.hid h
  clear h
  go_enter Try.func12, Try.ntmps12
  go_wp2
  go_ret2
  exact ⟨w.heap.size, rfl, ⟨heap_alloc_new _ _, World.ownsRow_nil _ _ _ _, (fun b hb => by cases hb), Nat.le_refl _, Nat.zero_le _, HN.out⟩, (Below.refl _ _).alloc (Nat.le_refl _) _⟩

set_option maxRecDepth 20000 in
theorem NewWriter_bad (N : Int) (w : World) (h : N < 0 ∨ 16777216 < N) :
    Calls Try.prog 12 #[.int .i64 N] w fun e w' => e = .returned (.tuple #[.pointer none, .int .i64 2]) ∧ w = w' := by
  by_cases h0 : N < 0
  · have d1 : decide (N < 0) = true := by simpa using h0
    clear h h0
    go_enter Try.func12, Try.ntmps12
    go_wp2
    go_ret2
    exact ⟨rfl, rfl⟩
  · have d1 : decide (N < 0) = false := by simpa using h0
    have d2 : decide ((16777216 : Int) < N) = true := by simp; omega
    clear h h0
    go_enter Try.func12, Try.ntmps12
    go_wp2
    go_ret2
    exact ⟨rfl, rfl⟩

set_option maxRecDepth 20000 in
theorem isW_any (base p n c lim : Nat) (A : Option Addr) (bs : List Int) (w : World) (h : Wtr w base p A n c bs lim) :
    Calls Try.prog 37 #[.pointer (some ⟨p, 0, none⟩)] w fun e w' => e = .returned (.bool true) ∧ w = w' := by
  have h2 := h.c2
  have hE := eql_selfW
  go_enter Try.func37, Try.ntmps37
  go_wp2
  go_ret
  exact ⟨rfl, rfl⟩

set_option maxRecDepth 20000 in
theorem roomW_any (base p n c lim : Nat) (A : Option Addr) (bs : List Int) (w : World) (h : Wtr w base p A n c bs lim) :
    Calls Try.prog 40 #[.pointer (some ⟨p, 0, none⟩)] w fun e w' => e = .returned (.int .i64 ((lim - n : Nat) : Int)) ∧ ∃ d, w' = w.drewN d := by
  have h0 := h.c0
  have h1 := h.c1
  have hle := h.le
  have hlm := h.lm
  have hl2 : (lim : Int) ≤ 16777216 := by omega
  have ha2 : (n : Int) ≤ (lim : Int) := by omega
  clear h hlm
  by_cases hlt : n < lim
  · have HE : Hid ((lim : Int) - (n : Int) = ((lim - n : Nat) : Int)) := Lib.hid (by omega)
    have d1 : decide ((n : Int) < (lim : Int)) = true := by simp; omega
    have d1' : decide (n < lim) = true := by simp; omega
    clear hle hlt
    go_enter Try.func40, Try.ntmps40
    go_wp2_with fail
    go_quiet (fail)
    have g0 : (w.drewN nq).cell? ⟨p, 0, none⟩ = some (.slice A n c) := h0
    have g1 : (w.drewN nq).cell? ⟨p, 1, none⟩ = some (.int .i64 (lim : Int)) := h1
    have B1 : Hid (∃ d, w.drewN nq = w.drewN d) := Lib.hid ⟨_, rfl⟩
    clear h0 h1
    generalize w.drewN nq = w2 at g0 g1 B1 ⊢
    go_wp2_with fail
    go_quiet (fail)
    go_wp2
    go_ret
    obtain ⟨d, hd⟩ := B1.out
    subst hd
    exact ⟨by rw [← HE.out]; rfl, _, World.drewN_drewN _ _ _⟩
  · obtain rfl : n = lim := by omega
    have d1 : decide ((n : Int) < (n : Int)) = false := by simp
    have d1' : decide (n < n) = false := by simp
    clear hle hlt ha2
    go_enter Try.func40, Try.ntmps40
    go_wp2_with fail
    go_quiet (fail)
    have g0 : (w.drewN nq).cell? ⟨p, 0, none⟩ = some (.slice A n c) := h0
    have g1 : (w.drewN nq).cell? ⟨p, 1, none⟩ = some (.int .i64 (n : Int)) := h1
    have B1 : Hid (∃ d, w.drewN nq = w.drewN d) := Lib.hid ⟨_, rfl⟩
    clear h0 h1
    generalize w.drewN nq = w2 at g0 g1 B1 ⊢
    go_wp2_with fail
    go_quiet (fail)
    go_wp2
    go_ret
    obtain ⟨d, hd⟩ := B1.out
    subst hd
    exact ⟨by rw [show ((n - n : Nat) : Int) = 0 by omega]; rfl, _, World.drewN_drewN _ _ _⟩

set_option maxRecDepth 20000 in
theorem LenW_any (base p n c lim : Nat) (A : Option Addr) (bs : List Int) (w : World) (h : Wtr w base p A n c bs lim) :
    Calls Try.prog 14 #[.pointer (some ⟨p, 0, none⟩)] w fun e w' => e = .returned (.int .i64 (n : Int)) ∧ w = w' := by
  have h0 := h.c0
  have HW := Lib.hid h
  clear h
  go_enter Try.func14, Try.ntmps14
  go_wp2_with (go_at_call 37; refine (isW_any _ _ _ _ _ _ _ _ HW.out).mono ?_; rintro e w1 ⟨rfl, rfl⟩)
  go_ret
  exact ⟨rfl, rfl⟩

set_option maxRecDepth 20000 in
theorem OutW_any (base p n c lim : Nat) (A : Option Addr) (bs : List Int) (w : World) (h : Wtr w base p A n c bs lim) :
    Calls Try.prog 15 #[.pointer (some ⟨p, 0, none⟩)] w fun e w' => ∃ A' c', e = .returned (.slice A' n c') ∧ w'.ownsRow w.heap.size 5 1 (.slice A' n c') n (bs.map (Value.int .u8)) ∧ Below w.heap.size w w' := by
  have h0 := h.c0
  have HW := Lib.hid h
  clear h
  go_enter Try.func15, Try.ntmps15
  go_wp2_with (first
    | (go_at_call 37; refine (isW_any _ _ _ _ _ _ _ _ HW.out).mono ?_; rintro e w1 ⟨rfl, rfl⟩)
    | (go_at_call 38; refine (Clone8_any _ _ _ bs _ (sees_own HW.out.own) (by have h1 := HW.out.le; have h2 := HW.out.lm; omega)).mono ?_; rintro e w1 ⟨A1, c1, rfl, o1, b1⟩))
  go_ret
  exact ⟨_, _, rfl, o1, b1⟩
end Go.Proofs.Ytgngeachgkappaa
