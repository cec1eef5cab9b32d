/- What is handed out stays; awake; made. -/
import Derived.Test.YtgomnifcgaigkaaProg
import Derived.Test.YtgomnifcgaigkaaGh
import Derived.Test.YtgomnifcgaigkaaGs4
namespace Go.Proofs.Ytgomnifcgaigkaa
open Go.RowKit Go.Shelf
set_option linter.unusedVariables false

/-- A row that is not the ring's. -/
def HeldRow (w : World) (TS s : Nat) (v : Value) (n : Nat) (xs : List Value) (p g : Nat) : Prop := ∃ b, w.ownsRow b TS s v n xs ∧ v.ownBlock ≠ some p ∧ v.ownBlock ≠ some g
theorem HeldRow.fresh {w : World} {TS s n b p g : Nat} {v : Value} {xs : List Value} (h : w.ownsRow b TS s v n xs) (hp : p < b) (hg : g < b) : HeldRow w TS s v n xs p g := by
  refine ⟨b, h, ?_, ?_⟩ <;>
  · rcases h.2 with ⟨rfl, _⟩ | ⟨q, cp, cur, rfl, hq, _⟩
    · simp [Value.ownBlock]
    · simp [Value.ownBlock]; omega
theorem HeldRow.spared {w w' : World} {TS s n p g g' : Nat} {v : Value} {xs : List Value} (h : HeldRow w TS s v n xs p g) (hs : Spared p g w w') (hg : g' = g ∨ w.heap.size ≤ g') : HeldRow w' TS s v n xs p g' := by
  obtain ⟨b, ⟨r1, r2⟩, h1, h2⟩ := h
  rcases r2 with ⟨rfl, h0⟩ | ⟨q, cp, cur, rfl, hq, hh, rest⟩
  · exact ⟨b, ⟨r1, .inl ⟨rfl, h0⟩⟩, by simp [Value.ownBlock], by simp [Value.ownBlock]⟩
  · have e1 : q ≠ p := fun e => h1 (by simp [Value.ownBlock, e])
    have e2 : q ≠ g := fun e => h2 (by simp [Value.ownBlock, e])
    have e3 := lt_of_heap hh
    refine ⟨b, ⟨r1, .inr ⟨q, cp, cur, rfl, hq, (hs.block q e3 e1 e2).trans hh, rest⟩⟩, h1, ?_⟩
    simp [Value.ownBlock]
    rcases hg with rfl | hg <;> omega
theorem HeldRow.below {w w' : World} {TS s n p g N : Nat} {v : Value} {xs : List Value} (h : HeldRow w TS s v n xs p g) (hb : Below N w w') (hN : w.heap.size ≤ N) : HeldRow w' TS s v n xs p g := h.spared (Spared.of_below hb hN) (.inl rfl)
theorem HeldRow.sees {w : World} {TS s n c p g : Nat} {A : Option Addr} {xs : List Value} (h : HeldRow w TS s (.slice A n c) n xs p g) : Sees w s A n c xs := by
  obtain ⟨b, hr, _⟩ := h
  exact sees_own hr

theorem PutS_to (B p g : Nat) (S S' : RS (ByteArray × Int)) (r : Int) (x : ByteArray) (w0 w : World) (h : RngS w B p g S) (hc : Cnt 1000000000 S) (hS : putR (fun o => (x, o)) S = (S', r)) (hb : Below B w0 w) :
    Calls Try.prog 30 #[.pointer (some ⟨p, 0, none⟩), .string x] w fun e w' => ∃ g', e = .returned (.int .i64 r) ∧ RngS w' B p g' S' ∧ (g' = g ∨ w.heap.size ≤ g') ∧ Spared p g w w' ∧ Below B w0 w' := by
  have hB : B ≤ w.heap.size := by have := h.bp; have := h.plt; omega
  refine (PutS_any B p g S x w h hc).mono ?_
  rw [hS]
  rintro e w' ⟨g', h1, h2, h3, h4⟩
  exact ⟨g', h1, h2, h3, h4, h4.below h.bp h.bg hb hB⟩
theorem TakeS_to (B p g : Nat) (S S' : RS (ByteArray × Int)) (k r : Int) (L : List (ByteArray × Int)) (w0 w : World) (h : RngS w B p g S) (hS : takeR k S = (S', L, r)) (hb : Below B w0 w) :
    Calls Try.prog 32 #[.pointer (some ⟨p, 0, none⟩), .int .i64 k] w fun e w' => ∃ A c, e = .returned (.tuple #[.slice A L.length c, .int .i64 r]) ∧ RngS w' B p g S' ∧ HeldRow w' 69 2 (.slice A L.length c) L.length (L.flatMap ceS) p g ∧ Below B w0 w' := by
  have hB : B ≤ w.heap.size := by have := h.bp; have := h.plt; omega
  refine (TakeS_any B p g S k w h).mono ?_
  rw [hS]
  rintro e w' ⟨v, h1, ⟨A, c, rfl, ho⟩, h3, h4⟩
  exact ⟨A, c, h1, h3, HeldRow.fresh ho h.plt h.glt, h4.below h.bp h.bg hb hB⟩
theorem DrainS_to (B p g : Nat) (o ac rf cap : Int) (L : List (ByteArray × Int)) (w0 w : World) (h : RngS w B p g ⟨o, ac, rf, cap, L⟩) (hb : Below B w0 w) :
    Calls Try.prog 33 #[.pointer (some ⟨p, 0, none⟩)] w fun e w' => ∃ A c, e = .returned (.tuple #[.slice A L.length c, .int .i64 o, .int .i64 0]) ∧ RngS w' B p g ⟨0, ac, rf, cap, []⟩ ∧ HeldRow w' 69 2 (.slice A L.length c) L.length (L.flatMap ceS) p g ∧ Below B w0 w' := by
  have hB : B ≤ w.heap.size := by have := h.bp; have := h.plt; omega
  refine (DrainRS_any B p g _ w h).mono ?_
  rintro e w' ⟨v, h1, ⟨A, c, rfl, ho⟩, h3, h4⟩
  exact ⟨A, c, h1, h3, HeldRow.fresh ho h.plt h.glt, h4.below h.bp h.bg hb hB⟩
theorem look2 {w : World} {TS n c p g k : Nat} {A : Option Addr} {xs : List Value} {a b : Value} (h : HeldRow w TS 2 (.slice A n c) n xs p g) (ha : xs[2 * k]? = some a) (hb : xs[2 * k + 1]? = some b) :
    ∃ q, A = some ⟨q, 0, none⟩ ∧ w.cell? ⟨q, 2 * k, none⟩ = some a ∧ w.cell? ⟨q, 2 * k + 1, none⟩ = some b := by
  obtain ⟨b0, hr, _⟩ := h
  have hs := sees_own hr
  rcases hr.2 with ⟨e, h0⟩ | ⟨q, cp, cur, hv, hq, hh, rest⟩
  · have := (List.getElem?_eq_some_iff.1 ha).1
    rw [hr.1, h0] at this
    omega
  · cases hv
    obtain ⟨_, _, e1, c1⟩ := hs.look _ _ ha
    cases e1
    obtain ⟨_, _, e2, c2⟩ := hs.look _ _ hb
    cases e2
    rw [Nat.zero_add] at c1 c2
    exact ⟨q, rfl, c1, c2⟩

set_option maxRecDepth 100000 in
set_option maxHeartbeats 3200000 in
theorem awake_any (w : World) : Calls Try.prog 11 #[] w fun e w' => e = .returned (.bool true) ∧ Below w.heap.size w w' := by
  go_enter Try.func11, Try.ntmps11
  go_wp2_with (first
    | (go_at_call 35; refine (RefusedRS_any _ p _ _ _ r14.out).mono ?_; rintro e w16 ⟨rfl, rfl⟩)
    | (go_at_call 34; refine (AcceptedRS_any _ p _ _ _ r14.out).mono ?_; rintro e w15 ⟨rfl, rfl⟩)
    | (go_at_call 32; have _q := b13; refine (TakeS_to _ p _ _ ⟨0, 4, 3, 2, []⟩ _ 0 [(⟨#[71]⟩, 0)] _ _ r13.out rfl b13).mono ?_; rintro e w14 ⟨A14, c14, rfl, r14, H14, b14⟩; have r14 := Lib.hid r14; obtain ⟨q14, rfl, y0, y1⟩ := look2 (k := 0) H14 rfl rfl; clear H14)
    | (go_at_call 32; have _q := b12; refine (TakeS_to _ p _ _ ⟨0, 4, 3, 2, [(⟨#[71]⟩, 0)]⟩ _ 2 [] _ _ r12.out rfl b12).mono ?_; rintro e w13 ⟨A13, c13, rfl, r13, H13, b13⟩; have r13 := Lib.hid r13; clear H13)
    | (go_at_call_of 30 (Value.string ⟨#[71]⟩); have _q := b11; refine (PutS_to _ p _ _ ⟨0, 4, 3, 2, [(⟨#[71]⟩, 0)]⟩ 0 _ _ _ r11.out (by simp [Cnt]) rfl b11).mono ?_; rintro e w12 ⟨g12, rfl, r12, n12, s12, b12⟩; have r12 := Lib.hid r12; clear n12 s12)
    | (go_at_call 33; have _q := b10; refine (DrainS_to _ p _ 1 3 3 2 [(⟨#[66]⟩, 0), (⟨#[69]⟩, 2)] _ _ r10.out b10).mono ?_; rintro e w11 ⟨A11, c11, rfl, r11, H11, b11⟩; have r11 := Lib.hid r11; obtain ⟨q11, rfl, x0, x1⟩ := look2 (k := 0) H11 rfl rfl; obtain ⟨_, hq, x2, x3⟩ := look2 (k := 1) H11 rfl rfl; cases hq; clear H11)
    | (go_at_call 31; have _q := b9; refine (OpenRS_any _ p _ _ _ r9.out).mono ?_; rintro e w10 ⟨rfl, rfl⟩; have b10 := b9; have r10 := r9)
    | (go_at_call_of 30 (Value.string ⟨#[70]⟩); have _q := b8; refine (PutS_to _ p _ _ ⟨1, 3, 3, 2, [(⟨#[66]⟩, 0), (⟨#[69]⟩, 2)]⟩ 4 _ _ _ r8.out (by simp [Cnt]) rfl b8).mono ?_; rintro e w9 ⟨g9, rfl, r9, n9, s9, b9⟩; have r9 := Lib.hid r9; have H9 := H8.out.spared s9 n9; clear n9 s9; obtain ⟨q, rfl, t0, t1⟩ := look2 (k := 0) H9 rfl rfl; clear H9)
    | (go_at_call_of 30 (Value.string ⟨#[69]⟩); have _q := b7; refine (PutS_to _ p _ _ ⟨0, 3, 2, 2, [(⟨#[66]⟩, 0), (⟨#[69]⟩, 2)]⟩ 0 _ _ _ r7.out (by simp [Cnt]) rfl b7).mono ?_; rintro e w8 ⟨g8, rfl, r8, n8, s8, b8⟩; have r8 := Lib.hid r8; have H8 := Lib.hid (H7.out.spared s8 n8); clear n8 s8)
    | (go_at_call 32; have _q := b6; refine (TakeS_to _ p _ _ ⟨2, 2, 2, 2, [(⟨#[66]⟩, 0)]⟩ _ 0 [(⟨#[65]⟩, 0)] _ _ r6.out rfl b6).mono ?_; rintro e w7 ⟨A7, c7, rfl, r7, H7, b7⟩; have r7 := Lib.hid r7; have H7 := Lib.hid H7)
    | (go_at_call 31; refine (OpenRS_any _ p _ _ _ r5.out).mono ?_; rintro e w6 ⟨rfl, rfl⟩; have b6 := b5; have r6 := r5)
    | (go_at_call_of 30 (Value.string ⟨#[68]⟩); have _q := b4; refine (PutS_to _ p _ _ ⟨2, 2, 2, 2, [(⟨#[65]⟩, 0), (⟨#[66]⟩, 0)]⟩ 4 _ _ _ r4.out (by simp [Cnt]) rfl b4).mono ?_; rintro e w5 ⟨g5, rfl, r5, n5, s5, b5⟩; have r5 := Lib.hid r5; clear n5 s5)
    | (go_at_call_of 30 (Value.string ⟨#[67]⟩); have _q := b3; refine (PutS_to _ p _ _ ⟨1, 2, 1, 2, [(⟨#[65]⟩, 0), (⟨#[66]⟩, 0)]⟩ 4 _ _ _ r3.out (by simp [Cnt]) rfl b3).mono ?_; rintro e w4 ⟨g4, rfl, r4, n4, s4, b4⟩; have r4 := Lib.hid r4; clear n4 s4)
    | (go_at_call_of 30 (Value.string ⟨#[66]⟩); have _q := b2; refine (PutS_to _ p _ _ ⟨0, 2, 0, 2, [(⟨#[65]⟩, 0), (⟨#[66]⟩, 0)]⟩ 0 _ _ _ r2.out (by simp [Cnt]) rfl b2).mono ?_; rintro e w3 ⟨g3, rfl, r3, n3, s3, b3⟩; have r3 := Lib.hid r3; clear n3 s3)
    | (go_at_call_of 30 (Value.string ⟨#[65]⟩); have _q := b1; refine (PutS_to _ p _ _ ⟨0, 1, 0, 2, [(⟨#[65]⟩, 0)]⟩ 0 _ _ _ r1.out (by simp [Cnt]) rfl b1).mono ?_; rintro e w2 ⟨g2, rfl, r2, n2, s2, b2⟩; have r2 := Lib.hid r2; clear n2 s2)
    | (go_at_call 29; refine (NewRS_any 2 _ (by decide)).mono ?_; rintro e w1 ⟨p, rfl, r1, b1⟩; have r1 := Lib.hid r1))
  go_ret
  exact ⟨rfl, b14⟩
end Go.Proofs.Ytgomnifcgaigkaa
