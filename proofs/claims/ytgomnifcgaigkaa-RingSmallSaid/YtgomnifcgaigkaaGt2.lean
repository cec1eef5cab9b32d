/- spoil changes the block of its own row alone; Take on what a ring holds (RingTells). -/
import Derived.Test.YtgomnifcgaigkaaProg
import Derived.Test.YtgomnifcgaigkaaGt
import Derived.Test.YtgomnifcgaigkaaGw
import Derived.Test.YtgomnifcgaigkaaQ4
namespace Go.Proofs.Ytgomnifcgaigkaa
open Go.RowKit Go.Shelf
set_option linter.unusedVariables false

set_option maxRecDepth 20000 in
set_option maxHeartbeats 800000 in
theorem spoil_at (A : Option Addr) (n c b q : Nat) (xs : List Value) (w : World) (h : w.ownsRow b 29 2 (.slice A n c) n xs) (hn : n ≤ 65536) (hq : 0 < n → A = some ⟨q, 0, none⟩) :
    Calls Try.prog 58 #[.slice A n c] w fun e w' => (∃ v, e = .returned v) ∧ Spared q q w w' := by
  have hn3 : (n : Int) ≤ 65536 := by omega
  have H := Lib.hid h
  clear h hn
  have HQ := Lib.hid hq
  clear hq
  go_enter Try.func58, Try.ntmps58
  go_wp2
  go_loopw [5] (fun i wr => ∃ (k : Nat) (ys : List Value), Hid (k ≤ n) ∧ i = .int .i64 (k : Int) ∧ wr.ownsRow b 29 2 (.slice A n c) n ys ∧ Spared q q w wr) (fun i _ => n - (intOf i).toNat)
  case atStart => exact ⟨0, xs, Lib.hid (Nat.zero_le _), rfl, H.out, Spared.refl _ _ _⟩
  case round =>
    obtain ⟨k, ys, HK, rfl, ho, hb⟩ := hrel
    by_cases hlt : k < n
    · have hsome := HQ.out (by omega)
      subst hsome
      have hy : ys.length = n * 2 := ho.1
      have f0 := ho.frozenAt (k * 2)
      have f1 := ho.frozenAt (k * 2 + 1)
      obtain ⟨u0, s0⟩ : ∃ u, wr.cell? ⟨q, k * 2, none⟩ = some u := ⟨_, (ho.cellAt (k * 2) (by omega)).trans (List.getElem?_eq_getElem (by omega))⟩
      obtain ⟨u1, s1⟩ : ∃ u, wr.cell? ⟨q, k * 2 + 1, none⟩ = some u := ⟨_, (ho.cellAt (k * 2 + 1) (by omega)).trans (List.getElem?_eq_getElem (by omega))⟩
      have d1 : decide ((k : Int) < (n : Int)) = true := by simp; omega
      have hk2 : (k : Int) < (n : Int) := by omega
      have HO := Lib.hid (And.intro ho (And.intro hb hlt))
      clear ho hb hlt hy
      go_wp2
      go_roundw
      case rel => exact ⟨k + 1, _, Lib.hid HO.out.2.2, by go_num, ((HO.out.1.stored (k * 2) (.int .i64 (-1))).1.stored (k * 2 + 1) (.int .i64 (-1))).1, (HO.out.2.1.setP (k * 2) _).setP (k * 2 + 1) _⟩
      case measure => have := HO.out.2.2; simp [intOf]; omega
    · have d1 : decide ((k : Int) < (n : Int)) = false := by simp; omega
      have d1' : decide (k < n) = false := by simp; omega
      have HB := Lib.hid hb
      clear hlt hb
      go_wp2
      go_end0
      exact ⟨⟨_, rfl⟩, HB.out⟩

theorem own_at_one {w : World} {base e s n c : Nat} {A : Option Addr} {xs : List Value} (h : w.ownsRow base e s (.slice A n c) n xs) (d : Nat) :
    ∃ q, (q = d ∨ base ≤ q ∧ q < w.heap.size) ∧ (0 < n → A = some ⟨q, 0, none⟩) := by
  by_cases hn : 0 < n
  · obtain ⟨g, c', hg, hb⟩ := own_addrK h hn
    cases hg
    exact ⟨g, .inr ⟨hb, (own_blk h g rfl).2⟩, fun _ => rfl⟩
  · exact ⟨d, .inl rfl, fun h => absurd h hn⟩

theorem TakeI_to (B p g B0 : Nat) (N k r : Int) (S S' : RS (Int × Int)) (l : List (Int × Int)) (w0 w : World) (h : RngI w B p g S) (hc : Cnt N S) (hb : Below B0 w0 w) (hB : B0 ≤ B) (hS : takeR k S = (S', l, r)) :
    Calls Try.prog 15 #[.pointer (some ⟨p, 0, none⟩), .int .i64 k] w fun e w' => ∃ A c, e = .returned (.tuple #[.slice A l.length c, .int .i64 r]) ∧ RngI w' B p g S' ∧ Cnt N S' ∧ w'.ownsRow w.heap.size 29 2 (.slice A l.length c) l.length (l.flatMap ceI) ∧ Spared p g w w' ∧ Below B0 w0 w' := by
  have := TakeI_at B p g B0 N k S w0 w h hc hb hB
  rwa [hS] at this

/-- Five stores into one object. -/
theorem set5 {w : World} {b : Nat} {t : TypeId} {a0 a1 a2 a3 a4 : Value} (h : w.heap[b]? = some (.cells #[a0, a1, a2, a3, a4] t (0, 0))) (v0 v1 v2 v3 v4 : Value) :
    (((((w.setCell ⟨b, 0, none⟩ v0).setCell ⟨b, 1, none⟩ v1).setCell ⟨b, 2, none⟩ v2).setCell ⟨b, 3, none⟩ v3).setCell ⟨b, 4, none⟩ v4).heap[b]? = some (.cells #[v0, v1, v2, v3, v4] t (0, 0)) :=
  heap_setCell_same _ b 4 #[v0, v1, v2, v3, a4] t v4 (heap_setCell_same _ b 3 #[v0, v1, v2, a3, a4] t v3 (heap_setCell_same _ b 2 #[v0, v1, a2, a3, a4] t v2 (heap_setCell_same _ b 1 #[v0, a1, a2, a3, a4] t v1 (heap_setCell_same _ b 0 #[a0, a1, a2, a3, a4] t v0 h))))
theorem set5_size (w : World) (b : Nat) (v0 v1 v2 v3 v4 : Value) : (((((w.setCell ⟨b, 0, none⟩ v0).setCell ⟨b, 1, none⟩ v1).setCell ⟨b, 2, none⟩ v2).setCell ⟨b, 3, none⟩ v3).setCell ⟨b, 4, none⟩ v4).heap.size = w.heap.size := by simp only [setCell_size]
theorem set5_other {w : World} {b q : Nat} (hq : q ≠ b) (v0 v1 v2 v3 v4 : Value) :
    (((((w.setCell ⟨b, 0, none⟩ v0).setCell ⟨b, 1, none⟩ v1).setCell ⟨b, 2, none⟩ v2).setCell ⟨b, 3, none⟩ v3).setCell ⟨b, 4, none⟩ v4).heap[q]? = w.heap[q]? :=
  (Below.heap_setCell _ _ _ _ hq).trans ((Below.heap_setCell _ _ _ _ hq).trans ((Below.heap_setCell _ _ _ _ hq).trans ((Below.heap_setCell _ _ _ _ hq).trans (Below.heap_setCell _ _ _ _ hq))))
theorem HeldRow.set5 {w : World} {TS s n p g b : Nat} {v : Value} {xs : List Value} (h : HeldRow w TS s v n xs p g) (hq : v.ownBlock ≠ some b) (v0 v1 v2 v3 v4 : Value) :
    HeldRow (((((w.setCell ⟨b, 0, none⟩ v0).setCell ⟨b, 1, none⟩ v1).setCell ⟨b, 2, none⟩ v2).setCell ⟨b, 3, none⟩ v3).setCell ⟨b, 4, none⟩ v4) TS s v n xs p g :=
  ((((h.setO b 0 v0 hq).setO b 1 v1 hq).setO b 2 v2 hq).setO b 3 v3 hq).setO b 4 v4 hq
theorem own_set5 {w : World} {e s n b base : Nat} {v : Value} {xs : List Value} (h : w.ownsRow base e s v n xs) (hq : v.ownBlock ≠ some b) (v0 v1 v2 v3 v4 : Value) :
    (((((w.setCell ⟨b, 0, none⟩ v0).setCell ⟨b, 1, none⟩ v1).setCell ⟨b, 2, none⟩ v2).setCell ⟨b, 3, none⟩ v3).setCell ⟨b, 4, none⟩ v4).ownsRow base e s v n xs :=
  ownsRow_setCell_other (a := ⟨b, 4, none⟩) (ownsRow_setCell_other (a := ⟨b, 3, none⟩) (ownsRow_setCell_other (a := ⟨b, 2, none⟩) (ownsRow_setCell_other (a := ⟨b, 1, none⟩) (ownsRow_setCell_other (a := ⟨b, 0, none⟩) h hq v0) hq v1) hq v2) hq v3) hq v4
theorem RngI.set5 {w : World} {B p g b : Nat} {S : RS (Int × Int)} (h : RngI w B p g S) (hp : b ≠ p) (hg : b ≠ g) (v0 v1 v2 v3 v4 : Value) :
    RngI (((((w.setCell ⟨b, 0, none⟩ v0).setCell ⟨b, 1, none⟩ v1).setCell ⟨b, 2, none⟩ v2).setCell ⟨b, 3, none⟩ v3).setCell ⟨b, 4, none⟩ v4) B p g S :=
  ((((h.setO b 0 v0 hp hg).setO b 1 v1 hp hg).setO b 2 v2 hp hg).setO b 3 v3 hp hg).setO b 4 v4 hp hg
theorem below_set5 {w0 w : World} {B b : Nat} (h : Below B w0 w) (hb : B ≤ b) (v0 v1 v2 v3 v4 : Value) :
    Below B w0 (((((w.setCell ⟨b, 0, none⟩ v0).setCell ⟨b, 1, none⟩ v1).setCell ⟨b, 2, none⟩ v2).setCell ⟨b, 3, none⟩ v3).setCell ⟨b, 4, none⟩ v4) :=
  ((((h.setCell (p := ⟨b, 0, none⟩) hb v0).setCell (p := ⟨b, 1, none⟩) hb v1).setCell (p := ⟨b, 2, none⟩) hb v2).setCell (p := ⟨b, 3, none⟩) hb v3).setCell (p := ⟨b, 4, none⟩) hb v4
theorem spared_set5 {a w : World} {p g b : Nat} (h : Spared p g a w) (hb : a.heap.size ≤ b) (v0 v1 v2 v3 v4 : Value) :
    Spared p g a (((((w.setCell ⟨b, 0, none⟩ v0).setCell ⟨b, 1, none⟩ v1).setCell ⟨b, 2, none⟩ v2).setCell ⟨b, 3, none⟩ v3).setCell ⟨b, 4, none⟩ v4) :=
  ((((h.setN hb 0 v0).setN hb 1 v1).setN hb 2 v2).setN hb 3 v3).setN hb 4 v4
theorem Spared.then' {p g N : Nat} {a b c : World} (h : Spared p g a b) (k : Below N b c) (hN : a.heap.size ≤ N) : Spared p g a c :=
  ⟨k.os.trans h.os, k.tape.trans h.tape, k.output.trans h.output, Nat.le_trans h.size k.size, fun i hi h1 h2 => (k.block i (by omega)).trans (h.block i hi h1 h2)⟩
theorem Spared.thenQ {p g q : Nat} {a b c : World} (h : Spared p g a b) (k : Spared q q b c) (hq : a.heap.size ≤ q) : Spared p g a c :=
  ⟨k.os.trans h.os, k.tape.trans h.tape, k.output.trans h.output, Nat.le_trans h.size k.size, fun i hi h1 h2 => (k.block i (Nat.lt_of_lt_of_le hi h.size) (by omega) (by omega)).trans (h.block i hi h1 h2)⟩
theorem HeldRow.sparedQ {w w' : World} {TS s n p g q : Nat} {v : Value} {xs : List Value} (h : HeldRow w TS s v n xs p g) (hs : Spared q q w w') (hq : v.ownBlock ≠ some q) : HeldRow w' TS s v n xs p g := by
  obtain ⟨b, h1, h2, h3⟩ := h
  obtain ⟨b', h4, _, _⟩ := HeldRow.spared (p := q) (g := q) ⟨b, h1, hq, hq⟩ hs (.inl rfl)
  exact ⟨b', h4, h2, h3⟩
theorem HeldRow.notNew {w : World} {TS s n p g b : Nat} {v : Value} {xs : List Value} (h : HeldRow w TS s v n xs p g) (hb : w.heap.size ≤ b) : v.ownBlock ≠ some b := fun e => by
  obtain ⟨b', h1, _, _⟩ := h
  have := (own_blk h1 b e).2
  omega
theorem own_notLow {w : World} {e s n b base : Nat} {v : Value} {xs : List Value} (h : w.ownsRow base e s v n xs) (hb : b < base) : v.ownBlock ≠ some b := fun e => by
  have := (own_blk h b e).1
  omega
end Go.Proofs.Ytgomnifcgaigkaa
