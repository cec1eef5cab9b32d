/- Walks: same, spoil, of RingTells. -/
import Derived.Test.YtgomnifcgaigkaaProg
import Derived.Test.YtgomnifcgaigkaaGq
namespace Go.Proofs.Ytgomnifcgaigkaa
open Go.RowKit Go.Shelf
set_option linter.unusedVariables false

theorem Sees.two {w : World} {A : Option Addr} {n c k : Nat} {L : List (Int × Int)} {x : Int × Int} (h : Sees w 2 A n c (L.flatMap ceI)) (hx : L[k]? = some x) :
    ∃ b o, A = some ⟨b, o, none⟩ ∧ w.cell? ⟨b, o + k * 2, none⟩ = some (.int .i64 x.1) ∧ w.cell? ⟨b, o + k * 2 + 1, none⟩ = some (.int .i64 x.2) := by
  obtain ⟨e1, e2⟩ := ceI_get hx
  obtain ⟨b, o, hA, c1⟩ := h.look _ _ e1
  obtain ⟨b', o', hA', c2⟩ := h.look _ _ e2
  subst hA
  cases hA'
  rw [Nat.mul_comm 2 k] at c1 c2
  exact ⟨b, o, rfl, c1, by rw [Nat.add_assoc]; exact c2⟩

set_option maxRecDepth 20000 in
set_option maxHeartbeats 1600000 in
theorem same_any (A1 A2 : Option Addr) (n c1 c2 : Nat) (L : List (Int × Int)) (w : World) (h1 : Sees w 2 A1 n c1 (L.flatMap ceI)) (h2 : Sees w 2 A2 n c2 (L.flatMap ceI)) (hn : n ≤ 65536) :
    Calls Try.prog 57 #[.slice A1 n c1, .slice A2 n c2] w fun e w' => e = .returned (.bool true) ∧ Below w.heap.size w w' := by
  have hl : L.length = n := by have := h1.len; rw [ceI_len] at this; omega
  have H1 := Lib.hid h1
  have H2 := Lib.hid h2
  have HL := Lib.hid hl
  have hn3 : (n : Int) ≤ 65536 := by omega
  clear h1 h2 hl hn
  go_enter Try.func57, Try.ntmps57
  go_wp2
  go_loopw [14] (fun i wr => ∃ k : Nat, Hid (k ≤ n) ∧ i = .int .i64 (k : Int) ∧ Below w.heap.size w wr) (fun i _ => n - (intOf i).toNat)
  case atStart => exact ⟨0, Lib.hid (Nat.zero_le _), rfl, Below.refl _ _⟩
  case round =>
    obtain ⟨k, HK, rfl, hb⟩ := hrel
    by_cases hlt : k < n
    · obtain ⟨⟨x1, x2⟩, hx⟩ : ∃ x, L[k]? = some x := ⟨_, List.getElem?_eq_getElem (by have := HL.out; omega)⟩
      obtain ⟨b1, o1, rfl, s0, s1⟩ := (H1.out.below hb (Nat.le_refl _)).two hx
      have hz := hb.alloc hb.size (.cells #[.int .i64 x1, .int .i64 x2] 29)
      obtain ⟨b2, o2, rfl, t0, t1⟩ := (H2.out.below hz (Nat.le_refl _)).two hx
      obtain ⟨_, _, hq, u0, u1⟩ := (H2.out.below hb (Nat.le_refl _)).two hx
      cases hq
      simp only [] at s0 s1 t0 t1 u0 u1
      have d1 : decide ((k : Int) < (n : Int)) = true := by simp; omega
      have hk2 : (k : Int) < (n : Int) := by omega
      have hk0 : (0 : Int) ≤ (k : Int) := by omega
      have v0 : (wr.alloc (.cells #[.int .i64 x1, .int .i64 x2] 29)).cell? ⟨wr.heap.size, 0, none⟩ = some (.int .i64 x1) := (cell_of_row _ _ 0 _ _ _ (heap_alloc_new wr _)).trans rfl
      have v1 : (wr.alloc (.cells #[.int .i64 x1, .int .i64 x2] 29)).cell? ⟨wr.heap.size, 1, none⟩ = some (.int .i64 x2) := (cell_of_row _ _ 1 _ _ _ (heap_alloc_new wr _)).trans rfl
      have HLT := Lib.hid hlt
      have HB := Lib.hid hz
      clear hlt hx hb hz u0 u1
      go_wp2
      go_quiet (fail)
      go_wp2
      go_roundw
      case rel => exact ⟨k + 1, Lib.hid HLT.out, by go_num, ⟨HB.out.os, HB.out.tape, HB.out.output, HB.out.size, HB.out.block⟩⟩
      case measure => have := HLT.out; simp [intOf]; omega
    · have d1 : decide ((k : Int) < (n : Int)) = false := by simp; omega
      have d1' : decide (k < n) = false := by simp; omega
      have HB := Lib.hid hb
      clear hlt hb
      go_wp2
      go_ret
      exact ⟨rfl, HB.out⟩

set_option maxRecDepth 20000 in
set_option maxHeartbeats 800000 in
theorem spoil_any (A : Option Addr) (n c b : Nat) (xs : List Value) (w : World) (h : w.ownsRow b 29 2 (.slice A n c) n xs) (hn : n ≤ 65536) :
    Calls Try.prog 58 #[.slice A n c] w fun e w' => (∃ v, e = .returned v) ∧ Below b w w' := by
  have hn3 : (n : Int) ≤ 65536 := by omega
  have H := Lib.hid h
  clear h hn
  go_enter Try.func58, Try.ntmps58
  go_wp2
  go_loopw [5] (fun i wr => ∃ (k : Nat) (ys : List Value), Hid (k ≤ n) ∧ i = .int .i64 (k : Int) ∧ wr.ownsRow b 29 2 (.slice A n c) n ys ∧ Below b w wr) (fun i _ => n - (intOf i).toNat)
  case atStart => exact ⟨0, xs, Lib.hid (Nat.zero_le _), rfl, H.out, Below.refl _ _⟩
  case round =>
    obtain ⟨k, ys, HK, rfl, ho, hb⟩ := hrel
    by_cases hlt : k < n
    · have hsome : ∃ g, A = some ⟨g, 0, none⟩ ∧ b ≤ g := by
        rcases ho.2 with ⟨e, _⟩ | ⟨g, cp, cur, hv, hb', hh, _⟩
        · cases e; omega
        · cases hv; exact ⟨g, rfl, hb'⟩
      obtain ⟨g, rfl, hg⟩ := hsome
      have hy : ys.length = n * 2 := ho.1
      have f0 := ho.frozenAt (k * 2)
      have f1 := ho.frozenAt (k * 2 + 1)
      obtain ⟨u0, s0⟩ : ∃ u, wr.cell? ⟨g, k * 2, none⟩ = some u := ⟨_, (ho.cellAt (k * 2) (by omega)).trans (List.getElem?_eq_getElem (by omega))⟩
      obtain ⟨u1, s1⟩ : ∃ u, wr.cell? ⟨g, k * 2 + 1, none⟩ = some u := ⟨_, (ho.cellAt (k * 2 + 1) (by omega)).trans (List.getElem?_eq_getElem (by omega))⟩
      have d1 : decide ((k : Int) < (n : Int)) = true := by simp; omega
      have hk2 : (k : Int) < (n : Int) := by omega
      have HO := Lib.hid (And.intro ho (And.intro hb (And.intro hg hlt)))
      clear ho hb hg hlt hy
      go_wp2
      go_roundw
      case rel => exact ⟨k + 1, _, Lib.hid HO.out.2.2.2, by go_num, ((HO.out.1.stored (k * 2) (.int .i64 (-1))).1.stored (k * 2 + 1) (.int .i64 (-1))).1, (HO.out.2.1.setCell (p := ⟨g, k * 2, none⟩) HO.out.2.2.1 _).setCell (p := ⟨g, k * 2 + 1, none⟩) HO.out.2.2.1 _⟩
      case measure => have := HO.out.2.2.2; simp [intOf]; omega
    · have d1 : decide ((k : Int) < (n : Int)) = false := by simp; omega
      have d1' : decide (k < n) = false := by simp; omega
      have HB := Lib.hid hb
      clear hlt hb
      go_wp2
      go_end0
      exact ⟨⟨_, rfl⟩, HB.out⟩
end Go.Proofs.Ytgomnifcgaigkaa
