/- The reference's calls, by what a ring holds (no walk). -/
import Derived.Test.YtgomnifcgaigkaaProg
import Derived.Test.YtgomnifcgaigkaaGv
namespace Go.Proofs.Ytgomnifcgaigkaa
open Go.RowKit Go.Shelf
set_option linter.unusedVariables false

/-- The reference's slots lie in memory that the ring does not write. -/
def RefRow (w : World) (A : Option Addr) (c : Nat) (L : List (Int × Int)) (p g : Nat) : Prop := HeldRow w 116 2 (.slice A L.length c) L.length (L.flatMap ceI) p g

theorem refPut_to (S S' : RS (Int × Int)) (r x : Int) (p g c : Nat) (A : Option Addr) (w : World) (h : RefRow w A c S.L p g) (hp : p < w.heap.size) (hg : g < w.heap.size) (hl : S.L.length ≤ 65536) (hc : Cnt 1000000000 S) (hS : putR (fun o => (x, o)) S = (S', r)) :
    Calls Try.prog 61 #[refV S A c, .int .i64 x] w fun e w' => ∃ A' c', e = .returned (.tuple #[refV S' A' c', .int .i64 r]) ∧ RefRow w' A' c' S'.L p g ∧ Lies w (.slice A S.L.length c) (.slice A' S'.L.length c') ∧ Below w.heap.size w w' := by
  by_cases hf : (S.L.length : Int) = S.cap
  · refine (refPut_full S A c x w hf hc).mono ?_
    rintro e w' ⟨rfl, hb⟩
    rw [show putR (fun o => (x, o)) S = (S', r) from hS]
    have e1 : S'.L = S.L ∧ r = 4 := by unfold putR at hS; rw [if_pos hf] at hS; cases hS; exact ⟨rfl, rfl⟩
    refine ⟨A, c, by rw [e1.2], ?_, .inl (by rw [e1.1]), hb⟩
    rw [e1.1]
    exact HeldRow.below h hb (Nat.le_refl _)
  · obtain ⟨o, ac, rf, cap, L⟩ := S
    have hcc := hc
    unfold Cnt at hcc
    refine (refPut_ok o ac rf cap x L L.length c A w (HeldRow.sees h) hl hf ⟨hcc.2.1, by have := hcc; simp only [] at this; omega⟩).mono ?_
    rintro e w' ⟨A2, c2, rfl, hown, hb⟩
    unfold putR at hS
    rw [if_neg hf] at hS
    cases hS
    refine ⟨A2, c2, by simp [refV], ?_, .inr fun q hq => (own_blk hown q (by simpa using hq)).1, hb⟩
    have := HeldRow.fresh hown hp hg
    simpa [RefRow] using this

theorem refTake_to (S S' : RS (Int × Int)) (k r : Int) (l : List (Int × Int)) (p g c : Nat) (A : Option Addr) (w : World) (h : RefRow w A c S.L p g) (hp : p < w.heap.size) (hg : g < w.heap.size) (hl : S.L.length ≤ 65536) (hS : takeR k S = (S', l, r)) :
    Calls Try.prog 59 #[refV S A c, .int .i64 k] w fun e w' => ∃ A1 c1 A' c', e = .returned (.tuple #[refV S' A' c', .slice A1 l.length c1, .int .i64 r]) ∧ w'.ownsRow w.heap.size 116 2 (.slice A1 l.length c1) l.length (l.flatMap ceI) ∧ RefRow w' A' c' S'.L p g ∧ Lies w (.slice A S.L.length c) (.slice A' S'.L.length c') ∧ Below w.heap.size w w' := by
  by_cases hk : k < 0
  · refine (refTake_neg S A c k w hk).mono ?_
    rintro e w' ⟨rfl, hb⟩
    unfold takeR at hS
    rw [if_pos hk] at hS
    cases hS
    exact ⟨none, 0, A, c, rfl, World.ownsRow_nil w' _ 116 2, HeldRow.below h hb (Nat.le_refl _), .inl rfl, hb⟩
  · obtain ⟨o, ac, rf, cap, L⟩ := S
    have hm : (if (L.length : Int) < k then (L.length : Int) else k) = ((min L.length k.toNat : Nat) : Int) := by split <;> omega
    refine (refTake_any o ac rf cap k L L.length (min L.length k.toNat) c A w (HeldRow.sees h) rfl hl (by omega) hm).mono ?_
    rintro e w' ⟨A1, c1, A2, c2, n2, rfl, rfl, o1, o2, hb⟩
    unfold takeR at hS
    rw [if_neg hk] at hS
    cases hS
    have e1 : L.take (min L.length k.toNat) = L.take k.toNat := by
      rcases Nat.le_total L.length k.toNat with h | h
      · rw [Nat.min_eq_left h, List.take_of_length_le (Nat.le_refl _), List.take_of_length_le h]
      · rw [Nat.min_eq_right h]
    have e2 : L.drop (min L.length k.toNat) = L.drop k.toNat := by
      rcases Nat.le_total L.length k.toNat with h | h
      · rw [Nat.min_eq_left h, List.drop_of_length_le (Nat.le_refl _), List.drop_of_length_le h]
      · rw [Nat.min_eq_right h]
    have l1 : (L.take k.toNat).length = min L.length k.toNat := by simp [Nat.min_comm]
    have l2 : (L.drop k.toNat).length = L.length - min L.length k.toNat := by simp; omega
    rw [e1] at o1
    rw [e2] at o2
    refine ⟨A1, c1, A2, c2, by simp only [refV, l1, l2], by rw [l1]; exact o1, ?_, .inr fun q hq => (own_blk o2 q (by simpa [l2] using hq)).1, hb⟩
    have := HeldRow.fresh o2 hp hg
    unfold RefRow
    simp only []
    rw [l2]
    exact this

theorem refDrain_to (S : RS (Int × Int)) (p g c : Nat) (A : Option Addr) (w : World) (h : RefRow w A c S.L p g) :
    Calls Try.prog 60 #[refV S A c] w fun e w' => e = .returned (.tuple #[refV (drainR S).1 none 0, .slice A S.L.length c, .int .i64 S.o]) ∧ RefRow w' none 0 [] p g ∧ RefRow w' A c S.L p g ∧ Below w.heap.size w w' := by
  refine (refDrain_any S A c w).mono ?_
  rintro e w' ⟨rfl, hb⟩
  exact ⟨rfl, ⟨0, World.ownsRow_nil _ _ _ _, by simp [Value.ownBlock], by simp [Value.ownBlock]⟩, HeldRow.below h hb (Nat.le_refl _), hb⟩

theorem HeldRow.setO {w : World} {TS s n p g : Nat} {v : Value} {xs : List Value} (h : HeldRow w TS s v n xs p g) (q k : Nat) (u : Value) (hq : v.ownBlock ≠ some q) : HeldRow (w.setCell ⟨q, k, none⟩ u) TS s v n xs p g := by
  obtain ⟨b, r, h1, h2⟩ := h
  exact ⟨b, ownsRow_setCell_other r (a := ⟨q, k, none⟩) hq u, h1, h2⟩
theorem RngI.setO {w : World} {B p g : Nat} {S : RS (Int × Int)} (h : RngI w B p g S) (q k : Nat) (u : Value) (hp : q ≠ p) (hg : q ≠ g) : RngI (w.setCell ⟨q, k, none⟩ u) B p g S :=
  h.keep (by rw [setCell_size]; exact Nat.le_refl _) (Below.heap_setCell _ _ _ _ (fun e => hp e.symm)) (Below.heap_setCell _ _ _ _ (fun e => hg e.symm))
end Go.Proofs.Ytgomnifcgaigkaa
