/- More laws about slices: a made row of zeros, its cells and stores. No program is named here. -/
import Derived.Test.YthidfmkmklnhhaaQ3
namespace Go.Proofs.Ythidfmkmklnhhaa
open Go.RowKit

theorem own_addrK {w : World} {base e s n : Nat} {v : Value} {xs : List Value} (h : w.ownsRow base e s v n xs) (hn : 0 < n) : ∃ g c, v = .slice (some ⟨g, 0, none⟩) n c ∧ base ≤ g := by
  obtain ⟨_, h2⟩ := h
  rcases h2 with ⟨h0, h0'⟩ | ⟨g, cap, cur, hv, hg, _⟩
  · omega
  · exact ⟨g, cap, hv, hg⟩
theorem own_cellK {w : World} {K : IntKind} {base e n g c k : Nat} {l : List Int} (h : w.ownsRow base e 1 (.slice (some ⟨g, 0, none⟩) n c) n (l.map (Value.int K))) (hk : k < n) : w.cell? ⟨g, k, none⟩ = some (.int K (l.getD k 0)) ∧ w.frozen? ⟨g, k, none⟩ = false := by
  have hl : l.length = n := by have := h.1; simpa using this
  refine ⟨?_, h.frozenAt k⟩
  rw [h.cellAt k (by omega)]
  simp [List.getD, show k < l.length by omega]
theorem own_setK {w : World} {K : IntKind} {base e n g c : Nat} {l : List Int} (h : w.ownsRow base e 1 (.slice (some ⟨g, 0, none⟩) n c) n (l.map (Value.int K))) (k : Nat) (z : Int) : (w.setCell ⟨g, k, none⟩ (.int K z)).ownsRow base e 1 (.slice (some ⟨g, 0, none⟩) n c) n ((l.set k z).map (Value.int K)) := by
  have := (h.stored k (.int K z)).1
  rwa [← List.map_set] at this

theorem made_zeros (K : IntKind) (n : Nat) : (madeCells (Value.int K 0).cells (n * 1)).toList = (List.replicate n (0 : Int)).map (Value.int K) := by
  apply List.ext_getElem
  · simp [madeCells]
  · intro i h1 h2
    have e : i % 1 = 0 := Nat.mod_one i
    simp [madeCells, Value.cells, e]

/-- make([]T, n): n zeros. -/
theorem wpList_mkF {P : Program} {t e : TypeId} {K : IntKind} {bytes : Nat} (E : Elem P t e (.int K 0) 1 bytes) {ops : Array Oper} {rest : List Oper} {o : Oper} {a : Act} {Q : Exit → Act → World → Prop} {w : World}
    (hgd : o.guard = none) (l c : Operand) (hop : o.op = Op.makeSlice t l c) {kl kc : IntKind} (n : Nat) {L C : Int} (hl : a.eval l = .int kl L) (hc : a.eval c = .int kc C) (hL : L = (n : Int)) (hC : C = (n : Int)) (b2 : bytes * n ≤ 281474976710656) (b3 : n ≤ maxLen)
    (hK : ∀ w', w'.ownsRow w.heap.size e 1 (.slice (some ⟨w.heap.size, 0, none⟩) n n) n ((List.replicate n (0 : Int)).map (Value.int K)) → w.grownBy w' none → Below w.heap.size w w' → wpList P ops Q rest (a.put o.dst (.slice (some ⟨w.heap.size, 0, none⟩) n n)) w') :
    wpList P ops Q (o :: rest) a w := by
  obtain ⟨ht, hz, hs, i, hi, hz0, hz1, hz2⟩ := E
  refine wpList_make_full w hgd l c t hop w.heap.size e i (.int K 0) 1 ht hi hz0 hz1 kl kc L C n hl hc hL hC (by rw [hz2]; exact b2) b3 (Nat.le_refl _) ?_
  intro w' h1 h2
  rw [made_zeros] at h1
  exact hK w' h1 h2 ((Below.refl _ w).grown h2 (Nat.le_refl _) (fun k hk => by cases hk))
end Go.Proofs.Ythidfmkmklnhhaa
