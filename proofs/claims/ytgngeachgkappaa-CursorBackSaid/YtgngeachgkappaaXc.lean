/- CursorWrites: what lies where. -/
import Derived.Test.YtgngeachgkappaaProg
import Derived.Test.YtgngeachgkappaaXb
import Derived.Test.YtgngeachgkappaaWy
import Derived.Test.YtgngeachgkappaaWq
namespace Go.Proofs.Ytgngeachgkappaa
open Go.RowKit
set_option linter.unusedVariables false

theorem own_type {w : World} {base e s n c b : Nat} {A : Option Addr} {xs : List Value} {cs : Array Value} {t : TypeId} {fz : Nat × Nat} (h : w.ownsRow base e s (.slice A n c) n xs) (hb : w.heap[b]? = some (.cells cs t fz)) (ht : t ≠ e) : (Value.slice A n c).ownBlock ≠ some b := by
  rcases h.2 with ⟨e1, _⟩ | ⟨g, cap, cur, hv, hg, hh, _⟩
  · cases e1; simp [Value.ownBlock]
  · cases hv
    intro e2
    simp [Value.ownBlock] at e2
    subst e2
    rw [hh] at hb
    cases hb
    exact ht rfl
theorem Sees.both {w w' : World} {p s n c : Nat} {r : Option Nat} {A : Option Addr} {xs : List Value} (h : Sees w s A n c xs) (hk : Both p r w w') (hf : 0 < xs.length → ∀ b, A = some b → b.block ≠ p ∧ r ≠ some b.block) : Sees w' s A n c xs :=
  ⟨h.len, h.cap, h.capm, h.nil_, fun k u hu => by
    obtain ⟨b, o, hA, hc⟩ := h.look k u hu
    have hl := (List.getElem?_eq_some_iff.1 hu).1
    obtain ⟨f1, f2⟩ := hf (by omega) _ hA
    have hlt := World.block_lt_of_cell? _ _ hc
    refine ⟨b, o, hA, ?_⟩
    have : w'.heap[b]? = w.heap[b]? := hk.block b hlt f1 (fun e => f2 e.symm)
    rw [← hc]
    simp [World.cell?, this]⟩
theorem own_both {w w' : World} {p base e s n : Nat} {r : Option Nat} {v : Value} {xs : List Value} (h : w.ownsRow base e s v n xs) (hk : Both p r w w') (h1 : ∀ q, v.ownBlock = some q → q ≠ p ∧ r ≠ some q) : w'.ownsRow base e s v n xs := by
  obtain ⟨hl, h2⟩ := h
  refine ⟨hl, ?_⟩
  rcases h2 with h0 | ⟨g, cap, cur, hv, hg, hh, rest⟩
  · exact .inl h0
  · obtain ⟨f1, f2⟩ := h1 g (by rw [hv]; rfl)
    exact .inr ⟨g, cap, cur, hv, hg, (hk.block g (lt_of_heap hh) f1 (fun e => f2 e.symm)).trans hh, rest⟩
theorem own_keeps {w w' : World} {G base e s n : Nat} {v : Value} {xs : List Value} (h : w.ownsRow base e s v n xs) (hk : Keeps G w w') (h1 : v.ownBlock ≠ some G) : w'.ownsRow base e s v n xs :=
  own_both h (.of_keeps hk) (r := none) (fun q hq => ⟨fun e => h1 (by rw [hq, e]), fun e => by cases e⟩)

/-- The reference's writer lies in box g7, its bytes rs at B; the writer at p has bs, at A. -/
structure WS (w0 wr : World) (p g7 lim : Nat) (A : Option Addr) (n c : Nat) (B : Option Addr) (m d : Nat) (bs rs : List Int) : Prop where
  wtr : Wtr wr w0.heap.size p A n c bs lim
  box : wr.heap[g7]? = some (.cells #[.int .i64 (lim : Int), .slice B m d] 79 (0, 0))
  see : Sees wr 1 B m d (rs.map (Value.int .u8))
  far : 0 < m → ∀ b, B = some b → b.block ≠ p ∧ b.block ≠ g7 ∧ (Value.slice A n c).ownBlock ≠ some b.block
  g7b : w0.heap.size ≤ g7
  bel : Below w0.heap.size w0 wr
def Clear (G : Nat) (A : Option Addr) (n c : Nat) (B : Option Addr) (m : Nat) : Prop := (Value.slice A n c).ownBlock ≠ some G ∧ (0 < m → ∀ b, B = some b → b.block ≠ G)
section
variable {w0 wr w' : World} {p g7 lim n c m d : Nat} {A B : Option Addr} {bs rs bs' : List Int}
theorem WS.ne (h : WS w0 wr p g7 lim A n c B m d bs rs) : p ≠ g7 := by
  intro e
  have h1 := h.wtr.obj
  rw [e, h.box] at h1
  simp at h1
theorem WS.g7lt (h : WS w0 wr p g7 lim A n c B m d bs rs) : g7 < wr.heap.size := lt_of_heap h.box
theorem WS.q0 (h : WS w0 wr p g7 lim A n c B m d bs rs) : wr.cell? ⟨g7, 0, none⟩ = some (.int .i64 (lim : Int)) := by simp [World.cell?, h.box]
theorem WS.q1 (h : WS w0 wr p g7 lim A n c B m d bs rs) : wr.cell? ⟨g7, 1, none⟩ = some (.slice B m d) := by simp [World.cell?, h.box]
theorem WS.y0 (h : WS w0 wr p g7 lim A n c B m d bs rs) (k : Nat) : wr.frozen? ⟨g7, k, none⟩ = false := by simp [World.frozen?, h.box]
theorem WS.len (h : WS w0 wr p g7 lim A n c B m d bs rs) : rs.length = m := h.see.length
theorem WS.own7 (h : WS w0 wr p g7 lim A n c B m d bs rs) : (Value.slice A n c).ownBlock ≠ some g7 := own_type h.wtr.own h.box (by decide)
theorem WS.ownlt (h : WS w0 wr p g7 lim A n c B m d bs rs) : ∀ q, (Value.slice A n c).ownBlock = some q → q < wr.heap.size := fun q hq => (h.wtr.own.lt q hq).2
theorem WS.seelt (h : WS w0 wr p g7 lim A n c B m d bs rs) : 0 < m → ∀ b, B = some b → b.block < wr.heap.size := fun hm b hb => by
  have hl := h.len
  obtain ⟨bz, oz, hA, hc⟩ := h.see.int (k := 0) hm
  rw [hb] at hA
  cases hA
  exact World.block_lt_of_cell? _ _ hc
theorem WS.clear (h : WS w0 wr p g7 lim A n c B m d bs rs) {G : Nat} (hG : wr.heap.size ≤ G) : Clear G A n c B m := ⟨fun e => by have := h.ownlt _ e; omega, fun hm b hb => by have := h.seelt hm b hb; omega⟩
theorem WS.below (h : WS w0 wr p g7 lim A n c B m d bs rs) (hb : Below wr.heap.size wr w') : WS w0 w' p g7 lim A n c B m d bs rs :=
  ⟨h.wtr.below hb, (hb.block g7 h.g7lt).trans h.box, h.see.below hb (Nat.le_refl _), h.far, h.g7b, h.bel.trans (hb.mono h.bel.size)⟩
theorem WS.keeps (h : WS w0 wr p g7 lim A n c B m d bs rs) {G : Nat} (hk : Keeps G wr w') (h1 : G ≠ p) (h2 : G ≠ g7) (hc : Clear G A n c B m) (hG : w0.heap.size ≤ G) : WS w0 w' p g7 lim A n c B m d bs rs :=
  ⟨⟨(hk.block p h.wtr.plt (Ne.symm h1)).trans h.wtr.obj, own_keeps h.wtr.own hk hc.1, h.wtr.off, h.wtr.bp, h.wtr.le, h.wtr.lm⟩, (hk.block g7 h.g7lt (Ne.symm h2)).trans h.box,
    h.see.both (.of_keeps hk) (r := none) (fun hl b hb => ⟨hc.2 (by rw [List.length_map, h.len] at hl; exact hl) b hb, fun e => by cases e⟩), h.far, h.g7b, h.bel.trans (hk.below hG h.bel.size)⟩
/-- The program's call. -/
theorem WS.put (h : WS w0 wr p g7 lim A n c B m d bs rs) (hd : WDid w0.heap.size p lim A n c wr bs' w') :
    ∃ A' c', WS w0 w' p g7 lim A' bs'.length c' B m d bs' rs ∧ Both p (Value.slice A n c).ownBlock wr w' ∧ (∀ G, G < wr.heap.size → Clear G A n c B m → Clear G A' bs'.length c' B m) := by
  obtain ⟨A', c', h1, h2, h3⟩ := hd
  have hl : ∀ G, G < wr.heap.size → (Value.slice A n c).ownBlock ≠ some G → (Value.slice A' bs'.length c').ownBlock ≠ some G := fun G hG hn e => by
    rcases h3 with e3 | e3
    · exact hn (by rw [← e3]; exact e)
    · have := e3 G e; omega
  refine ⟨A', c', ⟨h1, (h2.block g7 h.g7lt (Ne.symm h.ne) (fun e => h.own7 e.symm)).trans h.box, h.see.both h2 (fun hl b hb => ?_), fun hm b hb => ?_, h.g7b, h.bel.trans (h.wtr.both h2 h.bel.size)⟩, h2, fun G hG hc => ⟨hl G hG hc.1, hc.2⟩⟩
  · rw [List.length_map, h.len] at hl
    obtain ⟨f1, f2, f3⟩ := h.far hl b hb
    exact ⟨f1, f3⟩
  · obtain ⟨f1, f2, f3⟩ := h.far hm b hb
    exact ⟨f1, f2, hl _ (h.seelt hm b hb) f3⟩
/-- Other blocks at the program's call. -/
theorem WS.obj (h : WS w0 wr p g7 lim A n c B m d bs rs) (hk : Both p (Value.slice A n c).ownBlock wr w') {b : Nat} {cs : Array Value} {t : TypeId} {fz : Nat × Nat} (hb : wr.heap[b]? = some (.cells cs t fz)) (h1 : t ≠ 71) (h2 : t ≠ 5) : w'.heap[b]? = some (.cells cs t fz) := by
  refine (hk.block b (lt_of_heap hb) (fun e => ?_) (fun e => own_type h.wtr.own hb h2 e.symm)).trans hb
  rw [e, h.wtr.obj] at hb
  simp at hb
  exact h1 hb.2.1.symm
/-- The reference's call, and the store of what it returns. -/
theorem WS.ref (h : WS w0 wr p g7 lim A n c B m d bs rs) {w5 : World} {B' : Option Addr} {m' d' : Nat} {ys : List Int} (hb : Below wr.heap.size wr w5) (s5 : Sees w5 1 B' m' d' (ys.map (Value.int .u8))) (f5 : From wr B m B' m') :
    WS w0 ((w5.setCell ⟨g7, 0, none⟩ (.int .i64 (lim : Int))).setCell ⟨g7, 1, none⟩ (.slice B' m' d')) p g7 lim A n c B' m' d' bs ys ∧ (∀ G, G < wr.heap.size → Clear G A n c B m → Clear G A n c B' m') ∧ Keeps g7 w5 ((w5.setCell ⟨g7, 0, none⟩ (.int .i64 (lim : Int))).setCell ⟨g7, 1, none⟩ (.slice B' m' d')) := by
  have h2 := h.below hb
  have hk : Keeps g7 w5 ((w5.setCell ⟨g7, 0, none⟩ (.int .i64 (lim : Int))).setCell ⟨g7, 1, none⟩ (.slice B' m' d')) := (Keeps.set g7 0 w5 _).trans (Keeps.set g7 1 _ _)
  have hcl : ∀ G, G < wr.heap.size → Clear G A n c B m → Clear G A n c B' m' := fun G hG hc => ⟨hc.1, fun hm b hB => by
    rcases f5 with ⟨e1, e2⟩ | e
    · exact hc.2 (by omega) b (by rw [← e1]; exact hB)
    · have := e b hB; omega⟩
  have hfar : 0 < m' → ∀ b, B' = some b → b.block ≠ p ∧ b.block ≠ g7 ∧ (Value.slice A n c).ownBlock ≠ some b.block := fun hm b hB => by
    rcases f5 with ⟨e1, e2⟩ | e
    · exact h.far (by omega) b (by rw [← e1]; exact hB)
    · have h3 := e b hB
      have := h.wtr.plt
      have := h.g7lt
      exact ⟨by omega, by omega, fun e4 => by have := h.ownlt _ e4; omega⟩
  refine ⟨⟨⟨(hk.block p h2.wtr.plt h.ne).trans h2.wtr.obj, own_keeps h2.wtr.own hk h.own7, h.wtr.off, h.wtr.bp, h.wtr.le, h.wtr.lm⟩, ?_, ?_, hfar, h.g7b, h2.bel.trans (hk.below h.g7b h2.bel.size)⟩, hcl, hk⟩
  · have e1 := heap_setCell_same w5 g7 0 _ _ (.int .i64 (lim : Int)) h2.box
    have e2 := heap_setCell_same _ g7 1 _ _ (.slice B' m' d') e1
    simpa using e2
  · exact s5.both (.of_keeps hk) (r := none) (fun hl b hB => ⟨(hfar (by rw [List.length_map, s5.length] at hl; exact hl) b hB).2.1, fun e => by cases e⟩)
end
end Go.Proofs.Ytgngeachgkappaa
