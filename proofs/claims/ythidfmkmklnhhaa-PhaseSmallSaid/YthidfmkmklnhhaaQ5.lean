/- append on an own row, and where the new row lies. No program is named here. -/
import Derived.Test.YthidfmkmklnhhaaQ4
namespace Go.Proofs.Ythidfmkmklnhhaa
open Go.RowKit

/-- The new row lies where the old one lay, or in a new block. -/
def Lies (w : World) (v v' : Value) : Prop := v'.ownBlock = v.ownBlock ∨ ∀ q, v'.ownBlock = some q → w.heap.size ≤ q

theorem own_blk {w : World} {base e s n : Nat} {v : Value} {xs : List Value} (h : w.ownsRow base e s v n xs) : ∀ q, v.ownBlock = some q → base ≤ q ∧ q < w.heap.size := h.lt

theorem run_app2 {P : Program} {t ty e : TypeId} {z : Value} {s bytes : Nat} (E : Elem P t e z s bytes) {w : World} {base : Nat} {A0 : Option Addr} {n c0 : Nat} {xs : List Value} (hown : w.ownsRow base e s (.slice A0 n c0) n xs)
    {A : Option Addr} {m c : Nat} {news : List Value} (hsee : Sees w s A m c news) (h1 : ∀ u ∈ news, u.oneCell' = true) (hm : 0 < m) (h63 : n + m ≤ maxLen) (hb : (n + m) * bytes ≤ 140737488355328) (hbase : base ≤ w.heap.size) :
    ∃ A' c' w', (Builtin.append_ #[t, t] ty #[.slice A0 n c0, .slice A m c]).run P w = .ok (.slice A' (n + m) c') w' ∧ w'.ownsRow base e s (.slice A' (n + m) c') (n + m) (xs ++ news) ∧ w.grownBy w' (Value.slice A0 n c0).ownBlock ∧ Below base w w' ∧ Lies w (.slice A0 n c0) (.slice A' (n + m) c') := by
  have new : ∀ (hf : c0 < n + m), ∃ A' c' w', (Builtin.append_ #[t, t] ty #[.slice A0 n c0, .slice A m c]).run P w = .ok (.slice A' (n + m) c') w' ∧ w'.ownsRow base e s (.slice A' (n + m) c') (n + m) (xs ++ news) ∧ w.grownBy w' (Value.slice A0 n c0).ownBlock ∧ Below base w w' ∧ Lies w (.slice A0 n c0) (.slice A' (n + m) c') := fun hf => by
    obtain ⟨A', c', w', hr, h2, h3⟩ := run_appG (ty := ty) E (sees_own hown) hsee h1 hm hf h63 hb
    have h3' : w.grownBy w' (Value.slice A0 n c0).ownBlock := ⟨h3.os, h3.tape, h3.output, h3.size, fun k hk _ => h3.block k hk (by simp)⟩
    exact ⟨A', c', w', hr, own_base h2 hbase, h3', (Below.refl _ _).grown h3 hbase (fun k hk => by cases hk), .inr fun q hq => (h2.lt q hq).1⟩
  by_cases hf : c0 < n + m
  · exact new hf
  · cases A0 with
    | none => exact new (by have := (sees_own hown).nil_ rfl; omega)
    | some a0 =>
      obtain ⟨g, c2, hv, _⟩ : ∃ g c2, Value.slice (some a0) n c0 = .slice (some ⟨g, 0, none⟩) n c2 ∧ True := by
        obtain ⟨_, h2⟩ := hown
        rcases h2 with ⟨h0, _⟩ | ⟨g, cap, cur, hv, _⟩
        · cases h0
        · exact ⟨g, cap, hv, trivial⟩
      cases hv
      obtain ⟨ht, hz, hs0, i, hi, hz0, hz1, hz2⟩ := E
      have hnl : 0 < news.length := by rw [hsee.len]; exact Nat.mul_pos hm hs0
      obtain ⟨b, o, rfl, _⟩ := hsee.look 0 _ (List.getElem?_eq_getElem hnl)
      obtain ⟨w', hr, r1, r2⟩ := run_append_fits (P := P) w base t ty e i s ht hi hz1 g n c0 xs hown ⟨b, o, none⟩ m c news hsee.len (fun j u hu => by
        obtain ⟨b', o', hA', hc⟩ := hsee.look j u hu
        cases hA'
        rw [Addr.add_lit]; exact hc) h1 (by omega)
      exact ⟨some ⟨g, 0, none⟩, c0, w', hr, r1, r2, (Below.refl _ _).grown r2 hbase (fun k hk => (hown.lt k hk).1), .inl rfl⟩

theorem step_app2 {P : Program} {t e : TypeId} {z : Value} {s bytes : Nat} (E : Elem P t e z s bytes) {ops : Array Oper} {o : Oper} {a : Act} {K : Act → World → Prop} {Q : Exit → Act → World → Prop} {w : World} {F : Prop}
    (hgd : o.guard = none) (x y : Operand) (ho : o.op = .call { callee := .builtin .append, args := #[x, y], argTypes := #[t, t] })
    {base : Nat} {A0 : Option Addr} {n c0 : Nat} {xs : List Value} (hs : a.eval x = .slice A0 n c0) (hown : w.ownsRow base e s (.slice A0 n c0) n xs)
    {A : Option Addr} {m c : Nat} {news : List Value} (hx : a.eval y = .slice A m c) (hsee : Sees w s A m c news) (h1 : ∀ u ∈ news, u.oneCell' = true) (hm : 0 < m) (h63 : n + m ≤ maxLen) (hb : (n + m) * bytes ≤ 140737488355328) (hbase : base ≤ w.heap.size)
    (h : ∀ A' c' w', w'.ownsRow base e s (.slice A' (n + m) c') (n + m) (xs ++ news) → w.grownBy w' (Value.slice A0 n c0).ownBlock → Below base w w' → Lies w (.slice A0 n c0) (.slice A' (n + m) c') → K (a.put o.dst (.slice A' (n + m) c')) w') :
    if Region.wanted o (yielded ops a.tmps) = true then Oper.wp P o a w K Q else F := by
  rw [if_pos (by simp [Region.wanted, hgd])]
  obtain ⟨A', c', w', hr, h2, h3, h4, h5⟩ := run_app2 (ty := o.type) E hown hsee h1 hm h63 hb hbase
  unfold Oper.wp execOp
  simp only [ho, resolve, invoke, builtin, Sem.run_bind, Sem.run_pure, Result.andThen_ok, List.map_toArray, List.map_cons, List.map_nil, hs, hx, hr]
  exact h A' c' w' h2 h3 h4 h5

theorem grown_drew {w w' : World} {r : Option Nat} (h : w.grownBy w' r) : w.grownBy w'.drew r := ⟨h.os, h.tape, h.output, h.size, h.block⟩
theorem grown_alloc {w w' : World} {r : Option Nat} (h : w.grownBy w' r) (o : Obj) : w.grownBy (w'.alloc o) r :=
  ⟨h.os, h.tape, h.output, Nat.le_trans h.size (by simp), fun k hk hn => by rw [Below.heap_alloc _ _ _ (Nat.lt_of_lt_of_le hk h.size)]; exact h.block k hk hn⟩
theorem grown_trans {w w1 w2 : World} {r : Option Nat} (h : w.grownBy w1 r) (k : w1.grownBy w2 r) : w.grownBy w2 r :=
  ⟨k.os.trans h.os, k.tape.trans h.tape, k.output.trans h.output, Nat.le_trans h.size k.size, fun i hi hn => (k.block i (Nat.lt_of_lt_of_le hi h.size) hn).trans (h.block i hi hn)⟩
theorem sees_lit {w : World} {g : Nat} {u : Value} {e : TypeId} (h : w.heap[g]? = some (.cells #[u] e (0, 0))) : Sees w 1 (some ⟨g, 0, none⟩) 1 1 [u] :=
  sees_block h rfl (Nat.le_refl _) (by decide) ⟨[], rfl⟩
theorem lit_new {w : World} {o : Obj} {g : Nat} (h : g = w.heap.size) : (w.alloc o).heap[g]? = some o := by subst h; exact heap_alloc_new w o
theorem lit_skip {w : World} {o o' : Obj} {g : Nat} (h : w.heap[g]? = some o') : (w.alloc o).heap[g]? = some o' := by
  rw [Below.heap_alloc _ _ _ (Nat.lt_of_not_le fun h' => by rw [Array.getElem?_eq_none h'] at h; cases h)]; exact h
theorem lit_drew {w : World} {o' : Obj} {g : Nat} (h : w.heap[g]? = some o') : w.drew.heap[g]? = some o' := h
theorem grown_kept {w w' : World} {r : Option Nat} (h : w.grownBy w' r) {B : Nat} (hB : ∀ q, B ≤ q → some q ≠ r) : ∀ (g : Nat) (o : Obj), w.heap[g]? = some o → B ≤ g → w'.heap[g]? = some o := fun g o ho hg =>
  (h.block g (Nat.lt_of_not_le fun h' => by rw [Array.getElem?_eq_none h'] at ho; cases ho) (hB g hg)).trans ho
theorem cell_one {w : World} {b : Nat} {x y : Value} {T : TypeId} (h : w.heap[b]? = some (.cells #[x, y] T (0, 0))) : w.cell? ⟨b, 1, none⟩ = some y := by simp [World.cell?, h]
theorem cell_zero {w : World} {b : Nat} {x y : Value} {T : TypeId} (h : w.heap[b]? = some (.cells #[x, y] T (0, 0))) : w.cell? ⟨b, 0, none⟩ = some x := by simp [World.cell?, h]
theorem own_kept_as {w w' : World} {base e s n : Nat} {v : Value} {xs : List Value} (h : w.ownsRow base e s v n xs) {row : Option Nat} (hg : w.grownBy w' row) (hne : v.ownBlock = none ∨ v.ownBlock ≠ row) : w'.ownsRow base e s v n xs := h.kept hg hne
theorem lies_mono {w W : World} {v v' : Value} (h : Lies W v v') (hs : w.heap.size ≤ W.heap.size) : Lies w v v' := h.imp id fun h q hq => Nat.le_trans hs (h q hq)
theorem lies_ne {w : World} {a a' b : Value} (h : Lies w a a') (hne : ∀ q, a.ownBlock = some q → b.ownBlock ≠ some q) (hlt : ∀ q, b.ownBlock = some q → q < w.heap.size) : ∀ q, a'.ownBlock = some q → b.ownBlock ≠ some q := by
  intro q hq hb
  rcases h with e | h
  · rw [e] at hq; exact hne q hq hb
  · have := h q hq; have := hlt q hb; omega
theorem ne_swap {a b : Value} (h : ∀ q, a.ownBlock = some q → b.ownBlock ≠ some q) : ∀ q, b.ownBlock = some q → a.ownBlock ≠ some q := fun q hb ha => h q ha hb
theorem ne_row {a b : Value} (h : ∀ q, a.ownBlock = some q → b.ownBlock ≠ some q) : b.ownBlock = none ∨ b.ownBlock ≠ a.ownBlock := by
  cases hb : b.ownBlock with
  | none => exact .inl rfl
  | some q => exact .inr fun e => h q e.symm hb
theorem gb2 (wr : World) (a b : Obj) : wr.grownBy ((wr.alloc a).alloc b).drew none := grown_drew (grown_alloc (grown_alloc (World.grownBy.refl _ _) _) _)
theorem gb3 (wr : World) (a b c : Obj) : wr.grownBy (((wr.alloc a).alloc b).alloc c).drew none := grown_drew (grown_alloc (grown_alloc (grown_alloc (World.grownBy.refl _ _) _) _) _)
end Go.Proofs.Ythidfmkmklnhhaa
