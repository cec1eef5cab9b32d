/- append on an own row: what the old slice shows stays. No program is named here. -/
import Derived.Test.YthidfmkmklnhhaaQ5
namespace Go.Proofs.Ythidfmkmklnhhaa
open Go.RowKit
set_option linter.unusedVariables false

theorem own_pre {w : World} {base e s g n m c : Nat} {xs ys : List Value} (h : w.ownsRow base e s (.slice (some ⟨g, 0, none⟩) m c) m (xs ++ ys)) (hx : xs.length = n * s) (hn : n ≤ m) : w.ownsRow base e s (.slice (some ⟨g, 0, none⟩) n c) n xs := by
  obtain ⟨r1, r2⟩ := h
  rcases r2 with ⟨e, _⟩ | ⟨g', cp, cur, hv, hb, hh, hnc, hcm, hcs, ht⟩
  · cases e
  · cases hv
    refine ⟨hx, .inr ⟨g, c, cur, rfl, hb, hh, Nat.le_trans hn hnc, hcm, hcs, ?_⟩⟩
    have h1 := Nat.mul_le_mul_right s hn
    have h3 : (cur.toList.take (m * s)).take (n * s) = (xs ++ ys).take (n * s) := by rw [ht]
    rw [List.take_take, Nat.min_eq_left h1, ← hx, List.take_left] at h3
    rw [← hx]; exact h3

theorem run_app4 {P : Program} {t ty e : TypeId} {z : Value} {s bytes : Nat} (E : Elem P t e z s bytes) {w : World} {base : Nat} {A0 : Option Addr} {n c0 : Nat} {xs : List Value} (hown : w.ownsRow base e s (.slice A0 n c0) n xs)
    {A : Option Addr} {m c : Nat} {news : List Value} (hsee : Sees w s A m c news) (h1 : ∀ u ∈ news, u.oneCell' = true) (hm : 0 < m) (h63 : n + m ≤ maxLen) (hb : (n + m) * bytes ≤ 140737488355328) (hbase : base ≤ w.heap.size) :
    ∃ A' c' w', (Builtin.append_ #[t, t] ty #[.slice A0 n c0, .slice A m c]).run P w = .ok (.slice A' (n + m) c') w' ∧ w'.ownsRow base e s (.slice A' (n + m) c') (n + m) (xs ++ news) ∧ w.grownBy w' (Value.slice A0 n c0).ownBlock ∧ Below base w w' ∧ w'.ownsRow base e s (.slice A0 n c0) n xs := by
  have new : ∀ (hf : c0 < n + m), ∃ A' c' w', (Builtin.append_ #[t, t] ty #[.slice A0 n c0, .slice A m c]).run P w = .ok (.slice A' (n + m) c') w' ∧ w'.ownsRow base e s (.slice A' (n + m) c') (n + m) (xs ++ news) ∧ w.grownBy w' (Value.slice A0 n c0).ownBlock ∧ Below base w w' ∧ w'.ownsRow base e s (.slice A0 n c0) n xs := fun hf => by
    obtain ⟨A', c', w', hr, h2, h3⟩ := run_appG (ty := ty) E (sees_own hown) hsee h1 hm hf h63 hb
    have h3' : w.grownBy w' (Value.slice A0 n c0).ownBlock := ⟨h3.os, h3.tape, h3.output, h3.size, fun k hk _ => h3.block k hk (by simp)⟩
    exact ⟨A', c', w', hr, own_base h2 hbase, h3', (Below.refl _ _).grown h3 hbase (fun k hk => by cases hk), hown.kept h3 (by cases (Value.slice A0 n c0).ownBlock <;> simp)⟩
  by_cases hf : c0 < n + m
  · exact new hf
  · cases A0 with
    | none => exact new (by have := (sees_own hown).nil_ rfl; omega)
    | some a0 =>
      obtain ⟨g, c2, hv, _⟩ : ∃ g c2, Value.slice (some a0) n c0 = .slice (some ⟨g, 0, none⟩) n c2 ∧ True := by
        obtain ⟨_, h2⟩ := hown
        rcases h2 with ⟨h0, _⟩ | ⟨g, cap, cur, hv, _⟩
        · cases h0
        · exact ⟨g, cap, hv, trivial⟩
      cases hv
      obtain ⟨ht, hz, hs0, i, hi, hz0, hz1, hz2⟩ := E
      have hnl : 0 < news.length := by rw [hsee.len]; exact Nat.mul_pos hm hs0
      obtain ⟨b, o, rfl, _⟩ := hsee.look 0 _ (List.getElem?_eq_getElem hnl)
      obtain ⟨w', hr, r1, r2⟩ := run_append_fits (P := P) w base t ty e i s ht hi hz1 g n c0 xs hown ⟨b, o, none⟩ m c news hsee.len (fun j u hu => by
        obtain ⟨b', o', hA', hc⟩ := hsee.look j u hu
        cases hA'
        rw [Addr.add_lit]; exact hc) h1 (by omega)
      exact ⟨some ⟨g, 0, none⟩, c0, w', hr, r1, r2, (Below.refl _ _).grown r2 hbase (fun k hk => (hown.lt k hk).1), own_pre r1 hown.1 (by omega)⟩

theorem wpList_app4 {P : Program} {t e : TypeId} {z : Value} {s bytes : Nat} (E : Elem P t e z s bytes) {ops : Array Oper} {rest : List Oper} {o : Oper} {a : Act} {Q : Exit → Act → World → Prop} {w : World}
    (hgd : o.guard = none) (x y : Operand) (ho : o.op = .call { callee := .builtin .append, args := #[x, y], argTypes := #[t, t] })
    {base : Nat} {A0 : Option Addr} {n c0 : Nat} {xs : List Value} (hs : a.eval x = .slice A0 n c0) (hown : w.ownsRow base e s (.slice A0 n c0) n xs)
    {A : Option Addr} {m c : Nat} {news : List Value} (hx : a.eval y = .slice A m c) (hsee : Sees w s A m c news) (h1 : ∀ u ∈ news, u.oneCell' = true) (hm : 0 < m) (h63 : n + m ≤ maxLen) (hb : (n + m) * bytes ≤ 140737488355328) (hbase : base ≤ w.heap.size)
    (h : ∀ A' c' w', w'.ownsRow base e s (.slice A' (n + m) c') (n + m) (xs ++ news) → w.grownBy w' (Value.slice A0 n c0).ownBlock → Below base w w' → w'.ownsRow base e s (.slice A0 n c0) n xs → wpList P ops Q rest (a.put o.dst (.slice A' (n + m) c')) w') : wpList P ops Q (o :: rest) a w := by
  refine wpList_plain hgd fun K hK => ?_
  obtain ⟨A', c', w', hr, h2, h3, h4, h5⟩ := run_app4 (ty := o.type) E hown hsee h1 hm h63 hb hbase
  unfold Oper.wp execOp
  simp only [ho, resolve, invoke, builtin, Sem.run_bind, Sem.run_pure, Result.andThen_ok, List.map_toArray, List.map_cons, List.map_nil, hs, hx, hr]
  exact hK _ _ (h A' c' w' h2 h3 h4 h5)
end Go.Proofs.Ythidfmkmklnhhaa
