/- More words and laws about slices, for all walks of this seat: no program is named here. -/
import Derived.Test.YthidfmkmklnhhaaQ
import Derived.ArgAppend
import Derived.Deep.Upon
namespace Go.Proofs.Ythidfmkmklnhhaa
open Go.RowKit

theorem Sees.one_at {w : World} {g : Nat} (u : Value) (e : TypeId) (h : g = w.heap.size) : Sees (w.alloc (.cells #[u] e)) 1 (some ⟨g, 0, none⟩) 1 1 [u] := by
  subst h; exact Sees.one w u e

/-- append at the capacity, something: always a new block. -/
theorem run_appG {P : Program} {t ty e : TypeId} {z : Value} {s bytes : Nat} (E : Elem P t e z s bytes) {w : World} {A0 : Option Addr} {n c0 : Nat} {xs : List Value} (hold : Sees w s A0 n c0 xs)
    {A : Option Addr} {m c : Nat} {news : List Value} (hsee : Sees w s A m c news) (h1 : ∀ u ∈ news, u.oneCell' = true) (hm : 0 < m) (hfull : c0 < n + m) (h63 : n + m ≤ maxLen) (hb : (n + m) * bytes ≤ 140737488355328) :
    ∃ A' c' w', (Builtin.append_ #[t, t] ty #[.slice A0 n c0, .slice A m c]).run P w = .ok (.slice A' (n + m) c') w' ∧ w'.ownsRow w.heap.size e s (.slice A' (n + m) c') (n + m) (xs ++ news) ∧ w.grownBy w' none := by
  obtain ⟨ht, hz, hs0, i, hi, hz0, hz1, hz2⟩ := E
  have hnl : 0 < news.length := by rw [hsee.len]; exact Nat.mul_pos hm hs0
  obtain ⟨b, o, rfl, _⟩ := hsee.look 0 _ (List.getElem?_eq_getElem hnl)
  have hnews : ∀ j u, news[j]? = some u → w.cell? ((⟨b, o, none⟩ : Addr).add j) = some u := fun j u hj => by
    obtain ⟨b', o', hA', hc⟩ := hsee.look j u hj
    cases hA'
    rw [Addr.add_lit]; exact hc
  cases A0 with
  | none =>
    have hc0 := hold.nil_ rfl
    have hn : n = 0 := by have := hold.cap; omega
    subst hn hc0
    obtain rfl : xs = [] := List.eq_nil_of_length_eq_zero (by simpa using hold.len)
    obtain ⟨v', w', hrun, r1, r2, _⟩ := run_append_own (P := P) w w.heap.size t ty e i z s bytes ht hi hz0 hz1 hz2 hz hs0 (.slice none 0 0) 0 [] (World.ownsRow_nil w _ e s) ⟨b, o, none⟩ m c news hsee.len hnews h1 h63 hb (Nat.le_refl _)
    obtain ⟨A', c', rfl⟩ := own_form r1
    exact ⟨A', c', w', hrun, r1, r2⟩
  | some a0 =>
    obtain ⟨v', w', hrun, r1, r2⟩ := run_append_arg_grows (P := P) w t ty e i z s bytes ht hi hz0 hz1 hz2 hz hs0 a0 n c0 xs hold.len (fun j u hj => by
      obtain ⟨b', o', hA', hc⟩ := hold.look j u hj
      cases hA'
      rw [Addr.add_lit]; exact hc) ⟨b, o, none⟩ m c news hsee.len hnews hfull h63 hb
    obtain ⟨A', c', rfl⟩ := own_form r1
    exact ⟨A', c', w', hrun, r1, r2⟩

theorem wpList_appG {P : Program} {t e : TypeId} {z : Value} {s bytes : Nat} (E : Elem P t e z s bytes) {ops : Array Oper} {rest : List Oper} {o : Oper} {a : Act} {Q : Exit → Act → World → Prop} {w : World}
    (hgd : o.guard = none) (x y : Operand) (ho : o.op = .call { callee := .builtin .append, args := #[x, y], argTypes := #[t, t] })
    {A0 : Option Addr} {n c0 : Nat} {xs : List Value} (hs : a.eval x = .slice A0 n c0) (hold : Sees w s A0 n c0 xs)
    {A : Option Addr} {m c : Nat} {news : List Value} (hx : a.eval y = .slice A m c) (hsee : Sees w s A m c news) (h1 : ∀ u ∈ news, u.oneCell' = true) (hm : 0 < m) (hfull : c0 < n + m) (h63 : n + m ≤ maxLen) (hb : (n + m) * bytes ≤ 140737488355328)
    (h : ∀ A' c' w', w'.ownsRow w.heap.size e s (.slice A' (n + m) c') (n + m) (xs ++ news) → w.grownBy w' none → wpList P ops Q rest (a.put o.dst (.slice A' (n + m) c')) w') : wpList P ops Q (o :: rest) a w := by
  refine wpList_plain hgd fun K hK => ?_
  obtain ⟨A', c', w', hr, h2, h3⟩ := run_appG (ty := o.type) E hold hsee h1 hm hfull h63 hb
  unfold Oper.wp execOp
  simp only [ho, resolve, invoke, builtin, Sem.run_bind, Sem.run_pure, Result.andThen_ok, List.map_toArray, List.map_cons, List.map_nil, hs, hx, hr]
  exact hK _ _ (h A' c' w' h2 h3)

theorem run_app_none {P : Program} {t ty e : TypeId} {i : TypeInfo} (ht : P.underlying t = some (.slice e)) (hi : P.info? e = some i) (w : World) (A0 : Option Addr) (n c0 : Nat) (hn : n ≤ c0) (A : Option Addr) (c : Nat) :
    (Builtin.append_ #[t, t] ty #[.slice A0 n c0, .slice A 0 c]).run P w = .ok (.slice A0 n c0) w := by
  refine run_append_nothing w t t ty e i ht hi A0 n c0 hn (.slice A 0 c) ?_
  cases A with
  | none => exact ⟨.inl ⟨e, ht⟩, fun _ => rfl, by simp [Builtin.firstCells], by simp [Builtin.firstCells], by simp, by simp⟩
  | some a => exact Src.ofSlice w ht a 0 c [] (by simp) (by simp) (by simp)

/-- append to what has no spare room: of what comes out all cells can be seen; what was there before is as it was. -/
theorem run_appV {P : Program} {t ty e : TypeId} {z : Value} {s bytes : Nat} (E : Elem P t e z s bytes) {w : World} {A0 : Option Addr} {n : Nat} {xs : List Value} (hold : Sees w s A0 n n xs)
    {A : Option Addr} {m c : Nat} {news : List Value} (hsee : Sees w s A m c news) (h1 : ∀ u ∈ news, u.oneCell' = true) (h63 : n + m ≤ maxLen) (hb : (n + m) * bytes ≤ 140737488355328) :
    ∃ A' c' w', (Builtin.append_ #[t, t] ty #[.slice A0 n n, .slice A m c]).run P w = .ok (.slice A' (n + m) c') w' ∧ Sees w' s A' (n + m) c' (xs ++ news) ∧ Below w.heap.size w w' := by
  by_cases hm : 0 < m
  · obtain ⟨A', c', w', hr, h2, h3⟩ := run_appG (ty := ty) E hold hsee h1 hm (by omega) h63 hb
    exact ⟨A', c', w', hr, sees_own h2, (Below.refl _ _).grown h3 (Nat.le_refl _) (fun k hk => by cases hk)⟩
  · obtain rfl : m = 0 := by omega
    obtain rfl : news = [] := List.eq_nil_of_length_eq_zero (by simpa using hsee.len)
    obtain ⟨ht, hz, hs0, i, hi, hz0, hz1, hz2⟩ := E
    exact ⟨A0, n, w, run_app_none ht hi w A0 n n (Nat.le_refl _) A c, by simpa using hold, Below.refl _ _⟩

theorem wpList_appV {P : Program} {t e : TypeId} {z : Value} {s bytes : Nat} (E : Elem P t e z s bytes) {ops : Array Oper} {rest : List Oper} {o : Oper} {a : Act} {Q : Exit → Act → World → Prop} {w : World}
    (hgd : o.guard = none) (x y : Operand) (ho : o.op = .call { callee := .builtin .append, args := #[x, y], argTypes := #[t, t] })
    {A0 : Option Addr} {n : Nat} {xs : List Value} (hs : a.eval x = .slice A0 n n) (hold : Sees w s A0 n n xs)
    {A : Option Addr} {m c : Nat} {news : List Value} (hx : a.eval y = .slice A m c) (hsee : Sees w s A m c news) (h1 : ∀ u ∈ news, u.oneCell' = true) (h63 : n + m ≤ maxLen) (hb : (n + m) * bytes ≤ 140737488355328)
    (h : ∀ A' c' w', Sees w' s A' (n + m) c' (xs ++ news) → Below w.heap.size w w' → wpList P ops Q rest (a.put o.dst (.slice A' (n + m) c')) w') : wpList P ops Q (o :: rest) a w := by
  refine wpList_plain hgd fun K hK => ?_
  obtain ⟨A', c', w', hr, h2, h3⟩ := run_appV (ty := o.type) E hold hsee h1 h63 hb
  unfold Oper.wp execOp
  simp only [ho, resolve, invoke, builtin, Sem.run_bind, Sem.run_pure, Result.andThen_ok, List.map_toArray, List.map_cons, List.map_nil, hs, hx, hr]
  exact hK _ _ (h A' c' w' h2 h3)

/-- The shorter of a length and a bound. -/
theorem min_is (n b : Nat) : ∃ k : Nat, k ≤ n ∧ k ≤ b ∧ min n b = k ∧ (n ≤ b ∧ k = n ∨ b < n ∧ k = b) := by
  by_cases h : n ≤ b
  · exact ⟨n, Nat.le_refl _, h, Nat.min_eq_left h, .inl ⟨h, rfl⟩⟩
  · exact ⟨b, by omega, Nat.le_refl _, Nat.min_eq_right (by omega), .inr ⟨by omega, rfl⟩⟩

/-- The builtin min of a length and a bound, at one operation. -/
theorem exec_min {P : Program} {o : Oper} {a : Act} {x y : Operand} {ats : Array TypeId} (ho : o.op = .call { callee := .builtin .min, args := #[x, y], argTypes := ats }) {n b k : Nat} {B : Int} (hx : a.eval x = .int .i64 (n : Int)) (hy : a.eval y = .int .i64 B) (hB : B = (b : Int))
    (hk : n ≤ b ∧ k = n ∨ b < n ∧ k = b) (w : World) : (execOp a.eval o).run P w = .ok (.value (.int .i64 (k : Int))) w := by
  subst hB
  have hr : (Builtin.min_ ats o.type #[.int .i64 (n : Int), .int .i64 (b : Int)]).run P w = .ok (.int .i64 (k : Int)) w := by
    simp [Builtin.min_, Builtin.min2]
    split <;> omega
  unfold execOp
  simp only [ho, resolve, invoke, builtin, Sem.run_bind, Sem.run_pure, Result.andThen_ok, List.map_toArray, List.map_cons, List.map_nil, hx, hy, hr]

/-- b[:k] -/
theorem run_cutr {P : Program} {t e : TypeId} {z : Value} {s bytes : Nat} (E : Elem P t e z s bytes) (A : Option Addr) (n c k : Nat) (hk : k ≤ c) (w : World) :
    (Instr.slice t (.slice A n c) none (some (.int .i64 (k : Int))) none).run P w = .ok (.slice A k c) w := by
  obtain ⟨ht, hz, hs, i, hi, hz0, hz1, hz2⟩ := E
  have hb : (Instr.sliceBound (.int .i64 (k : Int)) c .sliceAcap).run P w = .ok k w := by
    have := run_sliceBound (P := P) (w := w) .i64 (k : Int) c .sliceAcap (by omega) (by omega)
    simpa using this
  simp [Instr.slice, run_underlying ht, Instr.sliceBounds, hb, sizeOf, typeInfo, hi, hz1]
  intro hc
  cases A <;> simp [Addr.add]

/-- b[:k:k] -/
theorem run_cut3 {P : Program} {t e : TypeId} {z : Value} {s bytes : Nat} (E : Elem P t e z s bytes) (A : Option Addr) (n c k : Nat) (hk : k ≤ c) (w : World) :
    (Instr.slice t (.slice A n c) none (some (.int .i64 (k : Int))) (some (.int .i64 (k : Int)))).run P w = .ok (.slice A k k) w := by
  obtain ⟨ht, hz, hs, i, hi, hz0, hz1, hz2⟩ := E
  have hb : (Instr.sliceBound (.int .i64 (k : Int)) c .slice3Acap).run P w = .ok k w := by
    have := run_sliceBound (P := P) (w := w) .i64 (k : Int) c .slice3Acap (by omega) (by omega)
    simpa using this
  have hb2 : (Instr.sliceBound (.int .i64 (k : Int)) k .slice3B).run P w = .ok k w := by
    have := run_sliceBound (P := P) (w := w) .i64 (k : Int) k .slice3B (by omega) (by omega)
    simpa using this
  simp [Instr.slice, run_underlying ht, Instr.sliceBounds, hb, hb2, sizeOf, typeInfo, hi, hz1]
  intro hc
  cases A <;> simp [Addr.add]

/-- Of what is seen the first k elements. -/
theorem Sees.pre {w : World} {s n c k : Nat} {A : Option Addr} {xs : List Value} (h : Sees w s A n c xs) (hk : k ≤ n) : Sees w s A k c (xs.take (k * s)) :=
  ⟨by rw [List.length_take, h.len]; exact Nat.min_eq_left (Nat.mul_le_mul_right _ hk), Nat.le_trans hk h.cap, h.capm, h.nil_, fun j u hu => h.look j u (by
    rw [List.getElem?_take] at hu
    split at hu
    · exact hu
    · cases hu)⟩
/-- The same, capacity and all. -/
theorem Sees.pre3 {w : World} {s n c k : Nat} {A : Option Addr} {xs : List Value} (h : Sees w s A n c xs) (hk : k ≤ n) : Sees w s A k k (xs.take (k * s)) :=
  ⟨(h.pre hk).len, Nat.le_refl _, Nat.le_trans (Nat.le_trans hk h.cap) h.capm, fun hA => by have := h.nil_ hA; have := h.cap; omega, (h.pre hk).look⟩
end Go.Proofs.Ythidfmkmklnhhaa
