/- Plain law of flatNums: its rows from loop to loop. -/
import Derived.Test.YtemhoaleeefhhaaProg
import Derived.Test.YtemhoaleeefhhaaFa
import Derived.Test.YtemhoaleeefhhaaLb64
namespace Go.Proofs.Ytemhoaleeefhhaa
open Go.RowKit
set_option linter.unusedVariables false

theorem E_SS : Elem Try.prog 65 22 (.slice none 0 0) 1 24 := elem_of Try.underlying65 (by kernel_rfl) rfl (by decide)
theorem made_slices (n : Nat) : (madeCells (Value.slice none 0 0).cells (n * 1)).toList = List.replicate n (Value.slice none 0 0) := by
  apply List.ext_getElem
  · simp [madeCells]
  · intro i h1 h2
    have e : i % 1 = 0 := Nat.mod_one i
    simp [madeCells, Value.cells, e]
/-- make([]T, n) of slices: n nil ones. -/
theorem wpList_mkS {P : Program} {t e : TypeId} {bytes : Nat} (E : Elem P t e (.slice none 0 0) 1 bytes) {ops : Array Oper} {rest : List Oper} {o : Oper} {a : Act} {Q : Exit → Act → World → Prop} {w : World}
    (hgd : o.guard = none) (l c : Operand) (hop : o.op = Op.makeSlice t l c) {kl kc : IntKind} (n : Nat) {L C : Int} (hl : a.eval l = .int kl L) (hc : a.eval c = .int kc C) (hL : L = (n : Int)) (hC : C = (n : Int)) (b2 : bytes * n ≤ 281474976710656) (b3 : n ≤ maxLen)
    (hK : ∀ w', w'.ownsRow w.heap.size e 1 (.slice (some ⟨w.heap.size, 0, none⟩) n n) n (List.replicate n (Value.slice none 0 0)) → w.grownBy w' none → Below w.heap.size w w' → wpList P ops Q rest (a.put o.dst (.slice (some ⟨w.heap.size, 0, none⟩) n n)) w') :
    wpList P ops Q (o :: rest) a w := by
  obtain ⟨ht, hz, hs, i, hi, hz0, hz1, hz2⟩ := E
  refine wpList_make_full w hgd l c t hop w.heap.size e i (.slice none 0 0) 1 ht hi hz0 hz1 kl kc L C n hl hc hL hC (by rw [hz2]; exact b2) b3 (Nat.le_refl _) ?_
  intro w' h1 h2
  rw [made_slices] at h1
  exact hK w' h1 h2 ((Below.refl _ w).grown h2 (Nat.le_refl _) (fun k hk => by cases hk))

/-- The first m marks of slice j. -/
def mkL (j m : Nat) : List Int := (List.range m).map fun i : Nat => mkN j i
theorem mkL_succ (j m : Nat) : mkL j (m + 1) = mkL j m ++ [mkN j m] := by simp [mkL, List.range_succ]
theorem mkL_len (j m : Nat) : (mkL j m).length = m := by simp [mkL]
theorem mkL_at {j m i : Nat} (h : i < m) : (mkL j m).getD i 0 = mkN j i := by simp [mkL, List.getD, h]
theorem mkL_at2 {j m i : Nat} {t : List Int} (h : i < m) : (mkL j m ++ t).getD i 0 = mkN j i := by
  rw [List.getD, List.getElem?_append_left (by rw [mkL_len]; exact h), ← List.getD, mkL_at h]
theorem take_put {l : List Int} {i : Nat} {p : List Int} {x : Int} (h : l.take i = p) (hi : i < l.length) : (l.set i x).take (i + 1) = p ++ [x] := by
  rw [List.take_add_one, List.getElem?_set_self (by omega), List.take_set, h, List.set_eq_of_length_le (by rw [← h, List.length_take]; omega)]
  rfl

section
variable {w w' : World} {base : Bs} {K k i : Nat} {V : Nat → Value} {n : Nat → Nat} {L R g : Value}

/-- Loop one: the rows ahead of k are marked, of row k the first i. -/
def PA (w : World) (base : Bs) (K : Nat) (V : Nat → Value) (n : Nat → Nat) (L : Value) (k i : Nat) : Prop :=
  ∃ z, Apt 54 w base K V n z ∧ w.ownsRow base.lo 22 1 L K ((List.range K).map V) ∧ (∀ j, j < k → z j = mkL j (n j)) ∧ (k < K → (z k).take i = mkL k i)
theorem PA.below (h : PA w base K V n L k i) (b : Below w.heap.size w w') : PA w' base K V n L k i := by
  obtain ⟨z, h1, h2, h3, h4⟩ := h
  exact ⟨z, h1.below b, own_below h2 b (Nat.le_refl _), h3, h4⟩
theorem PA.start {z : Nat → List Int} (h : Apt 54 w base K V n z) (hl : w.ownsRow base.lo 22 1 L K ((List.range K).map V)) : PA w base K V n L 0 0 :=
  ⟨z, h, hl, fun j hj => absurd hj (Nat.not_lt_zero _), fun _ => by simp [mkL]⟩
theorem PA.step (h : PA w base K V n L k i) (hk : k < K) (hi : i < n k) : ∃ g c, V k = .slice (some ⟨g, 0, none⟩) (n k) c ∧ base.lo ≤ g ∧ (∃ x, w.cell? ⟨g, i, none⟩ = some (.int .u64 x)) ∧ w.frozen? ⟨g, i, none⟩ = false ∧ PA (w.setCell ⟨g, i, none⟩ (.int .u64 (mkN k i))) base K V n L k (i + 1) := by
  obtain ⟨z, h1, h2, h3, h4⟩ := h
  have hv := h1.v k hk
  obtain ⟨g, c, e, hb⟩ := own_addrK hv (by omega)
  have hv2 := hv
  rw [e] at hv2
  obtain ⟨c0, c1⟩ := own_cellK hv2 hi
  have hlen : (z k).length = n k := by have := hv.1; simpa using this
  refine ⟨g, c, e, hb, ⟨_, c0⟩, c1, upd z k ((z k).set i (mkN k i)), h1.set hk e i _, own_ne h2 (grown_set w g i _) ?_, fun j hj => ?_, fun _ => ?_⟩
  · intro q hq
    cases hq
    exact own_dis hv2 h2 (by decide) g rfl
  · rw [upd_ne _ _ (by omega)]; exact h3 j hj
  · rw [upd_at, mkL_succ]; exact take_put (h4 hk) (by omega)
theorem PA.next (h : PA w base K V n L k (n k)) (hk : k < K) : PA w base K V n L (k + 1) 0 := by
  obtain ⟨z, h1, h2, h3, h4⟩ := h
  have hlen : (z k).length = n k := by have := (h1.v k hk).1; simpa using this
  refine ⟨z, h1, h2, fun j hj => ?_, fun _ => by simp [mkL]⟩
  by_cases e : j = k
  · subst e; have := h4 hk; rw [← hlen, List.take_length] at this; rw [this, hlen]
  · exact h3 j (by omega)
theorem PA.end (h : PA w base K V n L K i) : Apt 54 w base K V n (fun j => mkL j (n j)) ∧ w.ownsRow base.lo 22 1 L K ((List.range K).map V) := by
  obtain ⟨z, h1, h2, h3, h4⟩ := h
  exact ⟨⟨fun j hj => by have := h1.v j hj; rw [h3 j hj] at this; exact this, h1.d, h1.kp, h1.kt⟩, h2⟩
theorem ls_cell {base : Nat} {q c : Nat} (h : w.ownsRow base 22 1 (.slice (some ⟨q, 0, none⟩) K c) K ((List.range K).map V)) (hk : k < K) : w.cell? ⟨q, k, none⟩ = some (V k) := by
  rw [h.cellAt k (by omega)]; simp [hk]
theorem PA.ls {q c : Nat} (h : PA w base K V n (.slice (some ⟨q, 0, none⟩) K c) k i) (hk : k < K) : w.cell? ⟨q, k, none⟩ = some (V k) := by
  obtain ⟨z, h1, h2, h3, h4⟩ := h
  exact ls_cell h2 hk

/-- Rows of a family over the marked rows. -/
def FB (m0 : Nat) (w : World) (base : Bs) (K : Nat) (V : Nat → Value) (n : Nat → Nat) (L R : Value) (k : Nat) : Prop :=
  ∃ G m y xs, Fam 54 22 w base K V n (fun j => mkL j (n j)) k G m y L ((List.range K).map V) R xs ∧ (∀ j, j < k → xs[j]? = some (G j)) ∧ (∀ j, j < k → m j = n j + 64 ∧ (m0 = 0 → y j = mkL j (n j + 64)))
theorem FB.below {m0 : Nat} (h : FB m0 w base K V n L R k) (b : Below w.heap.size w w') : FB m0 w' base K V n L R k := by
  obtain ⟨G, m, y, xs, h1, h2, h3⟩ := h
  exact ⟨G, m, y, xs, h1.below b, h2, h3⟩
theorem FB.zero {m0 : Nat} {xs : List Value} (h : Apt 54 w base K V n (fun j => mkL j (n j))) (hl : w.ownsRow base.lo 22 1 L K ((List.range K).map V)) (hr : w.ownsRow base.lo 22 1 R K xs) (hd : Dis L R) (ts : base.T ≠ 22) : FB m0 w base K V n L R 0 :=
  ⟨fun _ => .slice none 0 0, fun _ => 0, fun _ => [], xs, Fam.zero h hl hr hd (by decide) ts, fun j hj => absurd hj (Nat.not_lt_zero _), fun j hj => absurd hj (Nat.not_lt_zero _)⟩
theorem FB.again {m0 m1 : Nat} (h : FB m0 w base K V n L R k) : FB m1 w base K V n L R 0 := by
  obtain ⟨G, m, y, xs, h1, h2, h3⟩ := h
  exact FB.zero h1.a h1.l h1.r h1.lr h1.ts
theorem FB.ls {m0 q c j : Nat} (h : FB m0 w base K V n (.slice (some ⟨q, 0, none⟩) K c) R k) (hk : j < K) : w.cell? ⟨q, j, none⟩ = some (V j) := by
  obtain ⟨G, m, y, xs, h1, h2, h3⟩ := h
  exact ls_cell h1.l hk

/-- The same, with the row G k = g under way: i elements behind the first n k. -/
def FC (w : World) (base : Bs) (K : Nat) (V : Nat → Value) (n : Nat → Nat) (L R : Value) (k i : Nat) (g : Value) : Prop :=
  ∃ G m y xs, Fam 54 22 w base K V n (fun j => mkL j (n j)) (k + 1) G m y L ((List.range K).map V) R xs ∧ (∀ j, j < k → xs[j]? = some (G j)) ∧ (∀ j, j < k → m j = n j + 64 ∧ ((0 : Nat) = 0 → y j = mkL j (n j + 64))) ∧ G k = g ∧ m k = n k + i ∧ y k = mkL k (n k + i)
theorem FC.below (h : FC w base K V n L R k i g) (b : Below w.heap.size w w') : FC w' base K V n L R k i g := by
  obtain ⟨G, m, y, xs, h1, h2, h3⟩ := h
  exact ⟨G, m, y, xs, h1.below b, h2, h3⟩
theorem FC.start (h : FB 0 w base K V n L R k) (hk : k < K) : FC w base K V n L R k 0 (V k) := by
  obtain ⟨G, m, y, xs, h1, h2, h3⟩ := h
  refine ⟨_, _, _, xs, h1.start hk, fun j hj => ?_, fun j hj => ?_, upd_at _ _ _, upd_at _ _ _, upd_at _ _ _⟩
  · rw [upd_ne _ _ (by omega)]; exact h2 j hj
  · rw [upd_ne _ _ (by omega), upd_ne _ _ (by omega)]; exact h3 j hj
theorem FC.own (h : FC w base K V n L R k i g) : ∃ A c, g = .slice A (n k + i) c ∧ w.ownsRow base.lo 54 1 (.slice A (n k + i) c) (n k + i) ((mkL k (n k + i)).map (Value.int .u64)) := by
  obtain ⟨G, m, y, xs, h1, h2, h3, rfl, h5, h6⟩ := h
  have hg := h1.g k (Nat.lt_succ_self _)
  rw [h5, h6] at hg
  obtain ⟨A, c, e⟩ := own_form hg
  rw [e] at hg
  exact ⟨A, c, e, hg⟩
theorem FC.app (h : FC w base K V n L R k i g) {v' : Value} (hg : w.grownBy w' g.ownBlock) (ho : w'.ownsRow base.lo 54 1 g (n k + i) ((mkL k (n k + i)).map (Value.int .u64)))
    (hn : w'.ownsRow base.lo 54 1 v' (n k + i + 1) ((mkL k (n k + i)).map (Value.int .u64) ++ [Value.int .u64 (mkN k (n k + i : Nat))])) (hl : Lies w g v') : FC w' base K V n L R k (i + 1) v' := by
  obtain ⟨G, m, y, xs, h1, h2, h3, rfl, h5, h6⟩ := h
  refine ⟨_, _, _, xs, h1.app hg (by rw [h5, h6]; exact ho) (t := [mkN k (n k + i : Nat)]) (m' := n k + i + 1) (by rw [h6, List.map_append]; exact hn) hl, fun j hj => ?_, fun j hj => ?_, upd_at _ _ _, by rw [upd_at]; omega, ?_⟩
  · rw [upd_ne _ _ (by omega)]; exact h2 j hj
  · rw [upd_ne _ _ (by omega), upd_ne _ _ (by omega)]; exact h3 j hj
  · rw [upd_at, h6, ← Nat.add_assoc, mkL_succ]
theorem row_at {base : Nat} {q c : Nat} {xs : List Value} (h : w.ownsRow base 22 1 (.slice (some ⟨q, 0, none⟩) K c) K xs) (hk : k < K) : (∃ x, w.cell? ⟨q, k, none⟩ = some x) ∧ w.frozen? ⟨q, k, none⟩ = false := by
  have hl : xs.length = K := by have := h.1; simpa using this
  exact ⟨⟨xs[k], by rw [h.cellAt k (by omega), List.getElem?_eq_getElem (by omega)]⟩, h.frozenAt k⟩
theorem FC.end {q c : Nat} (h : FC w base K V n L (.slice (some ⟨q, 0, none⟩) K c) k 64 g) (hk : k < K) : ((∃ x, w.cell? ⟨q, k, none⟩ = some x) ∧ w.frozen? ⟨q, k, none⟩ = false) ∧ FB 0 (w.setCell ⟨q, k, none⟩ g) base K V n L (.slice (some ⟨q, 0, none⟩) K c) (k + 1) := by
  obtain ⟨G, m, y, xs, h1, h2, h3, rfl, h5, h6⟩ := h
  have hl : xs.length = K := by have := h1.r.1; simpa using this
  refine ⟨row_at h1.r hk, G, m, y, _, h1.put k _, fun j hj => ?_, fun j hj => ?_⟩
  · by_cases e : j = k
    · subst e; rw [List.getElem?_set_self (by omega)]
    · rw [List.getElem?_set_ne (by omega)]; exact h2 j (by omega)
  · by_cases e : j = k
    · subst e; exact ⟨h5, fun _ => h6⟩
    · exact h3 j (by omega)
theorem FB.see {m0 q c j : Nat} (h : FB m0 w base K V n L (.slice (some ⟨q, 0, none⟩) K c) k) (hj : j < k) : ∃ A c1 A' c' t, w.cell? ⟨q, j, none⟩ = some (.slice A (n j + 64) c1) ∧ V j = .slice A' (n j) c' ∧ Sees w 1 A (n j + 64) c1 ((mkL j (n j) ++ t).map (Value.int .u64)) ∧ Sees w 1 A' (n j) c' ((mkL j (n j)).map (Value.int .u64)) ∧ (m0 = 0 → mkL j (n j) ++ t = mkL j (n j + 64)) := by
  obtain ⟨G, m, y, xs, h1, h2, h3⟩ := h
  have hjK : j < K := Nat.lt_of_lt_of_le hj h1.kK
  have hg := h1.g j hj
  obtain ⟨t, ht⟩ := h1.p j hj
  obtain ⟨e1, e2⟩ := h3 j hj
  rw [e1] at hg
  obtain ⟨A, c1, eG⟩ := own_form hg
  have hv := h1.a.v j hjK
  obtain ⟨A', c', eV⟩ := own_form hv
  rw [eG, ht] at hg
  rw [eV] at hv
  exact ⟨A, c1, A', c', t, by rw [h1.r.cellAt j (by omega), h2 j hj, eG], eV, sees_own hg, sees_own hv, fun h0 => by rw [← ht]; exact e2 h0⟩
theorem FB.row {m0 : Nat} (h : FB m0 w base K V n L R k) (hk : k < K) : ∃ A c, V k = .slice A (n k) c ∧ w.ownsRow base.lo 54 1 (.slice A (n k) c) (n k) ((mkL k (n k)).map (Value.int .u64)) := by
  obtain ⟨G, m, y, xs, h1, h2, h3⟩ := h
  have hv := h1.a.v k hk
  obtain ⟨A', c', eV⟩ := own_form hv
  rw [eV] at hv
  exact ⟨A', c', eV, hv⟩
theorem FB.many {q c : Nat} (h : FB 1 w base K V n L (.slice (some ⟨q, 0, none⟩) K c) k) (hk : k < K) {v' : Value} {t : List Int} (hg : w.grownBy w' (V k).ownBlock) (ho : w'.ownsRow base.lo 54 1 (V k) (n k) ((mkL k (n k)).map (Value.int .u64)))
    (hn : w'.ownsRow base.lo 54 1 v' (n k + 64) ((mkL k (n k)).map (Value.int .u64) ++ t.map (Value.int .u64))) (hl : Lies w (V k) v') : ((∃ x, w'.cell? ⟨q, k, none⟩ = some x) ∧ w'.frozen? ⟨q, k, none⟩ = false) ∧ FB 1 (w'.setCell ⟨q, k, none⟩ v') base K V n L (.slice (some ⟨q, 0, none⟩) K c) (k + 1) := by
  obtain ⟨G, m, y, xs, h1, h2, h3⟩ := h
  have hxl : xs.length = K := by have := h1.r.1; simpa using this
  have h5 := (h1.start hk).app (v' := v') (m' := n k + 64) (t := t) (by rw [upd_at]; exact hg) (by rw [upd_at, upd_at, upd_at]; exact ho) (by rw [upd_at, List.map_append]; exact hn) (by rw [upd_at]; exact hl)
  refine ⟨row_at h5.r hk, _, _, _, _, h5.put k v', fun j hj => ?_, fun j hj => ?_⟩
  · by_cases e : j = k
    · subst e; rw [List.getElem?_set_self (by omega), upd_at]
    · rw [List.getElem?_set_ne (by omega), upd_ne _ _ e, upd_ne _ _ e]; exact h2 j (by omega)
  · refine ⟨?_, fun h0 => absurd h0 (by decide)⟩
    by_cases e : j = k
    · subst e; rw [upd_at]
    · rw [upd_ne _ _ e, upd_ne _ _ e]; exact (h3 j (by omega)).1
end
end Go.Proofs.Ytemhoaleeefhhaa
