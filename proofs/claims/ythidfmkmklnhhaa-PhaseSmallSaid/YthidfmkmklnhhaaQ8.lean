/- append(s, make([]T, m)...) on an own row of integers. No program is named here. -/
import Derived.Test.YthidfmkmklnhhaaQ7
import Derived.Lib.AppendZerosOnto
namespace Go.Proofs.Ythidfmkmklnhhaa
open Go.RowKit

theorem zeros_list (K : IntKind) (m : Nat) : (Builtin.zeroCells (Value.int K 0).cells m).toList = (List.replicate m (0 : Int)).map (Value.int K) := by
  apply List.ext_getElem
  · simp [Builtin.zeroCells, Value.cells]
  · intro i h1 h2
    have e : i % 1 = 0 := Nat.mod_one i
    simp [Builtin.zeroCells, Value.cells, e]

theorem run_appZ {P : Program} {t tn ty e : TypeId} {K kn kq : IntKind} {bytes : Nat} (E : Elem P t e (.int K 0) 1 bytes) (htn : P.underlying tn = some (.int kn)) {w : World} {base : Nat} {v : Value} {n : Nat} {xs : List Int} (hown : w.ownsRow base e 1 v n (xs.map (Value.int K)))
    {m : Nat} {M : Int} (hM : M = (m : Int)) (h63 : n + m ≤ maxLen) (hb : (n + m) * bytes ≤ 140737488355328) (hbase : base ≤ w.heap.size) :
    ∃ v' w', (Builtin.append_ #[t, tn] ty #[v, .int kq M]).run P w = .ok v' w' ∧ w'.ownsRow base e 1 v' (n + m) ((xs ++ List.replicate m 0).map (Value.int K)) ∧ Below base w w' := by
  subst hM
  obtain ⟨ht, hz, hs0, i, hi, hz0, hz1, hz2⟩ := E
  have hsmall : n + m ≤ 9223372036854775807 := by simp only [maxLen] at h63; omega
  have hxl : xs.length = n := by have := hown.1; simpa using this
  have hlen : ((xs ++ List.replicate m 0).map (Value.int K)).length = (n + m) * 1 := by simp [hxl]
  have hw : IntKind.i64.wrap (m : Int) = m := by rw [IntKind.wrap_i64]; omega
  have hneg : ¬ ((m : Int) < 0) := by omega
  have hmb : m * bytes ≤ 140737488355328 := Nat.le_trans (Nat.mul_le_mul_right _ (Nat.le_add_left m n)) hb
  have h48i : ¬ (281474976710656 < (m : Int) * (i.bytes : Int)) := by
    rw [← Int.natCast_mul, hz2]; omega
  have bel : ∀ (cs : Array Value), Below base w (w.drew.alloc (.cells cs e)) := fun cs => ((Below.refl base w).drew).alloc hbase _
  rcases hown.2 with ⟨rfl, rfl⟩ | ⟨g, cap, cur, rfl, hbg, hg, hnc, hcm, hcs, htake⟩
  · have hx : xs = [] := List.eq_nil_of_length_eq_zero hxl
    subst hx
    by_cases hm : m = 0
    · subst hm
      refine ⟨.slice none 0 0, w, ?_, World.ownsRow_nil w base e 1, Below.refl _ _⟩
      simp [Builtin.append_, run_underlying ht, run_underlying htn, sizeOf, typeInfo, hi, asInt, asIntOf, IntKind.wrap_i64]
    · have hr := Lib.run_append_nil_zeros (P := P) w t tn ty e i (.int K 0) kq kn ht htn hi hz0 m (by omega) (by omega) (by omega) (by rw [hz2]; omega)
      refine ⟨_, _, by simpa using hr, ?_, bel _⟩
      rw [Nat.zero_add]
      refine ⟨by simp, .inr ⟨w.heap.size, _, _, rfl, hbase, heap_alloc_new w.drew _, grownCap_ge w m 0 e, grownCap_le_maxLen w m 0 e (by omega), ?_, ?_⟩⟩
      · have := grownCap_ge w m 0 e
        simp [Builtin.zeroCells, Value.cells]; omega
      · rw [Array.toList_append, zeros_list]
        have : m * 1 = ((List.replicate m (0 : Int)).map (Value.int K)).length := by simp
        rw [List.nil_append, this]
        exact List.take_left
  · by_cases hroom : n + m ≤ cap
    · have hvl : (Builtin.zeroCells (Value.int K 0).cells m).toList.length = m := by rw [zeros_list]; simp
      have hst := run_storeCells_at P g n e (Builtin.zeroCells (Value.int K 0).cells m).toList 0 cur w hg (by rw [hvl, hcs]; omega) (by rw [zeros_list]; exact ints_oneCell K _)
      by_cases hm : m = 0
      · subst hm
        refine ⟨.slice (some ⟨g, 0, none⟩) n cap, w, ?_, by simpa using hown, Below.refl _ _⟩
        simp [Builtin.append_, run_underlying ht, run_underlying htn, sizeOf, typeInfo, hi, asInt, asIntOf, IntKind.wrap_i64, hnc, storeCells]
      · have hr : (Builtin.append_ #[t, tn] ty #[.slice (some ⟨g, 0, none⟩) n cap, .int kq m]).run P w = .ok (.slice (some ⟨g, 0, none⟩) (n + m) cap) (w.setRow g (cur.toList.take n ++ (Builtin.zeroCells (Value.int K 0).cells m).toList ++ cur.toList.drop (n + m)).toArray) := by
          simp only [Nat.add_zero, hvl] at hst
          simp [Builtin.append_, run_underlying ht, run_underlying htn, sizeOf, typeInfo, zeroValue, hi, hz0, hz1, asInt, asIntOf, hw, hneg, h48i, hroom, hm, Addr.add_lit, hst]
        refine ⟨_, _, hr, ⟨hlen, .inr ⟨g, cap, _, rfl, hbg, setRow_heap w g cur _ e _ hg, hroom, hcm, ?_, ?_⟩⟩, ?_⟩
        · simp only [List.size_toArray, List.length_append, List.length_take, List.length_drop, Array.length_toList, hvl]
          omega
        · have htn' : cur.toList.take n = xs.map (Value.int K) := by rw [← htake, Nat.mul_one]
          rw [htn', zeros_list, ← List.map_append, ← hlen]
          exact List.take_left
        · exact ⟨rfl, rfl, rfl, by simp, fun k hk => setRow_other w g k _ (by omega)⟩
    · have hold : (Builtin.firstCells i.size n (.slice (some ⟨g, 0, none⟩) n cap)).run P w.drew = .ok (xs.map (Value.int K)).toArray w.drew := by
        refine run_firstCells_some (P := P) w.drew i.size n ⟨g, 0, none⟩ n cap _ (by rw [hz1]; simp [hxl]) fun j u hj => ?_
        exact hown.cells (g := g) rfl j u hj
      have hm : 0 < m := by omega
      have hr := Lib.run_append_grow_zeros (P := P) w t tn ty e i (.int K 0) kq kn ht htn hi hz0 (some ⟨g, 0, none⟩) n cap _ hold m hm (by omega) (by omega) (by omega) (by rw [hz2]; omega) (by rw [hz2]; exact growslice_fits (by omega) hb)
      refine ⟨_, _, hr, ⟨hlen, .inr ⟨w.heap.size, _, _, rfl, hbase, heap_alloc_new w.drew _, grownCap_ge w (n + m) cap e, grownCap_le_maxLen w (n + m) cap e h63, ?_, ?_⟩⟩, bel _⟩
      · have := grownCap_ge w (n + m) cap e
        simp [Builtin.zeroCells, Value.cells, hxl]; omega
      · simp only [Array.toList_append, zeros_list]
        rw [← List.map_append, ← hlen]
        exact List.take_left

theorem wpList_appZ {P : Program} {t tn e : TypeId} {K kn kq : IntKind} {bytes : Nat} (E : Elem P t e (.int K 0) 1 bytes) (htn : P.underlying tn = some (.int kn)) {ops : Array Oper} {rest : List Oper} {o : Oper} {a : Act} {Q : Exit → Act → World → Prop} {w : World}
    (hgd : o.guard = none) (x y : Operand) (ho : o.op = .call { callee := .builtin .append, args := #[x, y], argTypes := #[t, tn] })
    {base : Nat} {v : Value} {n : Nat} {xs : List Int} (hs : a.eval x = v) (hown : w.ownsRow base e 1 v n (xs.map (Value.int K)))
    {m : Nat} {M : Int} (hx : a.eval y = .int kq M) (hM : M = (m : Int)) (h63 : n + m ≤ maxLen) (hb : (n + m) * bytes ≤ 140737488355328) (hbase : base ≤ w.heap.size)
    (h : ∀ A' c' w', w'.ownsRow base e 1 (.slice A' (n + m) c') (n + m) ((xs ++ List.replicate m 0).map (Value.int K)) → Below base w w' → wpList P ops Q rest (a.put o.dst (.slice A' (n + m) c')) w') : wpList P ops Q (o :: rest) a w := by
  refine wpList_plain hgd fun _ hK => ?_
  obtain ⟨v', w', hr, h2, h3⟩ := run_appZ (ty := o.type) E htn hown hM h63 hb hbase
  obtain ⟨A', c', rfl⟩ : ∃ A' c', v' = .slice A' (n + m) c' := by
    rcases h2.2 with ⟨h0, hn⟩ | ⟨g, cap, cur, hv, _⟩
    · exact ⟨none, 0, by rw [h0, hn]⟩
    · exact ⟨_, _, hv⟩
  exact Lib.wp_append_run w x y t tn ho v _ hs hx _ w' hr (hK _ _ (h A' c' w' h2 h3))
end Go.Proofs.Ythidfmkmklnhhaa
