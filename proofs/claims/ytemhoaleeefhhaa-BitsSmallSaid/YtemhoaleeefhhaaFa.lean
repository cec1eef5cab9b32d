/- Several own rows at once, and rows that grow out of them. No program is named here. -/
import Derived.Test.YtemhoaleeefhhaaQ9
namespace Go.Proofs.Ytemhoaleeefhhaa
open Go.RowKit
set_option linter.unusedVariables false

/-- Two slices lie in different blocks. -/
def Dis (a b : Value) : Prop := ∀ q, a.ownBlock = some q → b.ownBlock ≠ some q
theorem Dis.symm {a b : Value} (h : Dis a b) : Dis b a := fun q hb ha => h q ha hb
def upd {α : Type} (f : Nat → α) (k : Nat) (x : α) : Nat → α := fun j => if j = k then x else f j
theorem upd_at {α : Type} (f : Nat → α) (k : Nat) (x : α) : upd f k x k = x := if_pos rfl
theorem upd_ne {α : Type} (f : Nat → α) {k j : Nat} (x : α) (h : j ≠ k) : upd f k x j = f j := if_neg h

theorem grown_set (w : World) (q i : Nat) (u : Value) : w.grownBy (w.setCell ⟨q, i, none⟩ u) (some q) :=
  ⟨rfl, rfl, rfl, by simp [World.setCell], fun k _ hk => Below.heap_setCell _ _ _ _ (fun e => hk (by rw [e]))⟩
theorem own_ne {w w' : World} {base e s n : Nat} {v : Value} {xs : List Value} {r : Option Nat} (h : w.ownsRow base e s v n xs) (hg : w.grownBy w' r) (hd : ∀ q, r = some q → v.ownBlock ≠ some q) : w'.ownsRow base e s v n xs :=
  h.kept hg (by
    cases hr : r with
    | none => cases hv : v.ownBlock with
      | none => exact .inl rfl
      | some q => exact .inr (by simp)
    | some q => exact .inr (hd q hr))

structure Bs where
  lo : Nat
  b : Nat
  cs : Array Value
  T : TypeId
theorem lt_heapK {w : World} {b : Nat} {o : Obj} (h : w.heap[b]? = some o) : b < w.heap.size := (Array.getElem?_eq_some_iff.1 h).1
theorem kp_ne {w w' : World} {b : Nat} {o : Obj} {r : Option Nat} (h : w.heap[b]? = some o) (hg : w.grownBy w' r) (hd : ∀ q, r = some q → q ≠ b) : w'.heap[b]? = some o :=
  (hg.block b (lt_heapK h) (fun e => hd b e.symm rfl)).trans h
theorem own_typeK {w : World} {base e s n b : Nat} {v : Value} {xs : List Value} {cs : Array Value} {t : TypeId} {fz : Nat × Nat} (h : w.ownsRow base e s v n xs) (hb : w.heap[b]? = some (.cells cs t fz)) (ht : t ≠ e) : v.ownBlock ≠ some b := by
  intro hq
  rcases h.2 with ⟨e0, _⟩ | ⟨g1, c1, cur1, e1, _, hh1, _⟩
  · rw [e0] at hq; cases hq
  · rw [e1] at hq
    cases hq
    rw [hh1] at hb
    cases hb
    exact ht rfl

structure Apt (e : TypeId) (w : World) (base : Bs) (K : Nat) (V : Nat → Value) (n : Nat → Nat) (z : Nat → List Int) : Prop where
  v : ∀ i, i < K → w.ownsRow base.lo e 1 (V i) (n i) ((z i).map (Value.int .u64))
  d : ∀ i j, i < K → j < K → i ≠ j → Dis (V i) (V j)
  kp : w.heap[base.b]? = some (.cells base.cs base.T (0, 0))
  kt : base.T ≠ e
theorem Apt.below {e : TypeId} {w w' : World} {base : Bs} {K : Nat} {V : Nat → Value} {n : Nat → Nat} {z : Nat → List Int} (h : Apt e w base K V n z) (k : Below w.heap.size w w') : Apt e w' base K V n z := ⟨fun i hi => own_below (h.v i hi) k (Nat.le_refl _), h.d, (k.block _ (lt_heapK h.kp)).trans h.kp, h.kt⟩
theorem Apt.set {e : TypeId} {w : World} {base : Bs} {K : Nat} {V : Nat → Value} {n : Nat → Nat} {z : Nat → List Int} (h : Apt e w base K V n z) {k g c : Nat} (hk : k < K) (hv : V k = .slice (some ⟨g, 0, none⟩) (n k) c) (i : Nat) (x : Int) :
    Apt e (w.setCell ⟨g, i, none⟩ (.int .u64 x)) base K V n (upd z k ((z k).set i x)) := by
  refine ⟨fun j hj => ?_, h.d, kp_ne h.kp (grown_set w g i _) (fun q hq => by cases hq; have h1 := h.v k hk; rw [hv] at h1; exact fun e2 => own_typeK h1 h.kp h.kt (congrArg some e2)), h.kt⟩
  by_cases e : j = k
  · subst e
    rw [upd_at]
    have h1 := h.v j hj
    rw [hv] at h1 ⊢
    exact own_setK h1 i x
  · rw [upd_ne _ _ e]
    refine own_ne (h.v j hj) (grown_set w g i _) fun q hq => ?_
    cases hq
    exact h.d k j hk hj (Ne.symm e) g (by rw [hv]; rfl)

theorem own_dis {w : World} {b b' e e' s s' n n' : Nat} {v v' : Value} {xs xs' : List Value} (h : w.ownsRow b e s v n xs) (h' : w.ownsRow b' e' s' v' n' xs') (he : e ≠ e') : Dis v v' := by
  intro q hq hq'
  rcases h.2 with ⟨e0, _⟩ | ⟨g1, c1, cur1, e1, _, hh1, _⟩
  · rw [e0] at hq; cases hq
  · rcases h'.2 with ⟨e0, _⟩ | ⟨g2, c2, cur2, e2, _, hh2, _⟩
    · rw [e0] at hq'; cases hq'
    · rw [e1] at hq
      rw [e2] at hq'
      cases hq
      cases hq'
      rw [hh1] at hh2
      cases hh2
      exact he rfl

/-- K rows V; the rows L (it shows V) and R; rows G of the first k of V, that begin as V does. -/
structure Fam (e S : TypeId) (w : World) (base : Bs) (K : Nat) (V : Nat → Value) (n : Nat → Nat) (z : Nat → List Int) (k : Nat) (G : Nat → Value) (m : Nat → Nat) (y : Nat → List Int) (L : Value) (ls : List Value) (R : Value) (xs : List Value) : Prop where
  a : Apt e w base K V n z
  g : ∀ j, j < k → w.ownsRow base.lo e 1 (G j) (m j) ((y j).map (Value.int .u64))
  p : ∀ j, j < k → ∃ t, y j = z j ++ t
  r : w.ownsRow base.lo S 1 R K xs
  l : w.ownsRow base.lo S 1 L K ls
  lr : Dis L R
  dg : ∀ i j, i < k → j < K → i ≠ j → Dis (G i) (V j)
  gg : ∀ i j, i < k → j < k → i ≠ j → Dis (G i) (G j)
  kK : k ≤ K
  he : e ≠ S
  ts : base.T ≠ S

section
variable {e S : TypeId} {w w' : World} {base : Bs} {K k : Nat} {V G : Nat → Value} {n m : Nat → Nat} {z y : Nat → List Int} {L R : Value} {ls xs : List Value}

theorem Fam.below (h : Fam e S w base K V n z k G m y L ls R xs) (b : Below w.heap.size w w') : Fam e S w' base K V n z k G m y L ls R xs :=
  ⟨h.a.below b, fun j hj => own_below (h.g j hj) b (Nat.le_refl _), h.p, own_below h.r b (Nat.le_refl _), own_below h.l b (Nat.le_refl _), h.lr, h.dg, h.gg, h.kK, h.he, h.ts⟩
theorem Fam.zero (h : Apt e w base K V n z) (hl : w.ownsRow base.lo S 1 L K ls) (hr : w.ownsRow base.lo S 1 R K xs) (hd : Dis L R) (he : e ≠ S) (ts : base.T ≠ S) : Fam e S w base K V n z 0 G m y L ls R xs :=
  ⟨h, fun j hj => absurd hj (Nat.not_lt_zero _), fun j hj => absurd hj (Nat.not_lt_zero _), hr, hl, hd, fun i _ hi => absurd hi (Nat.not_lt_zero _), fun i _ hi => absurd hi (Nat.not_lt_zero _), Nat.zero_le _, he, ts⟩
theorem Fam.start (h : Fam e S w base K V n z k G m y L ls R xs) (hk : k < K) : Fam e S w base K V n z (k + 1) (upd G k (V k)) (upd m k (n k)) (upd y k (z k)) L ls R xs := by
  refine ⟨h.a, fun j hj => ?_, fun j hj => ?_, h.r, h.l, h.lr, fun i j hi hj hn => ?_, fun i j hi hj hn => ?_, hk, h.he, h.ts⟩
  · by_cases e : j = k
    · subst e; rw [upd_at, upd_at, upd_at]; exact h.a.v j hk
    · rw [upd_ne _ _ e, upd_ne _ _ e, upd_ne _ _ e]; exact h.g j (by omega)
  · by_cases e : j = k
    · subst e; rw [upd_at]; exact ⟨[], by simp⟩
    · rw [upd_ne _ _ e]; exact h.p j (by omega)
  · by_cases e : i = k
    · subst e; rw [upd_at]; exact h.a.d i j hk hj hn
    · rw [upd_ne _ _ e]; exact h.dg i j (by omega) hj hn
  · by_cases e : i = k
    · subst e; rw [upd_at, upd_ne _ _ (Ne.symm hn)]; exact (h.dg j i (by omega) hk (Ne.symm hn)).symm
    · rw [upd_ne _ _ e]
      by_cases e2 : j = k
      · subst e2; rw [upd_at]; exact h.dg i j (by omega) hk hn
      · rw [upd_ne _ _ e2]; exact h.gg i j (by omega) (by omega) hn

theorem Fam.app (h : Fam e S w base K V n z (k + 1) G m y L ls R xs) {v' : Value} {m' : Nat} {t : List Int} (hg : w.grownBy w' (G k).ownBlock) (ho : w'.ownsRow base.lo e 1 (G k) (m k) ((y k).map (Value.int .u64)))
    (hnw : w'.ownsRow base.lo e 1 v' m' ((y k ++ t).map (Value.int .u64))) (hl : Lies w (G k) v') : Fam e S w' base K V n z (k + 1) (upd G k v') (upd m k m') (upd y k (y k ++ t)) L ls R xs := by
  have hk : k < K := h.kK
  have dis : ∀ u : Value, (∀ q, u.ownBlock = some q → q < w.heap.size) → Dis (G k) u → Dis v' u := fun u hu hd q hq => by
    rcases hl with hl | hl
    · exact hd q (hl ▸ hq)
    · intro h2
      have h3 := hu q h2
      have h4 := hl q hq
      omega
  have ltV : ∀ i, i < K → ∀ q, (V i).ownBlock = some q → q < w.heap.size := fun i hi q hq => ((h.a.v i hi).lt q hq).2
  have ltG : ∀ i, i < k + 1 → ∀ q, (G i).ownBlock = some q → q < w.heap.size := fun i hi q hq => ((h.g i hi).lt q hq).2
  have dGR := own_dis (h.g k (Nat.lt_succ_self _)) h.r h.he
  have dGL := own_dis (h.g k (Nat.lt_succ_self _)) h.l h.he
  refine ⟨⟨fun i hi => ?_, h.a.d, kp_ne h.a.kp hg (fun q hq e2 => own_typeK (h.g k (Nat.lt_succ_self _)) h.a.kp h.a.kt (e2 ▸ hq)), h.a.kt⟩, fun j hj => ?_, fun j hj => ?_, own_ne h.r hg dGR, own_ne h.l hg dGL, h.lr, fun i j hi hj hn => ?_, fun i j hi hj hn => ?_, h.kK, h.he, h.ts⟩
  · by_cases e : i = k
    · subst e
      have hv := h.a.v i hi
      by_cases hb : ∃ q, (G i).ownBlock = some q ∧ (V i).ownBlock = some q
      · obtain ⟨q, hq1, hq2⟩ := hb
        obtain ⟨tt, htt⟩ := h.p i (Nat.lt_succ_self _)
        have hG := h.g i (Nat.lt_succ_self _)
        rw [htt, List.map_append] at ho hG
        obtain ⟨l1, hv2⟩ := hv
        have l3 := hG.1
        rw [List.length_append] at l3
        rcases hv2 with ⟨e0, _⟩ | ⟨g1, c1, cur1, e1, b1, hh1, _, _, cs1, _⟩
        · rw [e0] at hq2; cases hq2
        · obtain ⟨l2, hG2⟩ := hG
          rcases hG2 with ⟨e0, _⟩ | ⟨g2, c2, cur2, e2, b2, hh2, _, _, cs2, _⟩
          · rw [e0] at hq1; cases hq1
          · rw [e1] at hq2
            rw [e2] at hq1
            cases hq1
            cases hq2
            rw [hh1] at hh2
            cases hh2
            have hc : c1 = c2 := by omega
            subst hc
            rw [e2] at ho
            rw [e1]
            exact own_pre ho l1 (by omega)
      · exact own_ne hv hg fun q hq hq2 => hb ⟨q, hq, hq2⟩
    · exact own_ne (h.a.v i hi) hg fun q hq => h.dg k i (Nat.lt_succ_self _) hi (Ne.symm e) q hq
  · by_cases e : j = k
    · subst e; rw [upd_at, upd_at, upd_at]; exact hnw
    · rw [upd_ne _ _ e, upd_ne _ _ e, upd_ne _ _ e]; exact own_ne (h.g j hj) hg fun q hq => h.gg k j (Nat.lt_succ_self _) hj (Ne.symm e) q hq
  · by_cases e : j = k
    · subst e
      rw [upd_at]
      obtain ⟨tt, htt⟩ := h.p j hj
      exact ⟨tt ++ t, by rw [htt, List.append_assoc]⟩
    · rw [upd_ne _ _ e]; exact h.p j hj
  · by_cases e : i = k
    · subst e; rw [upd_at]; exact dis _ (ltV j hj) (h.dg i j hi hj hn)
    · rw [upd_ne _ _ e]; exact h.dg i j hi hj hn
  · by_cases e : i = k
    · subst e; rw [upd_at, upd_ne _ _ (Ne.symm hn)]; exact dis _ (ltG j hj) (h.gg i j hi hj hn)
    · rw [upd_ne _ _ e]
      by_cases e2 : j = k
      · subst e2; rw [upd_at]; exact (dis _ (ltG i hi) (h.gg j i hj hi (Ne.symm hn))).symm
      · rw [upd_ne _ _ e2]; exact h.gg i j hi hj hn

theorem Fam.put {q c : Nat} (h : Fam e S w base K V n z k G m y L ls (.slice (some ⟨q, 0, none⟩) K c) xs) (i : Nat) (u : Value) : Fam e S (w.setCell ⟨q, i, none⟩ u) base K V n z k G m y L ls (.slice (some ⟨q, 0, none⟩) K c) (xs.set i u) :=
  ⟨⟨fun j hj => own_ne (h.a.v j hj) (grown_set w q i u) fun q' hq => by cases hq; exact own_dis h.r (h.a.v j hj) (Ne.symm h.he) q rfl, h.a.d, kp_ne h.a.kp (grown_set w q i u) (fun q' hq e2 => by cases hq; exact own_typeK h.r h.a.kp h.ts (congrArg some e2)), h.a.kt⟩, fun j hj => own_ne (h.g j hj) (grown_set w q i u) fun q' hq => by cases hq; exact own_dis h.r (h.g j hj) (Ne.symm h.he) q rfl, h.p, (h.r.stored i u).1, own_ne h.l (grown_set w q i u) fun q' hq => by cases hq; exact h.lr.symm q rfl, h.lr, h.dg, h.gg, h.kK, h.he, h.ts⟩
end

theorem run_app5 {P : Program} {t ty e : TypeId} {z : Value} {s bytes : Nat} (E : Elem P t e z s bytes) {w : World} {base : Nat} {A0 : Option Addr} {n c0 : Nat} {xs : List Value} (hown : w.ownsRow base e s (.slice A0 n c0) n xs)
    {A : Option Addr} {m c : Nat} {news : List Value} (hsee : Sees w s A m c news) (h1 : ∀ u ∈ news, u.oneCell' = true) (hm : 0 < m) (h63 : n + m ≤ maxLen) (hb : (n + m) * bytes ≤ 140737488355328) (hbase : base ≤ w.heap.size) :
    ∃ A' c' w', (Builtin.append_ #[t, t] ty #[.slice A0 n c0, .slice A m c]).run P w = .ok (.slice A' (n + m) c') w' ∧ w'.ownsRow base e s (.slice A' (n + m) c') (n + m) (xs ++ news) ∧ w.grownBy w' (Value.slice A0 n c0).ownBlock ∧ Below base w w' ∧ w'.ownsRow base e s (.slice A0 n c0) n xs ∧ Lies w (.slice A0 n c0) (.slice A' (n + m) c') := by
  obtain ⟨A1, c1, w1, r1, o1, g1, b1, l1⟩ := run_app2 (ty := ty) E hown hsee h1 hm h63 hb hbase
  obtain ⟨A2, c2, w2, r2, o2, g2, b2, l2⟩ := run_app4 (ty := ty) E hown hsee h1 hm h63 hb hbase
  rw [r1] at r2
  cases r2
  exact ⟨A1, c1, w1, r1, o1, g1, b1, l2, l1⟩

theorem wpList_app5 {P : Program} {t e : TypeId} {z : Value} {s bytes : Nat} (E : Elem P t e z s bytes) {ops : Array Oper} {rest : List Oper} {o : Oper} {a : Act} {Q : Exit → Act → World → Prop} {w : World}
    (hgd : o.guard = none) (x y : Operand) (ho : o.op = .call { callee := .builtin .append, args := #[x, y], argTypes := #[t, t] })
    {base : Nat} {A0 : Option Addr} {n c0 : Nat} {xs : List Value} (hs : a.eval x = .slice A0 n c0) (hown : w.ownsRow base e s (.slice A0 n c0) n xs)
    {A : Option Addr} {m c : Nat} {news : List Value} (hx : a.eval y = .slice A m c) (hsee : Sees w s A m c news) (h1 : ∀ u ∈ news, u.oneCell' = true) (hm : 0 < m) (h63 : n + m ≤ maxLen) (hb : (n + m) * bytes ≤ 140737488355328) (hbase : base ≤ w.heap.size)
    (h : ∀ A' c' w', w'.ownsRow base e s (.slice A' (n + m) c') (n + m) (xs ++ news) → w.grownBy w' (Value.slice A0 n c0).ownBlock → Below base w w' → w'.ownsRow base e s (.slice A0 n c0) n xs → Lies w (.slice A0 n c0) (.slice A' (n + m) c') → wpList P ops Q rest (a.put o.dst (.slice A' (n + m) c')) w') : wpList P ops Q (o :: rest) a w := by
  refine wpList_plain hgd fun K hK => ?_
  obtain ⟨A', c', w', hr, h2, h3, h4, h5, h6⟩ := run_app5 (ty := o.type) E hown hsee h1 hm h63 hb hbase
  unfold Oper.wp execOp
  simp only [ho, resolve, invoke, builtin, Sem.run_bind, Sem.run_pure, Result.andThen_ok, List.map_toArray, List.map_cons, List.map_nil, hs, hx, hr]
  exact hK _ _ (h A' c' w' h2 h3 h4 h5 h6)
end Go.Proofs.Ytemhoaleeefhhaa
