/- Words and small laws about memory, for all walks of this seat: no program is named here. -/
import Derived.WalkKit
import Derived.WalkLawsBesides
import Derived.WalkSpells
import Derived.Deep.QuietTactic
import Derived.BigQuiet
import Derived.Lib.Hide
import Derived.Laws.BitsAllLaws
import Derived.Maps.AppendAt
import Derived.Deep.RegionLaw
import Derived.Deep.DeepFit
import Derived.Deep.DeepMust
namespace Go.Proofs.Ythidfmkmklnhhaa
open Go.RowKit

/-- A slice value of address A, n elements of s cells each and capacity c shows the cells xs. -/
structure Sees (w : World) (s : Nat) (A : Option Addr) (n c : Nat) (xs : List Value) : Prop where
  len : xs.length = n * s
  cap : n ≤ c
  capm : c ≤ maxLen
  nil_ : A = none → c = 0
  look : ∀ (k : Nat) (u : Value), xs[k]? = some u → ∃ b o, A = some ⟨b, o, none⟩ ∧ w.cell? ⟨b, o + k, none⟩ = some u

theorem blt_of_cell {w : World} {b o : Nat} {u : Value} (h : w.cell? ⟨b, o, none⟩ = some u) : b < w.heap.size := World.block_lt_of_cell? w _ h

theorem Sees.below {w w' : World} {B s n c : Nat} {A : Option Addr} {xs : List Value} (h : Sees w s A n c xs) (hb : Below B w w') (hB : w.heap.size ≤ B) : Sees w' s A n c xs :=
  ⟨h.len, h.cap, h.capm, h.nil_, fun k u hu => by
    obtain ⟨b, o, hA, hc⟩ := h.look k u hu
    exact ⟨b, o, hA, (hb.cell (p := ⟨b, o + k, none⟩) (Nat.lt_of_lt_of_le (blt_of_cell hc) hB)).trans hc⟩⟩

theorem Sees.nil (w : World) (s c : Nat) (A : Option Addr) (h : c ≤ maxLen) (h0 : A = none → c = 0) : Sees w s A 0 c [] := ⟨by simp, Nat.zero_le _, h, h0, fun k u hu => by simp at hu⟩

theorem Sees.int {w : World} {A : Option Addr} {n c k : Nat} {K : IntKind} {l : List Int} (h : Sees w 1 A n c (l.map (Value.int K))) (hk : k < n) :
    ∃ b o, A = some ⟨b, o, none⟩ ∧ w.cell? ⟨b, o + k, none⟩ = some (.int K (l.getD k 0)) := by
  have hl : k < l.length := by have := h.len; simp at this; omega
  exact h.look k _ (by simp [List.getD, hl])

theorem Sees.length {w : World} {A : Option Addr} {n c : Nat} {f : Int → Value} {l : List Int} (h : Sees w 1 A n c (l.map f)) : l.length = n := by
  have := h.len; simpa using this

/-- What the call owns can be seen. -/
theorem sees_own {w : World} {base e s n c : Nat} {A : Option Addr} {xs : List Value} (h : w.ownsRow base e s (.slice A n c) n xs) : Sees w s A n c xs := by
  obtain ⟨hl, h2⟩ := h
  rcases h2 with ⟨h0, hn⟩ | ⟨g, cap, cur, hv, hg, hh, hn, hm, hsz, ht⟩
  · cases h0
    exact ⟨hl, Nat.le_refl _, by simp, fun _ => rfl, fun k u hu => by simp [hn] at hl; simp [hl] at hu⟩
  · cases hv
    refine ⟨hl, hn, hm, fun h => by (cases h), fun k u hu => ⟨g, 0, rfl, ?_⟩⟩
    rw [Nat.zero_add, cell_of_row w g k cur e (0, 0) hh]
    rw [← ht, List.getElem?_take] at hu
    split at hu
    · simpa using hu
    · cases hu

/-- An owned value is a slice. -/
theorem own_form {w : World} {base e s n : Nat} {v : Value} {xs : List Value} (h : w.ownsRow base e s v n xs) : ∃ A c, v = .slice A n c := by
  obtain ⟨_, h2⟩ := h
  rcases h2 with ⟨h0, hn⟩ | ⟨g, cap, cur, hv, _⟩
  · subst hn; exact ⟨none, 0, h0⟩
  · exact ⟨_, _, hv⟩

theorem own_below {w w' : World} {B base e s n : Nat} {v : Value} {xs : List Value} (h : w.ownsRow base e s v n xs) (hb : Below B w w') (hB : w.heap.size ≤ B) : w'.ownsRow base e s v n xs := by
  obtain ⟨hl, h2⟩ := h
  refine ⟨hl, ?_⟩
  rcases h2 with h0 | ⟨g, cap, cur, hv, hg, hh, r⟩
  · exact .inl h0
  · exact .inr ⟨g, cap, cur, hv, hg, (hb.block g (Nat.lt_of_lt_of_le (Array.getElem?_eq_some_iff.1 hh).1 hB)).trans hh, r⟩

theorem own_base {w : World} {base base' e s n : Nat} {v : Value} {xs : List Value} (h : w.ownsRow base e s v n xs) (hB : base' ≤ base) : w.ownsRow base' e s v n xs := by
  obtain ⟨hl, h2⟩ := h
  refine ⟨hl, ?_⟩
  rcases h2 with h0 | ⟨g, cap, cur, hv, hg, r⟩
  · exact .inl h0
  · exact .inr ⟨g, cap, cur, hv, Nat.le_trans hB hg, r⟩

/-- One step behind another: the first from w to w1, the second from w1 on. -/
theorem below_step {w w1 w2 : World} (h : Below w.heap.size w w1) (k : Below w1.heap.size w1 w2) : Below w.heap.size w w2 := h.trans (k.mono h.size)

/-- Are two lists of numbers the same? Behind a name of its own, so that no walk looks into it. -/
def eqL (a b : List Int) : Bool := decide (a = b)
theorem eqL_self (a : List Int) : eqL a a = true := by simp [eqL]
theorem eqL_of {a b : List Int} (h : a = b) : eqL a b = true := by simp [eqL, h]
theorem eqL_ne {a b : List Int} (h : a ≠ b) : eqL a b = false := by simp [eqL, h]
theorem eqL_len {a b : List Int} (h : a.length ≠ b.length) : eqL a b = false := eqL_ne fun e => h (by rw [e])

theorem take_one {a : List Int} {k : Nat} (h : k < a.length) : a.take (k + 1) = a.take k ++ [a.getD k 0] := by
  rw [List.take_succ_eq_append_getElem h]; simp [List.getD, h]

theorem takes_on {a b : List Int} {k : Nat} (ha : k < a.length) (hb : k < b.length) (h : a.take k = b.take k) (he : a.getD k 0 = b.getD k 0) : a.take (k + 1) = b.take (k + 1) := by
  rw [take_one ha, take_one hb, h, he]

theorem ret_bool {a b : Bool} (h : a = b) : Ending.returned (.bool a) = .returned (.bool b) := by rw [h]
theorem ret_int {K : IntKind} {a b : Int} (h : a = b) : Ending.returned (.int K a) = .returned (.int K b) := by rw [h]

/-- A block of one element that has just been laid. -/
theorem Sees.one (w : World) (u : Value) (e : TypeId) : Sees (w.alloc (.cells #[u] e)) 1 (some ⟨w.heap.size, 0, none⟩) 1 1 [u] :=
  ⟨rfl, Nat.le_refl _, by decide, fun h => by (cases h), fun k v hk => ⟨w.heap.size, 0, rfl, by
    have h := cell_one_new w u e k v hk
    rw [Addr.add_lit] at h
    exact h⟩⟩

/-- What the program's tables say of a slice type t and its elements e: their zero value, cells, bytes. -/
def Elem (P : Program) (t e : TypeId) (z : Value) (s bytes : Nat) : Prop :=
  P.underlying t = some (.slice e) ∧ z.cells.size = s ∧ 0 < s ∧ ∃ i, P.info? e = some i ∧ i.zero = some z ∧ i.size = s ∧ i.bytes = bytes

theorem elem_of {P : Program} {t e : TypeId} {z : Value} {s bytes : Nat} (ht : P.underlying t = some (.slice e)) (h : (P.info? e).map (fun i => (i.zero, i.size, i.bytes)) = some (some z, s, bytes)) (hz : z.cells.size = s) (hs : 0 < s) : Elem P t e z s bytes :=
  ⟨ht, hz, hs, info_parts h⟩

theorem run_app {P : Program} {t ty e : TypeId} {z : Value} {s bytes : Nat} (E : Elem P t e z s bytes) {w : World} {base : Nat} {v : Value} {n : Nat} {xs : List Value} (hown : w.ownsRow base e s v n xs)
    {A : Option Addr} {m c : Nat} {news : List Value} (hsee : Sees w s A m c news) (h1 : ∀ u ∈ news, u.oneCell' = true) (h63 : n + m ≤ maxLen) (hb : (n + m) * bytes ≤ 140737488355328) (hbase : base ≤ w.heap.size) :
    ∃ A' c' w', (Builtin.append_ #[t, t] ty #[v, .slice A m c]).run P w = .ok (.slice A' (n + m) c') w' ∧ w'.ownsRow base e s (.slice A' (n + m) c') (n + m) (xs ++ news) ∧ w.grownBy w' v.ownBlock ∧ Below base w w' := by
  obtain ⟨ht, hz, hs, i, hi, hz0, hz1, hz2⟩ := E
  have fin : ∀ v' w', w'.ownsRow base e s v' (n + m) (xs ++ news) → w.grownBy w' v.ownBlock → (Builtin.append_ #[t, t] ty #[v, .slice A m c]).run P w = .ok v' w' →
      ∃ A' c' w', (Builtin.append_ #[t, t] ty #[v, .slice A m c]).run P w = .ok (.slice A' (n + m) c') w' ∧ w'.ownsRow base e s (.slice A' (n + m) c') (n + m) (xs ++ news) ∧ w.grownBy w' v.ownBlock ∧ Below base w w' := by
    intro v' w' h2 h3 hr
    obtain ⟨A', c', rfl⟩ := own_form h2
    exact ⟨A', c', w', hr, h2, h3, (Below.refl base w).grown h3 hbase (fun k hk => (hown.lt k hk).1)⟩
  rcases A with _ | ad
  · have hc := hsee.nil_ rfl
    have hm : m = 0 := by have := hsee.cap; omega
    subst hm hc
    have hn : news = [] := List.eq_nil_of_length_eq_zero (by simpa using hsee.len)
    subst hn
    exact fin v w (by simpa using hown) (World.grownBy.refl w _) (run_append_owned_none w base t ty e i s ht hi v n xs hown)
  · obtain ⟨v', w', hr, h2, h3, _⟩ := run_append_own (P := P) w base t ty e i z s bytes ht hi hz0 hz1 hz2 hz hs v n xs hown ad m c news hsee.len (fun j u hu => by
      obtain ⟨b, o, hA, hc⟩ := hsee.look j u hu
      cases hA
      rw [Addr.add_lit]
      exact hc) h1 h63 hb hbase
    exact fin v' w' h2 h3 hr

theorem wpList_app {P : Program} {t e : TypeId} {z : Value} {s bytes : Nat} (E : Elem P t e z s bytes) {ops : Array Oper} {rest : List Oper} {o : Oper} {a : Act} {Q : Exit → Act → World → Prop} {w : World}
    (hgd : o.guard = none) (x y : Operand) (ho : o.op = .call { callee := .builtin .append, args := #[x, y], argTypes := #[t, t] })
    {base : Nat} {v : Value} {n : Nat} {xs : List Value} (hs : a.eval x = v) (hown : w.ownsRow base e s v n xs)
    {A : Option Addr} {m c : Nat} {news : List Value} (hx : a.eval y = .slice A m c) (hsee : Sees w s A m c news) (h1 : ∀ u ∈ news, u.oneCell' = true) (h63 : n + m ≤ maxLen) (hb : (n + m) * bytes ≤ 140737488355328) (hbase : base ≤ w.heap.size)
    (h : ∀ A' c' w', w'.ownsRow base e s (.slice A' (n + m) c') (n + m) (xs ++ news) → w.grownBy w' v.ownBlock → Below base w w' → wpList P ops Q rest (a.put o.dst (.slice A' (n + m) c')) w') : wpList P ops Q (o :: rest) a w := by
  refine wpList_plain hgd fun K hK => ?_
  obtain ⟨A', c', w', hr, h2, h3, h4⟩ := run_app (ty := o.type) E hown hsee h1 h63 hb hbase
  unfold Oper.wp execOp
  simp only [ho, resolve, invoke, builtin, Sem.run_bind, Sem.run_pure, Result.andThen_ok, List.map_toArray, List.map_cons, List.map_nil, hs, hx, hr]
  exact hK _ _ (h A' c' w' h2 h3 h4)

theorem wpList_mk0 {P : Program} {t e : TypeId} {z : Value} {s bytes : Nat} (E : Elem P t e z s bytes) {ops : Array Oper} {rest : List Oper} {o : Oper} {a : Act} {Q : Exit → Act → World → Prop} {w : World}
    (hgd : o.guard = none) (l c : Operand) (hop : o.op = Op.makeSlice t l c) {kl kc : IntKind} (n : Nat) (C : Int) (hl : a.eval l = .int kl 0) (hc : a.eval c = .int kc C) (hC : C = (n : Int)) (b2 : bytes * n ≤ 281474976710656) (b3 : n ≤ maxLen)
    (hK : ∀ w', w'.ownsRow w.heap.size e s (.slice (some ⟨w.heap.size, 0, none⟩) 0 n) 0 [] → w.grownBy w' none → Below w.heap.size w w' → wpList P ops Q rest (a.put o.dst (.slice (some ⟨w.heap.size, 0, none⟩) 0 n)) w') :
    wpList P ops Q (o :: rest) a w := by
  obtain ⟨ht, hz, hs, i, hi, hz0, hz1, hz2⟩ := E
  refine wpList_make_own w hgd l c t hop w.heap.size e i z s ht hi hz0 hz1 kl kc C n hl hc hC (by rw [hz2]; exact b2) b3 (Nat.le_refl _) ?_
  intro w' h1 h2
  exact hK w' h1 h2 ((Below.refl _ w).grown h2 (Nat.le_refl _) (fun k hk => by cases hk))

/-- Of what is seen, the first part. -/
theorem Sees.take {w : World} {s n c m : Nat} {A : Option Addr} {xs ys : List Value} (h : Sees w s A n c (xs ++ ys)) (hx : xs.length = m * s) (hm : m ≤ n) : Sees w s A m c xs :=
  ⟨hx, Nat.le_trans hm h.cap, h.capm, h.nil_, fun k u hu => h.look k u (by rw [List.getElem?_append_left (List.getElem?_eq_some_iff.1 hu).1]; exact hu)⟩

theorem ints1 (K : IntKind) (l : List Int) : ∀ u ∈ l.map (Value.int K), u.oneCell' = true := ints_oneCell K l

theorem one1 {u : Value} (h : u.oneCell' = true) : ∀ x ∈ [u], x.oneCell' = true := by intro x hx; simp at hx; subst hx; exact h

theorem wp_app {P : Program} {t e : TypeId} {z : Value} {s bytes : Nat} (E : Elem P t e z s bytes) {o : Oper} {a : Act} {K : Act → World → Prop} {Q : Exit → Act → World → Prop} {w : World}
    (x y : Operand) (ho : o.op = .call { callee := .builtin .append, args := #[x, y], argTypes := #[t, t] })
    {base : Nat} {v : Value} {n : Nat} {xs : List Value} (hs : a.eval x = v) (hown : w.ownsRow base e s v n xs)
    {A : Option Addr} {m c : Nat} {news : List Value} (hx : a.eval y = .slice A m c) (hsee : Sees w s A m c news) (h1 : ∀ u ∈ news, u.oneCell' = true) (h63 : n + m ≤ maxLen) (hb : (n + m) * bytes ≤ 140737488355328) (hbase : base ≤ w.heap.size)
    (h : ∀ A' c' w', w'.ownsRow base e s (.slice A' (n + m) c') (n + m) (xs ++ news) → w.grownBy w' v.ownBlock → Below base w w' → K (a.put o.dst (.slice A' (n + m) c')) w') : o.wp P a w K Q := by
  obtain ⟨A', c', w', hr, h2, h3, h4⟩ := run_app (ty := o.type) E hown hsee h1 h63 hb hbase
  unfold Oper.wp execOp
  simp only [ho, resolve, invoke, builtin, Sem.run_bind, Sem.run_pure, Result.andThen_ok, List.map_toArray, List.map_cons, List.map_nil, hs, hx, hr]
  exact h A' c' w' h2 h3 h4

/-- append as one step of a region that draws its order. -/
theorem step_app {P : Program} {t e : TypeId} {z : Value} {s bytes : Nat} (E : Elem P t e z s bytes) {ops : Array Oper} {o : Oper} {a : Act} {K : Act → World → Prop} {Q : Exit → Act → World → Prop} {w : World} {F : Prop}
    (hgd : o.guard = none) (x y : Operand) (ho : o.op = .call { callee := .builtin .append, args := #[x, y], argTypes := #[t, t] })
    {base : Nat} {v : Value} {n : Nat} {xs : List Value} (hs : a.eval x = v) (hown : w.ownsRow base e s v n xs)
    {A : Option Addr} {m c : Nat} {news : List Value} (hx : a.eval y = .slice A m c) (hsee : Sees w s A m c news) (h1 : ∀ u ∈ news, u.oneCell' = true) (h63 : n + m ≤ maxLen) (hb : (n + m) * bytes ≤ 140737488355328) (hbase : base ≤ w.heap.size)
    (h : ∀ A' c' w', w'.ownsRow base e s (.slice A' (n + m) c') (n + m) (xs ++ news) → w.grownBy w' v.ownBlock → Below base w w' → K (a.put o.dst (.slice A' (n + m) c')) w') :
    if Region.wanted o (yielded ops a.tmps) = true then Oper.wp P o a w K Q else F := by
  rw [if_pos (by simp [Region.wanted, hgd])]
  exact wp_app E x y ho hs hown hx hsee h1 h63 hb hbase h

/-- The address behind a cut from k on. -/
def cutA (A : Option Addr) (c k s : Nat) : Option Addr := if c = k then A else A.map (·.add (k * s))

theorem Sees.cut {w : World} {s n c k : Nat} {A : Option Addr} {xs : List Value} (h : Sees w s A n c xs) (hk : k ≤ n) : Sees w s (cutA A c k s) (n - k) (c - k) (xs.drop (k * s)) := by
  refine ⟨by rw [List.length_drop, h.len, Nat.sub_mul], by have := h.cap; omega, by have := h.capm; omega, fun hn => ?_, fun j u hu => ?_⟩
  · unfold cutA at hn
    split at hn
    · have := h.nil_ hn; omega
    · cases A with
      | none => have := h.nil_ rfl; omega
      | some a => simp at hn
  · rw [List.getElem?_drop] at hu
    obtain ⟨b, o, rfl, hc⟩ := h.look _ u hu
    have hlt := (List.getElem?_eq_some_iff.1 hu).1
    have hne : c ≠ k := by
      intro e
      have h1 := h.len
      have h2 := h.cap
      have h3 : n = k := by omega
      subst h3
      omega
    refine ⟨b, o + k * s, ?_, by rw [Nat.add_assoc]; exact hc⟩
    unfold cutA
    rw [if_neg hne]
    by_cases h0 : k * s = 0
    · simp [Addr.add, h0]
    · simp [Addr.add, h0]

theorem run_cutl {P : Program} {t e : TypeId} {z : Value} {s bytes : Nat} (E : Elem P t e z s bytes) (A : Option Addr) (n c k : Nat) (hk : k ≤ n) (w : World) :
    (Instr.slice t (.slice A n c) (some (.int .i64 (k : Int))) none none).run P w = .ok (.slice (cutA A c k s) (n - k) (c - k)) w := by
  obtain ⟨ht, hz, hs, i, hi, hz0, hz1, hz2⟩ := E
  have hb : (Instr.sliceBound (.int .i64 (k : Int)) n .sliceB).run P w = .ok k w := by
    have := run_sliceBound (P := P) (w := w) .i64 (k : Int) n .sliceB (by omega) (by omega)
    simpa using this
  simp [Instr.slice, run_underlying ht, Instr.sliceBounds, hb, sizeOf, typeInfo, hi, hz1, cutA]

theorem Sees.drew {w : World} {s n c : Nat} {A : Option Addr} {xs : List Value} (h : Sees w s A n c xs) : Sees w.drew s A n c xs := ⟨h.len, h.cap, h.capm, h.nil_, h.look⟩
theorem Sees.drewN {w : World} {s n c : Nat} {A : Option Addr} {xs : List Value} (h : Sees w s A n c xs) (k : Nat) : Sees (w.drewN k) s A n c xs := ⟨h.len, h.cap, h.capm, h.nil_, h.look⟩

/-- A block that is known whole shows its first cells. -/
theorem sees_block {w : World} {g n c : Nat} {cs : Array Value} {e : TypeId} {fz : Nat × Nat} {xs : List Value} (h : w.heap[g]? = some (.cells cs e fz)) (hx : xs.length = n) (hn : n ≤ c) (hc : c ≤ maxLen) (hp : xs <+: cs.toList) : Sees w 1 (some ⟨g, 0, none⟩) n c xs :=
  ⟨by omega, hn, hc, fun h => by (cases h), fun k u hu => ⟨g, 0, rfl, by
    rw [Nat.zero_add, cell_of_row w g k cs e fz h]
    obtain ⟨r, hr⟩ := hp
    have : cs.toList[k]? = some u := by rw [← hr, List.getElem?_append_left (List.getElem?_eq_some_iff.1 hu).1]; exact hu
    simpa using this⟩⟩

/-- Block B holds slices of bytes: the lists xs. -/
def Rows2 (w : World) (B : Nat) (xs : List (List Int)) : Prop := ∀ k, k < xs.length → ∃ A n c, w.cell? ⟨B, k, none⟩ = some (.slice A n c) ∧ Sees w 1 A n c ((xs.getD k []).map (Value.int .u8))
theorem Rows2.below {w w' : World} {B : Nat} {xs : List (List Int)} (h : Rows2 w B xs) (hb : Below w.heap.size w w') : Rows2 w' B xs := fun k hk => by
  obtain ⟨A, n, c, h1, h2⟩ := h k hk
  exact ⟨A, n, c, (hb.cell (p := ⟨B, k, none⟩) (blt_of_cell h1)).trans h1, h2.below hb (Nat.le_refl _)⟩

/-- A world with new blocks, the first of the list laid first. -/
def objs (w : World) (l : List Obj) : World := l.foldl World.alloc w
theorem objs_size (l : List Obj) : ∀ w : World, (objs w l).heap.size = w.heap.size + l.length := by
  induction l with
  | nil => intro w; rfl
  | cons o l ih =>
    intro w
    show (objs (w.alloc o) l).heap.size = _
    rw [ih]; simp; omega
theorem objs_below (l : List Obj) : ∀ w : World, Below w.heap.size w (objs w l) := by
  induction l with
  | nil => intro w; exact Below.refl _ _
  | cons o l ih => intro w; exact ((Below.refl _ w).alloc (Nat.le_refl _) o).trans ((ih (w.alloc o)).mono (by simp))
theorem objs_at (l : List Obj) : ∀ (w : World) (j : Nat) (o : Obj), l[j]? = some o → (objs w l).heap[w.heap.size + j]? = some o := by
  induction l with
  | nil => intro w j o h; simp at h
  | cons a l ih =>
    intro w j o h
    match j, h with
    | 0, h =>
      simp at h
      subst h
      exact ((objs_below l (w.alloc a)).block _ (by simp)).trans (heap_alloc_new w a)
    | j + 1, h =>
      have := ih (w.alloc a) j o (by simpa using h)
      rw [World.size_alloc] at this
      rw [show w.heap.size + (j + 1) = w.heap.size + 1 + j from by omega]
      exact this
end Go.Proofs.Ythidfmkmklnhhaa
