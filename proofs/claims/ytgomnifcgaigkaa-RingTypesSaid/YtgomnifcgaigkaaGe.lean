/- What becomes of a ring's memory. -/
import Derived.Test.YtgomnifcgaigkaaProg
import Derived.Test.YtgomnifcgaigkaaGd
namespace Go.Proofs.Ytgomnifcgaigkaa
open Go.RowKit Go.Shelf
set_option linter.unusedVariables false

/-- All but blocks p and g lies as it lay. -/
structure Spared (p g : Nat) (w w' : World) : Prop where
  os : w'.os = w.os
  tape : w'.tape = w.tape
  output : w'.output = w.output
  size : w.heap.size ≤ w'.heap.size
  block : ∀ k, k < w.heap.size → k ≠ p → k ≠ g → w'.heap[k]? = w.heap[k]?
theorem Spared.refl (p g : Nat) (w : World) : Spared p g w w := ⟨rfl, rfl, rfl, Nat.le_refl _, fun _ _ _ _ => rfl⟩
theorem Spared.trans {p g : Nat} {a b c : World} (h : Spared p g a b) (k : Spared p g b c) : Spared p g a c :=
  ⟨k.os.trans h.os, k.tape.trans h.tape, k.output.trans h.output, Nat.le_trans h.size k.size, fun i hi h1 h2 => (k.block i (Nat.lt_of_lt_of_le hi h.size) h1 h2).trans (h.block i hi h1 h2)⟩
theorem Spared.of_below {p g N : Nat} {a b : World} (h : Below N a b) (hN : a.heap.size ≤ N) : Spared p g a b := ⟨h.os, h.tape, h.output, h.size, fun i hi _ _ => h.block i (by omega)⟩
theorem setCell_size (w : World) (a : Addr) (v : Value) : (w.setCell a v).heap.size = w.heap.size := by simp [World.setCell]
theorem Spared.setP {p g : Nat} {a w : World} (h : Spared p g a w) (k : Nat) (v : Value) : Spared p g a (w.setCell ⟨p, k, none⟩ v) :=
  h.trans ⟨rfl, rfl, rfl, by rw [setCell_size]; exact Nat.le_refl _, fun i _ h _ => Below.heap_setCell _ _ _ _ h⟩
theorem Spared.setG {p g : Nat} {a w : World} (h : Spared p g a w) (k : Nat) (v : Value) : Spared p g a (w.setCell ⟨g, k, none⟩ v) :=
  h.trans ⟨rfl, rfl, rfl, by rw [setCell_size]; exact Nat.le_refl _, fun i _ _ h => Below.heap_setCell _ _ _ _ h⟩
/-- A store into a block that is new. -/
theorem Spared.setN {p g q : Nat} {a w : World} (h : Spared p g a w) (hq : a.heap.size ≤ q) (k : Nat) (v : Value) : Spared p g a (w.setCell ⟨q, k, none⟩ v) :=
  ⟨h.os, h.tape, h.output, by rw [setCell_size]; exact h.size, fun i hi h1 h2 => (Below.heap_setCell _ _ _ _ (by show i ≠ q; omega)).trans (h.block i hi h1 h2)⟩
theorem Spared.drew {p g : Nat} {a w : World} (h : Spared p g a w) : Spared p g a w.drew := ⟨h.os, h.tape, h.output, h.size, h.block⟩
theorem Spared.drewN {p g : Nat} {a w : World} (h : Spared p g a w) (n : Nat) : Spared p g a (w.drewN n) := ⟨h.os, h.tape, h.output, h.size, h.block⟩
theorem Spared.then {p g N : Nat} {a b c : World} (h : Spared p g a b) (k : Below N b c) (hN : b.heap.size ≤ N) : Spared p g a c := h.trans (.of_below k hN)
theorem Spared.below {p g B : Nat} {w0 w w' : World} (h : Spared p g w w') (hp : B ≤ p) (hg : B ≤ g) (hb : Below B w0 w) (hB : B ≤ w.heap.size) : Below B w0 w' :=
  hb.trans ⟨h.os, h.tape, h.output, h.size, fun k hk => h.block k (by omega) (by omega) (by omega)⟩

theorem Spared.newG {p g g' : Nat} {a b c : World} (h : Spared p g a b) (k : Spared p g' b c) (hg : a.heap.size ≤ g') : Spared p g a c :=
  ⟨k.os.trans h.os, k.tape.trans h.tape, k.output.trans h.output, Nat.le_trans h.size k.size, fun i hi h1 h2 => (k.block i (Nat.lt_of_lt_of_le hi h.size) h1 (by omega)).trans (h.block i hi h1 h2)⟩
theorem own_extend {w : World} {base e s n c m : Nat} {A : Option Addr} {xs : List Value} (h : w.ownsRow base e s (.slice A n c) n xs) (hn : n ≤ m) (hm : m ≤ c) (h0 : 0 < m) :
    ∃ g ys, A = some ⟨g, 0, none⟩ ∧ base ≤ g ∧ g < w.heap.size ∧ w.ownsRow base e s (.slice (some ⟨g, 0, none⟩) m c) m (xs ++ ys) := by
  obtain ⟨r1, r2⟩ := h
  rcases r2 with ⟨e, _⟩ | ⟨g', cp, cur, hv, hb, hh, hnc, hcm, hcs, ht⟩
  · cases e; omega
  · cases hv
    refine ⟨g', (cur.toList.take (m * s)).drop (n * s), rfl, hb, lt_of_heap hh, ?_, .inr ⟨g', c, cur, rfl, hb, hh, hm, hcm, hcs, ?_⟩⟩
    · have h1 := Nat.mul_le_mul_right s hn
      have h2 := Nat.mul_le_mul_right s hm
      rw [List.length_append, r1, List.length_drop, List.length_take, Array.length_toList, hcs]
      omega
    · rw [← ht]
      have h1 := Nat.mul_le_mul_right s hn
      have h3 := List.take_append_drop (n * s) (cur.toList.take (m * s))
      rw [List.take_take, Nat.min_eq_left h1] at h3
      exact h3.symm
theorem own_sp {w w' : World} {base e s n p : Nat} {v : Value} {xs : List Value} (h : w.ownsRow base e s v n xs) (hp : p < base) (hk : ∀ i, i < w.heap.size → i ≠ p → w'.heap[i]? = w.heap[i]?) : w'.ownsRow base e s v n xs := by
  obtain ⟨r1, r2⟩ := h
  refine ⟨r1, ?_⟩
  rcases r2 with e | ⟨g', cp, cur, hv, hb, hh, rest⟩
  · exact .inl e
  · exact .inr ⟨g', cp, cur, hv, hb, (hk g' (lt_of_heap hh) (by omega)).trans hh, rest⟩
theorem mod2 {f i n : Nat} (hf : f < n) (hi : i < n) : (f + i) % n = if f + i < n then f + i else f + i - n := by
  split
  · rename_i h; exact Nat.mod_eq_of_lt h
  · rename_i h
    rw [Nat.mod_eq_sub_mod (by omega), Nat.mod_eq_of_lt (by omega)]

section
variable {α : Type} {TR TS s : Nat} {ce : α → List Value} {w : World} {B p g : Nat} {A : Option Addr} {n c f : Nat} {o ac rf cap : Int} {L : List α} {xs : List Value}
theorem Holds.drop (h : Holds s ce f n xs L) (m : Nat) : Holds s ce ((f + m) % n) n xs (L.drop m) := fun i x hx j u hu => by
  rw [List.getElem?_drop] at hx
  rw [Nat.mod_add_mod, Nat.add_assoc]
  exact h _ x hx j u hu
theorem Holds.nil (f : Nat) : Holds s ce f n xs [] := fun i x hx => by simp at hx
theorem Holds.put (h : Holds s ce f n xs L) (hs : ∀ x, (ce x).length = s) (hf : f < n) (hl : L.length < n) {t : Nat} (ht : (f + L.length) % n = t) {x : α} {xs' : List Value}
    (hk : ∀ k, k < t * s ∨ (t + 1) * s ≤ k → xs'[k]? = xs[k]?) (hx' : ∀ j u, (ce x)[j]? = some u → xs'[t * s + j]? = some u) : Holds s ce f n xs' (L ++ [x]) := fun i y hy j u hu => by
  have hj : j < s := by rw [← hs y]; exact (List.getElem?_eq_some_iff.1 hu).1
  by_cases hi : i < L.length
  · rw [List.getElem?_append_left hi] at hy
    rw [hk _ ?_]
    · exact h i y hy j u hu
    · have e1 := mod2 hf (show i < n by omega)
      have e2 := mod2 hf hl
      rw [ht] at e2
      generalize (f + i) % n = q at e1
      have hne : q ≠ t := by
        rw [e1, e2]
        split <;> split <;> omega
      rcases Nat.lt_or_gt_of_ne hne with hq | hq
      · left
        have := Nat.mul_le_mul_right s (show q + 1 ≤ t by omega)
        rw [Nat.succ_mul] at this
        omega
      · right
        have := Nat.mul_le_mul_right s (show t + 1 ≤ q by omega)
        omega
  · have hi2 : i = L.length := by
      have := (List.getElem?_eq_some_iff.1 hy).1
      simp at this; omega
    subst hi2
    rw [List.getElem?_append_right (Nat.le_refl _)] at hy
    simp at hy
    subst hy
    rw [ht]
    exact hx' j u hu

theorem Holds.put2 (h : Holds 2 ce f n xs L) (hs : ∀ x, (ce x).length = 2) (hf : f < n) (hl : L.length < n) {t : Nat} (ht : (f + L.length) % n = t) {x : α} {a b : Value} (hx : ce x = [a, b]) (hlen : xs.length = n * 2) :
    Holds 2 ce f n ((xs.set (t * 2) a).set (t * 2 + 1) b) (L ++ [x]) := by
  have htn : t < n := by rw [← ht]; exact Nat.mod_lt _ (by omega)
  refine h.put hs hf hl ht (fun k hk => ?_) (fun j u hu => ?_)
  · rw [List.getElem?_set_ne (by omega), List.getElem?_set_ne (by omega)]
  · rw [hx] at hu
    match j, hu with
    | 0, hu => rw [List.getElem?_set_ne (by omega), Nat.add_zero, List.getElem?_set_self (by omega)]; simpa using hu
    | 1, hu => rw [List.getElem?_set_self (by simp; omega)]; simpa using hu
    | j + 2, hu => simp at hu
theorem own_at {w w' : World} {base e s g n c : Nat} {xs : List Value} (h : w.ownsRow base e s (.slice (some ⟨g, 0, none⟩) n c) n xs) (hg : w'.heap[g]? = w.heap[g]?) : w'.ownsRow base e s (.slice (some ⟨g, 0, none⟩) n c) n xs := by
  obtain ⟨r1, r2⟩ := h
  refine ⟨r1, ?_⟩
  rcases r2 with e | ⟨g', cp, cur, hv, hb, hh, rest⟩
  · exact .inl e
  · cases hv
    exact .inr ⟨g, _, cur, rfl, hb, hg.trans hh, rest⟩

theorem RingAt.ne (h : RingAt TR TS s ce w B p g A n c f o ac rf cap L) (hT : TR ≠ TS) (hn : A ≠ none) : p ≠ g := by
  obtain ⟨xs, hr, hs⟩ := h.row
  intro e
  subst e
  rcases hr.2 with ⟨e, h0⟩ | ⟨g', cp, cur, hv, hb, hh, rest⟩
  · cases e; exact hn rfl
  · rcases h.at_ with e | e
    · exact hn e
    · rw [e] at hv; cases hv
      rw [h.obj] at hh
      simp at hh
      exact hT hh.2

/-- Stores into the ring's own cells. -/
theorem RingAt.setP {w' : World} {f' : Nat} {o' ac' rf' : Int} {L' : List α} (h : RingAt TR TS s ce w B p g A n c f o ac rf cap L) (hT : TR ≠ TS) (hz : w.heap.size ≤ w'.heap.size) (hk : g ≠ p → w'.heap[g]? = w.heap[g]?)
    (hobj : w'.heap[p]? = some (.cells #[.slice A n c, .int .i64 (f' : Int), .int .i64 (L'.length : Int), .int .i64 o', .int .i64 ac', .int .i64 rf', .int .i64 cap] TR (0, 0)))
    (hH : ∀ xs, Holds s ce f n xs L → Holds s ce f' n xs L') (hL : L'.length ≤ n) (hf : f' < n ∨ (n = 0 ∧ f' = 0)) : RingAt TR TS s ce w' B p g A n c f' o' ac' rf' cap L' := by
  refine ⟨h.bp, h.bg, Nat.lt_of_lt_of_le h.glt hz, hobj, ?_, h.at_, hL, h.nle, h.cap1, hf⟩
  obtain ⟨xs, ⟨r1, r2⟩, hs⟩ := h.row
  refine ⟨xs, ⟨r1, ?_⟩, hH xs hs⟩
  rcases r2 with e | ⟨g', cp, cur, hv, hb, hh, rest⟩
  · exact .inl e
  · refine .inr ⟨g', cp, cur, hv, hb, ?_, rest⟩
    cases hv
    have hne := h.ne hT (by simp)
    rcases h.at_ with e | e
    · cases e
    · cases e; exact (hk (Ne.symm hne)).trans hh

/-- A new row, that has room for another slot: the row's front is what the ring held. -/
theorem RingAt.setRow {w' : World} {g' m c' : Nat} (h : RingAt TR TS s ce w B p g A n c f o ac rf cap L) (hz : w.heap.size ≤ w'.heap.size) (hg' : B ≤ g') (hgl : g' < w'.heap.size)
    (hobj : w'.heap[p]? = some (.cells #[.slice (some ⟨g', 0, none⟩) m c', .int .i64 0, .int .i64 (L.length : Int), .int .i64 o, .int .i64 ac, .int .i64 rf, .int .i64 cap] TR (0, 0)))
    (hs : ∀ x, (ce x).length = s) (hrow : w'.ownsRow B TS s (.slice (some ⟨g', 0, none⟩) m c') m xs) (hxs : ∀ k, k < L.length * s → xs[k]? = (L.flatMap ce)[k]?) (hL : L.length < m) (hm : (m : Int) ≤ cap) : RingAt TR TS s ce w' B p g' (some ⟨g', 0, none⟩) m c' 0 o ac rf cap L := by
  refine ⟨h.bp, hg', hgl, hobj, ⟨xs, hrow, fun i x hx j u hu => ?_⟩, .inr rfl, by omega, hm, h.cap1, .inl (by omega)⟩
  have hj : j < s := by rw [← hs x]; exact (List.getElem?_eq_some_iff.1 hu).1
  have hi := (List.getElem?_eq_some_iff.1 hx).1
  rw [Nat.zero_add, Nat.mod_eq_of_lt (by omega)]
  have : i * s + j < L.length * s := by
    have := Nat.mul_le_mul_right s (show i + 1 ≤ L.length by omega)
    rw [Nat.succ_mul] at this
    omega
  rw [hxs _ this]
  clear hxs this hL hm hrow hobj h
  induction L generalizing i with
  | nil => simp at hi
  | cons y L ih =>
    rw [List.flatMap_cons]
    cases i with
    | zero =>
      simp at hx
      subst hx
      rw [Nat.zero_mul, Nat.zero_add, List.getElem?_append_left (by rw [hs]; exact hj)]
      exact hu
    | succ i =>
      rw [List.getElem?_append_right (by rw [hs, Nat.succ_mul]; omega), hs, Nat.succ_mul, show i * s + s + j - s = i * s + j by omega]
      exact ih i (by simpa using hx) (by simpa using hi)
end

/-- What a ring holds, without its places. -/
structure RS (α : Type) where
  o : Int
  ac : Int
  rf : Int
  cap : Int
  L : List α

/-- Put, Take, Drain, on what a ring holds. -/
def putR {α : Type} (mk : Int → α) (S : RS α) : RS α × Int :=
  if (S.L.length : Int) = S.cap then ({ S with o := S.o + 1, rf := S.rf + 1 }, 4) else ({ S with o := 0, ac := S.ac + 1, L := S.L ++ [mk S.o] }, 0)
def takeR {α : Type} (n : Int) (S : RS α) : RS α × List α × Int :=
  if n < 0 then (S, [], 2) else ({ S with L := S.L.drop n.toNat }, S.L.take n.toNat, 0)
def drainR {α : Type} (S : RS α) : RS α × List α × Int := ({ S with o := 0, L := [] }, S.L, S.o)
end Go.Proofs.Ytgomnifcgaigkaa
