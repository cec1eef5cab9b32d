/- CursorBack: the plain law of pieces in a row; what lies where. -/
import Derived.Test.YtgngeachgkappaaProg
import Derived.Test.YtgngeachgkappaaXj
import Derived.Test.YtgngeachgkappaaFr
import Derived.Test.YtgngeachgkappaaQ7
namespace Go.Proofs.Ytgngeachgkappaa
open Go.RowKit
set_option linter.unusedVariables false

abbrev pcB (z : PieceV) : List Int := pcBytes z.1 z.2.1 z.2.2.1 z.2.2.2.2.2.2
def allB (ks : List PieceV) : List Int := ks.flatMap pcB
def endAt (ks : List PieceV) (i : Nat) : Nat := (allB (ks.take i)).length
def endsL (ks : List PieceV) : List Int := (List.range (ks.length + 1)).map fun i => ((endAt ks i : Nat) : Int)
theorem allB_nil : allB [] = [] := rfl
theorem allB_app (a b : List PieceV) : allB (a ++ b) = allB a ++ allB b := List.flatMap_append
theorem allB_one (z : PieceV) : allB [z] = pcB z := by simp [allB]
theorem endAt_zero (ks : List PieceV) : endAt ks 0 = 0 := by simp [endAt, allB]
theorem endAt_all (ks : List PieceV) : endAt ks ks.length = (allB ks).length := by simp [endAt]
theorem take_succ_at {ks : List PieceV} {i : Nat} {z : PieceV} (h : ks[i]? = some z) : ks.take (i + 1) = ks.take i ++ [z] := by
  rw [List.take_add_one, h]; rfl
theorem endAt_succ {ks : List PieceV} {i : Nat} {z : PieceV} (h : ks[i]? = some z) : endAt ks (i + 1) = endAt ks i + (pcB z).length := by
  unfold endAt
  rw [take_succ_at h, allB_app, allB_one, List.length_append]
theorem all_split (ks : List PieceV) (i : Nat) : allB ks = allB (ks.take i) ++ allB (ks.drop i) := by
  rw [← allB_app, List.take_append_drop]
theorem endAt_le (ks : List PieceV) (i : Nat) : endAt ks i ≤ (allB ks).length := by
  rw [all_split ks i, List.length_append]; exact Nat.le_add_right _ _
theorem drop_end {ks : List PieceV} {i : Nat} {z : PieceV} (h : ks[i]? = some z) : (allB ks).drop (endAt ks i) = pcB z ++ allB (ks.drop (i + 1)) := by
  have h1 := List.drop_left (l₁ := allB (ks.take i)) (l₂ := allB (ks.drop i))
  rw [← all_split ks i] at h1
  unfold endAt
  rw [h1]
  obtain ⟨hi, hz⟩ := List.getElem?_eq_some_iff.1 h
  rw [List.drop_eq_getElem_cons hi, hz]
  rfl
theorem endsL_len (ks : List PieceV) : (endsL ks).length = ks.length + 1 := by simp [endsL]
theorem endsL_at {ks : List PieceV} {i : Nat} (h : i ≤ ks.length) : (endsL ks).getD i 0 = ((endAt ks i : Nat) : Int) := by
  have : i < ks.length + 1 := by omega
  simp [endsL, this]
theorem endsL_snoc (ks : List PieceV) (z : PieceV) : endsL (ks ++ [z]) = endsL ks ++ [((allB ks ++ pcB z).length : Int)] := by
  unfold endsL
  rw [List.length_append, List.length_singleton, List.range_succ, List.map_append]
  congr 1
  · apply List.map_congr_left
    intro i hi
    have : i ≤ ks.length := by have := List.mem_range.1 hi; omega
    unfold endAt
    rw [List.take_append_of_le_length this]
  · have e : ks.length + 1 = (ks ++ [z]).length := by simp
    rw [e, List.map_singleton, endAt_all, allB_app, allB_one]
theorem endsL_nil : endsL [] = [0] := rfl
/-- What a reader finds at a piece. -/
theorem piece_whole {ks : List PieceV} {i : Nat} {z : PieceV} (h : ks[i]? = some z) : ((allB ks).drop (endAt ks i)).take (pcB z).length = pcB z ∧ endAt ks i + (pcB z).length ≤ (allB ks).length := by
  refine ⟨?_, ?_⟩
  · rw [drop_end h, List.take_left]
  · rw [← endAt_succ h]; exact endAt_le _ _
theorem piece_short {ks : List PieceV} {i k : Nat} {z : PieceV} (h : ks[i]? = some z) (hk : endAt ks (i + 1) ≤ k) : (((allB ks).take k).drop (endAt ks i)).take (pcB z).length = pcB z := by
  have e := endAt_succ h
  rw [List.drop_take, List.take_take, Nat.min_eq_left (by omega)]
  exact (piece_whole h).1
theorem piece_cut {ks : List PieceV} {i k : Nat} {z : PieceV} (h : ks[i]? = some z) (h0 : endAt ks i ≤ k) (hk : k < endAt ks (i + 1)) : ((allB ks).take k).drop (endAt ks i) = (pcB z).take (k - endAt ks i) := by
  have e := endAt_succ h
  rw [List.drop_take, drop_end h, List.take_append_of_le_length (by omega)]

/-- A piece as it came in. -/
structure GoodP (w : World) (z : PieceV) : Prop where
  kd : z.1 < 256
  n : z.2.1 < 256
  x : z.2.2.1 < 18446744073709551616
  see : Sees w 1 z.2.2.2.1 z.2.2.2.2.1 z.2.2.2.2.2.1 (z.2.2.2.2.2.2.map (Value.int .u8))
  b : Bytes z.2.2.2.2.2.2
theorem GoodP.bytes {w : World} {z : PieceV} (h : GoodP w z) : Bytes (pcB z) := by
  unfold pcB pcBytes
  split
  · intro x hx
    rw [List.mem_singleton.1 hx]
    have := h.n
    omega
  · split
    · exact fun x hx => h.b x (List.mem_of_mem_take hx)
    · split
      · exact leB_bytes _ _
      · exact enc_bytes _
theorem GoodP.small {w : World} {z : PieceV} (h : GoodP w z) : (pcB z).length ≤ 30 := by
  unfold pcB pcBytes
  split
  · simp
  · split
    · rw [List.length_take]; omega
    · split
      · rw [leB_len]; omega
      · have := enc_len z.2.2.1; omega
theorem allB_bytes {w : World} {ks : List PieceV} (h : ∀ z ∈ ks, GoodP w z) : Bytes (allB ks) := by
  intro x hx
  obtain ⟨z, hz, hx⟩ := List.mem_flatMap.1 hx
  exact (h z hz).bytes x hx
theorem GoodP.far {w : World} {z : PieceV} (h : GoodP w z) {p : Nat} (hp : w.heap.size ≤ p) : 0 < z.2.2.2.2.1 → ∀ b, z.2.2.2.1 = some b → b.block ≠ p := by
  intro hn b hb
  have hl := h.see.length
  obtain ⟨bz, oz, hA, hc⟩ := h.see.int (k := 0) hn
  rw [hb] at hA
  cases hA
  have := World.block_lt_of_cell? _ _ hc
  simp at this ⊢
  omega

theorem flatMap_at {α : Type} (f : α → List Value) (s : Nat) (hs : ∀ a, (f a).length = s) : ∀ (zs : List α) (i j : Nat) (z : α), zs[i]? = some z → j < s → (zs.flatMap f)[i * s + j]? = (f z)[j]? := by
  intro zs
  induction zs with
  | nil => intro i j z h; simp at h
  | cons y zs ih =>
    intro i j z h hj
    rw [List.flatMap_cons]
    cases i with
    | zero =>
      simp at h
      subst h
      rw [List.getElem?_append_left (by rw [hs]; omega)]
      simp
    | succ i =>
      rw [List.getElem?_append_right (by rw [hs, Nat.add_mul]; omega), hs]
      have e : (i + 1) * s + j - s = i * s + j := by rw [Nat.add_mul]; omega
      rw [e]
      exact ih i j z (by simpa using h) hj
/-- The row shows pieces. -/
def SeesP (w : World) (A : Option Addr) (n c : Nat) (zs : List PieceV) : Prop := Sees w 4 A n c (zs.flatMap pcCells)
theorem SeesP.len {w : World} {A : Option Addr} {n c : Nat} {zs : List PieceV} (h : SeesP w A n c zs) : zs.length = n := by
  have := Sees.len h
  rw [flatMap_len pcCells 4 (fun _ => rfl)] at this
  omega
theorem SeesP.at_ {w : World} {A : Option Addr} {n c k : Nat} {zs : List PieceV} (h : SeesP w A n c zs) (hk : k < n) :
    ∃ b o kd m x Y ny cy l, A = some ⟨b, o, none⟩ ∧ zs[k]? = some (kd, m, x, Y, ny, cy, l) ∧ w.cell? ⟨b, o + k * 4, none⟩ = some (.int .u8 ((kd : Nat) : Int)) ∧ w.cell? ⟨b, o + k * 4 + 1, none⟩ = some (.int .u8 ((m : Nat) : Int)) ∧ w.cell? ⟨b, o + k * 4 + 2, none⟩ = some (.int .u64 ((x : Nat) : Int)) ∧ w.cell? ⟨b, o + k * 4 + 3, none⟩ = some (.slice Y ny cy) := by
  have hl := h.len
  obtain ⟨⟨kd, m, x, Y, ny, cy, l⟩, hz⟩ : ∃ z, zs[k]? = some z := ⟨zs[k]'(by omega), List.getElem?_eq_getElem (by omega)⟩
  have g := fun j hj => flatMap_at pcCells 4 (fun _ => rfl) zs k j _ hz hj
  obtain ⟨b, o, hA, c0⟩ := Sees.look h _ _ (g 0 (by decide))
  obtain ⟨b1, o1, hA1, c1⟩ := Sees.look h _ _ (g 1 (by decide))
  obtain ⟨b2, o2, hA2, c2⟩ := Sees.look h _ _ (g 2 (by decide))
  obtain ⟨b3, o3, hA3, c3⟩ := Sees.look h _ _ (g 3 (by decide))
  subst hA
  cases hA1; cases hA2; cases hA3
  exact ⟨b, o, kd, m, x, Y, ny, cy, l, rfl, hz, c0, by rw [Nat.add_assoc]; exact c1, by rw [Nat.add_assoc]; exact c2, by rw [Nat.add_assoc]; exact c3⟩

theorem take_flat4 (zs : List PieceV) (m : Nat) : (zs.flatMap pcCells).take (m * 4) = (zs.take m).flatMap pcCells := by
  induction zs generalizing m with
  | nil => simp
  | cons z zs ih =>
    cases m with
    | zero => simp
    | succ m =>
      rw [List.flatMap_cons, List.take_succ_cons, List.flatMap_cons, List.take_append, List.take_of_length_le (show (pcCells z).length ≤ (m + 1) * 4 by show 4 ≤ _; omega), show (m + 1) * 4 - (pcCells z).length = m * 4 by show (m + 1) * 4 - 4 = _; omega, ih]
theorem E_int : Elem Try.prog 29 3 (.int .i64 0) 1 8 := elem_of Try.underlying29 (by kernel_rfl) rfl (by decide)
theorem E_piece : Elem Try.prog 22 33 (.agg #[.int .u8 0, .int .u8 0, .int .u64 0, .slice none 0 0]) 4 40 := elem_of Try.underlying22 (by kernel_rfl) rfl (by decide)

/-- Rows of elements of two types never lie in one block. -/
theorem own_types {w : World} {b1 b2 e1 e2 s1 s2 n1 n2 : Nat} {v1 v2 : Value} {xs1 xs2 : List Value} (h1 : w.ownsRow b1 e1 s1 v1 n1 xs1) (h2 : w.ownsRow b2 e2 s2 v2 n2 xs2) (ht : e1 ≠ e2) : ∀ q, v1.ownBlock = some q → v2.ownBlock ≠ some q := by
  intro q hq hq2
  rcases h1.2 with ⟨x1, _⟩ | ⟨g1, c1, cur1, hv1, hg1, hh1, _⟩
  · subst x1; simp [Value.ownBlock] at hq
  · rcases h2.2 with ⟨x2, _⟩ | ⟨g2, c2, cur2, hv2, hg2, hh2, _⟩
    · subst x2; simp [Value.ownBlock] at hq2
    · subst hv1 hv2
      simp [Value.ownBlock] at hq hq2
      subst hq
      subst hq2
      rw [hh1] at hh2
      simp at hh2
      exact ht hh2.2

theorem sees_blockP {w : World} {g n c s : Nat} {cs : Array Value} {e : TypeId} {fz : Nat × Nat} {xs : List Value} (h : w.heap[g]? = some (.cells cs e fz)) (hx : xs.length = n * s) (hn : n ≤ c) (hc : c ≤ maxLen) (hp : xs <+: cs.toList) : Sees w s (some ⟨g, 0, none⟩) n c xs :=
  ⟨hx, hn, hc, fun h => by (cases h), fun k u hu => ⟨g, 0, rfl, by
    rw [Nat.zero_add, cell_of_row w g k cs e fz h]
    obtain ⟨r, hr⟩ := hp
    have : cs.toList[k]? = some u := by rw [← hr, List.getElem?_append_left (List.getElem?_eq_some_iff.1 hu).1]; exact hu
    simpa using this⟩⟩
theorem ceP (z : PieceV) : ∀ u ∈ pcCells z, u.oneCell' = true := by
  intro u hu
  simp [pcCells] at hu
  rcases hu with rfl | rfl | rfl | rfl <;> rfl
theorem putF_no {bs xs : List Int} {lim : Nat} (h : lim < bs.length + xs.length) : putF bs lim xs = (bs, 4) := by unfold putF; rw [if_pos h]
theorem putF_yes {bs xs : List Int} {lim : Nat} (h : ¬ lim < bs.length + xs.length) : putF bs lim xs = (bs ++ xs, 0) := by unfold putF; rw [if_neg h]

/-- The writer at p, which holds bs; the pieces ks that were kept, the row el of ends. -/
structure CB (w0 W : World) (p lim : Nat) (A : Option Addr) (c : Nat) (K : Option Addr) (ck : Nat) (E : Option Addr) (ce : Nat) (bs : List Int) (ks : List PieceV) (el : List Int) : Prop where
  wtr : Wtr W w0.heap.size p A bs.length c bs lim
  kept : W.ownsRow w0.heap.size 33 4 (.slice K ks.length ck) ks.length (ks.flatMap pcCells)
  ends : W.ownsRow w0.heap.size 3 1 (.slice E el.length ce) el.length (el.map (Value.int .i64))
  good : ∀ z ∈ ks, GoodP w0 z
  bel : Below w0.heap.size w0 W
section
variable {w0 W W' : World} {p lim c ck ce : Nat} {A K E : Option Addr} {bs bs' el : List Int} {ks js : List PieceV}
theorem CB.below (h : CB w0 W p lim A c K ck E ce bs ks el) (hb : Below W.heap.size W W') : CB w0 W' p lim A c K ck E ce bs ks el :=
  ⟨h.wtr.below hb, own_below h.kept hb (Nat.le_refl _), own_below h.ends hb (Nat.le_refl _), h.good, h.bel.trans (hb.mono h.bel.size)⟩
/-- A call of the writer. -/
theorem CB.did (h : CB w0 W p lim A c K ck E ce bs ks el) (hd : WDid w0.heap.size p lim A bs.length c W bs' W') : ∃ A' c', CB w0 W' p lim A' c' K ck E ce bs' ks el := by
  obtain ⟨A', c', h1, h2, h3⟩ := hd
  refine ⟨A', c', h1, own_both h.kept h2 (fun q hq => ⟨?_, ?_⟩), own_both h.ends h2 (fun q hq => ⟨?_, ?_⟩), h.good, h.bel.trans (h.wtr.both h2 h.bel.size)⟩
  · intro e; subst e; exact own_type h.kept h.wtr.obj (by decide) hq
  · exact own_types h.kept h.wtr.own (by decide) q hq
  · intro e; subst e; exact own_type h.ends h.wtr.obj (by decide) hq
  · exact own_types h.ends h.wtr.own (by decide) q hq
/-- An append to the pieces. -/
theorem CB.keep (h : CB w0 W p lim A c K ck E ce bs ks el) {z : PieceV} (hz : GoodP w0 z) {K' : Option Addr} {ck' : Nat}
    (ho : W'.ownsRow w0.heap.size 33 4 (.slice K' (ks.length + 1) ck') (ks.length + 1) (ks.flatMap pcCells ++ pcCells z)) (hg : W.grownBy W' (Value.slice K ks.length ck).ownBlock) (hb : Below w0.heap.size W W') :
    CB w0 W' p lim A c K' ck' E ce bs (ks ++ [z]) el := by
  refine ⟨⟨?_, own_kept_as h.wtr.own hg (ne_row (own_types h.kept h.wtr.own (by decide))), h.wtr.off, h.wtr.bp, h.wtr.le, h.wtr.lm⟩, ?_, own_kept_as h.ends hg (ne_row (own_types h.kept h.ends (by decide))), ?_, h.bel.trans hb⟩
  · exact (hg.block p h.wtr.plt (fun e => own_type h.kept h.wtr.obj (by decide) e.symm)).trans h.wtr.obj
  · rw [List.length_append, List.length_singleton, List.flatMap_append, show [z].flatMap pcCells = pcCells z by simp]
    exact ho
  · intro y hy
    rcases List.mem_append.1 hy with h' | h'
    · exact h.good y h'
    · rw [List.mem_singleton.1 h']; exact hz
/-- An append to the ends. -/
theorem CB.end_ (h : CB w0 W p lim A c K ck E ce bs ks el) {x : Int} {E' : Option Addr} {ce' : Nat}
    (ho : W'.ownsRow w0.heap.size 3 1 (.slice E' (el.length + 1) ce') (el.length + 1) (el.map (Value.int .i64) ++ [Value.int .i64 x])) (hg : W.grownBy W' (Value.slice E el.length ce).ownBlock) (hb : Below w0.heap.size W W') :
    CB w0 W' p lim A c K ck E' ce' bs ks (el ++ [x]) := by
  refine ⟨⟨?_, own_kept_as h.wtr.own hg (ne_row (own_types h.ends h.wtr.own (by decide))), h.wtr.off, h.wtr.bp, h.wtr.le, h.wtr.lm⟩, own_kept_as h.kept hg (ne_row (own_types h.ends h.kept (by decide))), ?_, h.good, h.bel.trans hb⟩
  · exact (hg.block p h.wtr.plt (fun e => own_type h.ends h.wtr.obj (by decide) e.symm)).trans h.wtr.obj
  · rw [List.length_append, List.length_singleton, List.map_append]
    exact ho
theorem CB.first {w0 W : World} {b0 p lim : Nat} (h : Wtr W b0 p none 0 0 [] lim) (hb0 : w0.heap.size ≤ b0) (hb : Below w0.heap.size w0 W) :
    CB w0 (W.alloc (.cells #[.int .i64 0] 3)) p lim none 0 none 0 (some ⟨W.heap.size, 0, none⟩) 1 [] [] [0] := by
  refine ⟨(⟨h.obj, own_base h.own hb0, h.off, Nat.le_trans hb0 h.bp, h.le, h.lm⟩ : Wtr W w0.heap.size p none 0 0 [] lim).below ((Below.refl _ _).alloc (Nat.le_refl _) _), ⟨rfl, .inl ⟨rfl, rfl⟩⟩, ?_, fun z hz => by simp at hz, hb.alloc hb.size _⟩
  exact World.ownsRow_lit (base := w0.heap.size) (e := 3) (size := 1) W #[.int .i64 0] 1 hb.size (by decide) rfl
theorem CB.box (h : CB w0 W p lim A c K ck E ce bs ks el) {cs : Array Value} {t : TypeId}
    (hd : WDid w0.heap.size p lim A bs.length c (W.alloc (.cells cs t)) bs' W') (k : Nat) : W'.cell? ⟨W.heap.size, k, none⟩ = cs[k]? := by
  have h1 := did_cell (k := k) hd (g := W.heap.size) (by simp) (by have := h.wtr.plt; omega) (fun e => by have := (h.wtr.own.lt _ e).2; omega)
  rw [h1]
  simp
theorem CB.ends_ (h : CB w0 W p lim A c K ck E ce bs ks (endsL js)) : W.ownsRow w0.heap.size 3 1 (.slice E (js.length + 1) ce) (js.length + 1) ((endsL js).map (Value.int .i64)) := by
  have := h.ends
  rw [endsL_len] at this
  exact this
theorem CB.next {js : List PieceV} {z : PieceV} {E' : Option Addr} {ce' : Nat} {x : Int} (h : CB w0 W p lim A c K ck E ce (allB js ++ pcB z) (js ++ [z]) (endsL js)) (hx : x = ((allB js ++ pcB z).length : Int))
    (ho : W'.ownsRow w0.heap.size 3 1 (.slice E' (js.length + 1 + 1) ce') (js.length + 1 + 1) ((endsL js).map (Value.int .i64) ++ [Value.int .i64 x])) (hg : W.grownBy W' (Value.slice E (js.length + 1) ce).ownBlock) (hb : Below w0.heap.size W W') :
    CB w0 W' p lim A c K ck E' ce' (allB (js ++ [z])) (js ++ [z]) (endsL (js ++ [z])) := by
  rw [endsL_snoc, allB_app, allB_one, ← hx]
  exact h.end_ (by rw [endsL_len]; exact ho) (by rw [endsL_len]; exact hg) hb
end
theorem ends_cell {w : World} {E : Option Addr} {ce : Nat} {ks : List PieceV} (h : Sees w 1 E (ks.length + 1) ce ((endsL ks).map (Value.int .i64))) :
    ∃ b o, E = some ⟨b, o, none⟩ ∧ ∀ i, i ≤ ks.length → w.cell? ⟨b, o + i, none⟩ = some (.int .i64 ((endAt ks i : Nat) : Int)) := by
  obtain ⟨b, o, hE, _⟩ := h.int (k := 0) (by omega)
  refine ⟨b, o, hE, fun i hi => ?_⟩
  obtain ⟨b1, o1, hE1, hc⟩ := h.int (k := i) (by omega)
  rw [hE] at hE1
  cases hE1
  rw [endsL_at hi] at hc
  exact hc
theorem keeps_cellA {G : Nat} {w w' : World} (h : Keeps G w w') {a : Addr} {v : Value} (hg : a.block ≠ G) (hc : w.cell? a = some v) : w'.cell? a = some v := (h.cell (World.block_lt_of_cell? _ _ hc) hg).trans hc
end Go.Proofs.Ytgngeachgkappaa
