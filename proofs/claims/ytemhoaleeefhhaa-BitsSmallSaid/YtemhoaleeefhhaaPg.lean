/- Sets in boxes, rows of their words, what is seen: one predicate. -/
import Derived.Test.YtemhoaleeefhhaaProg
import Derived.Test.YtemhoaleeefhhaaFe
import Derived.Test.YtemhoaleeefhhaaMa
namespace Go.Proofs.Ytemhoaleeefhhaa
open Go.RowKit
set_option linter.unusedVariables false

structure Sx where
  b : Nat
  N : Int
  A : Option Addr
  n : Nat
  c : Nat
structure Rx where
  A : Option Addr
  n : Nat
  c : Nat
  zs : List Int
def Rx.v (r : Rx) : Value := .slice r.A r.n r.c
/-- Sets in boxes S; own rows R, all apart; what is seen E. -/
structure JX (w W : World) (S : List Sx) (R E : List Rx) : Prop where
  bel : Below w.heap.size w W
  box : ∀ p ∈ S, SetB W p.b p.N p.A p.n p.c
  row : ∀ r ∈ R, W.ownsRow w.heap.size 54 1 r.v r.n (r.zs.map (Value.int .u64))
  see : ∀ e ∈ E, Sees W 1 e.A e.n e.c (e.zs.map (Value.int .u64))
  dis : R.Pairwise fun r s => Dis r.v s.v
section
variable {w W W' : World} {S : List Sx} {R E : List Rx}
theorem JX.b (h : JX w W S R E) (b : Nat) (N : Int) (A : Option Addr) (n c : Nat) (hp : Sx.mk b N A n c ∈ S) : SetB W b N A n c := h.box _ hp
theorem JX.r (h : JX w W S R E) (A : Option Addr) (n c : Nat) (zs : List Int) (hp : Rx.mk A n c zs ∈ R) : W.ownsRow w.heap.size 54 1 (.slice A n c) n (zs.map (Value.int .u64)) := h.row _ hp
theorem JX.s (h : JX w W S R E) (A : Option Addr) (n c : Nat) (zs : List Int) (hp : Rx.mk A n c zs ∈ R) : Sees W 1 A n c (zs.map (Value.int .u64)) := sees_own (h.r A n c zs hp)
theorem JX.e (h : JX w W S R E) (A : Option Addr) (n c : Nat) (zs : List Int) (hp : Rx.mk A n c zs ∈ E) : Sees W 1 A n c (zs.map (Value.int .u64)) := h.see _ hp
theorem JX.step (h : JX w W S R E) (k : Below W.heap.size W W') : JX w W' S R E :=
  ⟨below_step h.bel k, fun p hp => (h.box p hp).below k (Nat.le_refl _), fun r hr => own_below (h.row r hr) k (Nat.le_refl _), fun e he => (h.see e he).below k (Nat.le_refl _), h.dis⟩
theorem JX.newRow (h : JX w W S R E) (k : Below W.heap.size W W') {A : Option Addr} {n c : Nat} {zs : List Int} (o : W'.ownsRow W.heap.size 54 1 (.slice A n c) n (zs.map (Value.int .u64))) : JX w W' S (⟨A, n, c, zs⟩ :: R) E := by
  have h2 := h.step k
  refine ⟨h2.bel, h2.box, fun r hr => ?_, h2.see, List.pairwise_cons.2 ⟨fun s hs q hq hq2 => ?_, h.dis⟩⟩
  · rcases List.mem_cons.1 hr with rfl | hr
    · exact own_base o h.bel.size
    · exact h2.row r hr
  · have e1 := (o.lt q hq).1
    have e2 := ((h.row s hs).lt q hq2).2
    omega
theorem JX.newBox (h : JX w W S R E) (N : Int) (A : Option Addr) (n c : Nat) : JX w (W.alloc (.cells #[.int .i64 N, .slice A n c] 24)) (⟨W.heap.size, N, A, n, c⟩ :: S) R E := by
  have h2 := h.step ((Below.refl _ _).alloc (Nat.le_refl _) (.cells #[.int .i64 N, .slice A n c] 24))
  refine ⟨h2.bel, fun p hp => ?_, h2.row, h2.see, h.dis⟩
  rcases List.mem_cons.1 hp with rfl | hp
  · exact SetB.new _ _ _ _ _
  · exact h2.box p hp
def rx0 : Rx := ⟨none, 0, 0, []⟩
theorem JX.apart (h : JX w W S R E) (p : List Nat) (Al : Option Addr) (K cl : Nat) (hK : p.length = K) (hK0 : 0 < K) (hK1 : K ≤ 100) (hn : ∀ r ∈ R, r.n ≤ 100000) (hp : ∀ i ∈ p, i < R.length) (hi : ∀ i < K, ∀ j < K, i ≠ j → p.getD i 0 ≠ p.getD j 0)
    (hs : Sees W 1 Al K cl (p.map fun i => (R.getD i rx0).v)) : Calls Try.prog 42 #[.slice Al K cl] W fun e w' => e = .returned (.bool true) ∧ Below w.heap.size W w' := by
  have hm : ∀ i, i < K → p.getD i 0 < R.length := fun i hi => hp _ (by rw [List.getD, List.getElem?_eq_getElem (by omega)]; exact List.getElem_mem _)
  have hR : ∀ i, i < R.length → R.getD i rx0 ∈ R := fun i hi => by rw [List.getD, List.getElem?_eq_getElem hi]; exact List.getElem_mem _
  refine ApartNums_any K w.heap.size cl Al (fun i => (R.getD (p.getD i 0) rx0).v) (fun i => (R.getD (p.getD i 0) rx0).n) (fun i => (R.getD (p.getD i 0) rx0).zs) W hK0 hK1 (fun j hj => hn _ (hR _ (hm j hj))) ?_ h.bel.size (fun i hi => h.row _ (hR _ (hm i hi))) (fun i j hi' hj hij => ?_)
  · have e : (List.range K).map (fun i => (R.getD (p.getD i 0) rx0).v) = p.map fun i => (R.getD i rx0).v := by
      apply List.ext_getElem
      · simp [hK]
      · intro i h1 h2
        have hip : i < p.length := by rw [List.length_map] at h2; exact h2
        have e0 : p.getD i 0 = p[i] := by rw [List.getD, List.getElem?_eq_getElem hip, Option.getD_some]
        simp only [List.getElem_map, List.getElem_range, e0]
    rw [e]; exact hs
  · have hne := hi i hi' j hj hij
    have hpw := List.pairwise_iff_getElem.1 h.dis
    have h1 := hm i hi'
    have h2 := hm j hj
    generalize p.getD i 0 = a at *
    generalize p.getD j 0 = b at *
    show Dis (R.getD a rx0).v (R.getD b rx0).v
    rw [List.getD, List.getD, List.getElem?_eq_getElem h1, List.getElem?_eq_getElem h2, Option.getD_some, Option.getD_some]
    rcases Nat.lt_or_gt_of_ne hne with hlt | hlt
    · exact hpw a b h1 h2 hlt
    · exact (hpw b a h2 h1 hlt).symm
end

theorem alloc_sizeP (w : World) (o : Obj) : (w.alloc o).heap.size = w.heap.size + 1 := by simp
theorem drew_sizeP (w : World) : w.drew.heap.size = w.heap.size := rfl
theorem SetB.otherP {w : World} {b b' n c i : Nat} {N : Int} {A : Option Addr} (h : SetB w b N A n c) (hb : b ≠ b') (u : Value) : SetB (w.setCell ⟨b', i, none⟩ u) b N A n c := (Below.heap_setCell w ⟨b', i, none⟩ u b hb).trans h
theorem own_putP {w : World} {B b n c n' c' i : Nat} {N : Int} {A A' : Option Addr} {xs : List Value} (h : w.ownsRow B 54 1 (.slice A n c) n xs) (hb : SetB w b N A' n' c') (u : Value) : (w.setCell ⟨b, i, none⟩ u).ownsRow B 54 1 (.slice A n c) n xs :=
  own_ne h (grown_set w b i u) fun q hq hq2 => by cases hq; exact own_typeB h hb (by decide) hq2
theorem put_setP {w : World} {b n c : Nat} {N : Int} {A : Option Addr} (h : SetB w b 0 none 0 0) : SetB (w.setCell ⟨b, 0, none⟩ (.int .i64 N)) b N none 0 0 := by
  have := heap_setCell_same w b 0 _ _ (.int .i64 N) h
  unfold SetB
  simpa using this
theorem SetB.new1P (w : World) : SetB ((w.alloc (.cells #[.int .i64 0, .slice none 0 0] 24)).alloc (.cells #[.int .i64 0, .slice none 0 0] 24)) (w.heap.size + 1) 0 none 0 0 := by rw [← alloc_sizeP w (.cells #[.int .i64 0, .slice none 0 0] 24)]; exact SetB.new _ _ _ _ _

/-- Two sets in new boxes, with rows of their own. -/
structure Two (w W : World) (b5 b6 : Nat) (M N : Int) (Ax Ay : Option Addr) (n1 n2 m1 m2 cx cy : Nat) (a b : List Int) : Prop where
  bel : Below w.heap.size w W
  x : SetB W b5 M Ax n1 cx
  y : SetB W b6 N Ay n2 cy
  ox : W.ownsRow w.heap.size 54 1 (.slice Ax m1 cx) m1 (a.map (Value.int .u64))
  oy : W.ownsRow w.heap.size 54 1 (.slice Ay m2 cy) m2 (b.map (Value.int .u64))
  d : Dis (.slice Ax m1 cx) (.slice Ay m2 cy)
section
variable {w W : World} {b5 b6 : Nat} {M N : Int} {Ax Ay : Option Addr} {n1 n2 m1 m2 cx cy : Nat} {a b : List Int}
theorem two5 (hb : Below w.heap.size w W) (h8 : SetB W b5 M Ax n1 cx) (h9 : SetB W b6 0 none 0 0) (hne : b5 ≠ b6) (l9 : w.heap.size ≤ b6) (oa : W.ownsRow w.heap.size 54 1 (.slice Ax m1 cx) m1 (a.map (Value.int .u64))) (ob : W.ownsRow w.heap.size 54 1 (.slice Ay m2 cy) m2 (b.map (Value.int .u64))) (d : Dis (.slice Ax m1 cx) (.slice Ay m2 cy)) :
    Two w ((W.setCell ⟨b6, 0, none⟩ (.int .i64 N)).setCell ⟨b6, 1, none⟩ (.slice Ay n2 cy)) b5 b6 M N Ax Ay n1 n2 m1 m2 cx cy a b := by
  have e9 : SetB (W.setCell ⟨b6, 0, none⟩ (.int .i64 N)) b6 N none 0 0 := put_setP (n := 0) (c := 0) (A := none) h9
  exact ⟨below_put hb l9 _ _, (h8.otherP hne (.int .i64 N) (i := 0)).otherP hne (.slice Ay n2 cy) (i := 1), h9.put, own_putP (i := 1) (own_putP (i := 0) oa h9 (.int .i64 N)) e9 (.slice Ay n2 cy), own_putP (i := 1) (own_putP (i := 0) ob h9 (.int .i64 N)) e9 (.slice Ay n2 cy), d⟩
theorem two8 (hb : Below w.heap.size w W) (h8 : SetB W b5 0 none 0 0) (h9 : SetB W b6 0 none 0 0) (hne : b5 ≠ b6) (l8 : w.heap.size ≤ b5) (l9 : w.heap.size ≤ b6) (oa : W.ownsRow w.heap.size 54 1 (.slice Ax m1 cx) m1 (a.map (Value.int .u64))) (ob : W.ownsRow w.heap.size 54 1 (.slice Ay m2 cy) m2 (b.map (Value.int .u64))) (d : Dis (.slice Ax m1 cx) (.slice Ay m2 cy)) :
    Two w ((((W.setCell ⟨b5, 0, none⟩ (.int .i64 M)).setCell ⟨b5, 1, none⟩ (.slice Ax n1 cx)).setCell ⟨b6, 0, none⟩ (.int .i64 N)).setCell ⟨b6, 1, none⟩ (.slice Ay n2 cy)) b5 b6 M N Ax Ay n1 n2 m1 m2 cx cy a b := by
  have e8 : SetB (W.setCell ⟨b5, 0, none⟩ (.int .i64 M)) b5 M none 0 0 := put_setP (n := 0) (c := 0) (A := none) h8
  exact two5 (below_put hb l8 _ _) h8.put ((h9.otherP (Ne.symm hne) (.int .i64 M) (i := 0)).otherP (Ne.symm hne) (.slice Ax n1 cx) (i := 1)) hne l9 (own_putP (i := 1) (own_putP (i := 0) oa h8 (.int .i64 M)) e8 (.slice Ax n1 cx)) (own_putP (i := 1) (own_putP (i := 0) ob h8 (.int .i64 M)) e8 (.slice Ax n1 cx)) d
theorem twoA (hb : Below w.heap.size w W) (h9 : SetB W b6 0 none 0 0) (l9 : w.heap.size ≤ b6) (oa : W.ownsRow w.heap.size 54 1 (.slice Ax m1 cx) m1 (a.map (Value.int .u64))) (ob : W.ownsRow w.heap.size 54 1 (.slice Ay m2 cy) m2 (b.map (Value.int .u64))) (d : Dis (.slice Ax m1 cx) (.slice Ay m2 cy)) :
    Two w (((W.alloc (.cells #[.int .i64 M, .slice Ax n1 cx] 24)).setCell ⟨b6, 0, none⟩ (.int .i64 N)).setCell ⟨b6, 1, none⟩ (.slice Ay n2 cy)) W.heap.size b6 M N Ax Ay n1 n2 m1 m2 cx cy a b :=
  two5 (hb.alloc hb.size _) (SetB.new _ _ _ _ _) (h9.alloc _) (fun e => by have := h9.lt; omega) l9 (oa.alloc _) (ob.alloc _) d
theorem twoB (hb : Below w.heap.size w W) (oa : W.ownsRow w.heap.size 54 1 (.slice Ax m1 cx) m1 (a.map (Value.int .u64))) (ob : W.ownsRow w.heap.size 54 1 (.slice Ay m2 cy) m2 (b.map (Value.int .u64))) (d : Dis (.slice Ax m1 cx) (.slice Ay m2 cy)) :
    Two w ((W.alloc (.cells #[.int .i64 M, .slice Ax n1 cx] 24)).alloc (.cells #[.int .i64 N, .slice Ay n2 cy] 24)) W.heap.size (W.heap.size + 1) M N Ax Ay n1 n2 m1 m2 cx cy a b :=
  ⟨(hb.alloc hb.size _).alloc (hb.alloc hb.size _).size _, (SetB.new _ _ _ _ _).alloc _, by rw [← alloc_sizeP W (.cells #[.int .i64 M, .slice Ax n1 cx] 24)]; exact SetB.new _ _ _ _ _, (oa.alloc _).alloc _, (ob.alloc _).alloc _, d⟩
theorem twoC (hb : Below w.heap.size w W) (oa : W.ownsRow w.heap.size 54 1 (.slice Ax m1 cx) m1 (a.map (Value.int .u64))) (ob : W.ownsRow w.heap.size 54 1 (.slice Ay m2 cy) m2 (b.map (Value.int .u64))) (d : Dis (.slice Ax m1 cx) (.slice Ay m2 cy)) :
    Two w ((W.alloc (.cells #[.int .i64 N, .slice Ay n2 cy] 24)).alloc (.cells #[.int .i64 M, .slice Ax n1 cx] 24)) (W.heap.size + 1) W.heap.size M N Ax Ay n1 n2 m1 m2 cx cy a b :=
  ⟨(hb.alloc hb.size _).alloc (hb.alloc hb.size _).size _, by rw [← alloc_sizeP W (.cells #[.int .i64 N, .slice Ay n2 cy] 24)]; exact SetB.new _ _ _ _ _, (SetB.new _ _ _ _ _).alloc _, (oa.alloc _).alloc _, (ob.alloc _).alloc _, d⟩
theorem own_first {w : World} {base n m c : Nat} {A : Option Addr} {a t : List Int} (h : w.ownsRow base 54 1 (.slice A m c) m ((a ++ t).map (Value.int .u64))) (ha : a.length = n) (hn : n < m) : w.ownsRow base 54 1 (.slice A n c) n (a.map (Value.int .u64)) := by
  obtain ⟨g, c', e, _⟩ := own_addrK h (by omega)
  cases e
  rw [List.map_append] at h
  exact own_pre h (by simp [ha]) (by omega)
theorem Two.jx {w W W' : World} {S : List Sx} {R E : List Rx} {sx sy : List Int} (h0 : JX w W S R E) (h : Two W W' b5 b6 M N Ax Ay n1 n2 (n1 + 12) (n2 + 12) cx cy (sx ++ mksN 12) (sy ++ mksN 12)) (hx : sx.length = n1) (hy : sy.length = n2) :
    JX w W' (⟨b6, N, Ay, n2, cy⟩ :: ⟨b5, M, Ax, n1, cx⟩ :: S) (⟨Ay, n2, cy, sy⟩ :: ⟨Ax, n1, cx, sx⟩ :: R) (⟨Ay, n2 + 12, cy, sy ++ mksN 12⟩ :: ⟨Ax, n1 + 12, cx, sx ++ mksN 12⟩ :: E) := by
  have h2 := h0.step h.bel
  have o1 := own_first h.ox hx (by omega)
  have o2 := own_first h.oy hy (by omega)
  have dd : ∀ (A : Option Addr) (n c : Nat) (zs : List Int), W'.ownsRow W.heap.size 54 1 (.slice A n c) n (zs.map (Value.int .u64)) → ∀ s ∈ R, Dis (.slice A n c) s.v := fun A n c zs o s hs q hq hq2 => by
    have e1 := (o.lt q hq).1
    have e2 := ((h0.row s hs).lt q hq2).2
    omega
  refine ⟨h2.bel, fun p hp => ?_, fun r hr => ?_, fun e he => ?_, List.pairwise_cons.2 ⟨fun s hs => ?_, List.pairwise_cons.2 ⟨dd _ _ _ _ o1, h0.dis⟩⟩⟩
  · rcases List.mem_cons.1 hp with rfl | hp
    · exact h.y
    · rcases List.mem_cons.1 hp with rfl | hp
      · exact h.x
      · exact h2.box p hp
  · rcases List.mem_cons.1 hr with rfl | hr
    · exact own_base o2 h0.bel.size
    · rcases List.mem_cons.1 hr with rfl | hr
      · exact own_base o1 h0.bel.size
      · exact h2.row r hr
  · rcases List.mem_cons.1 he with rfl | he
    · exact sees_own h.oy
    · rcases List.mem_cons.1 he with rfl | he
      · exact sees_own h.ox
      · exact h2.see e he
  · rcases List.mem_cons.1 hs with rfl | hs
    · intro q hq hq2
      have hd := h.d q
      obtain ⟨g, c', e, _⟩ := own_addrK h.ox (by omega)
      cases e
      obtain ⟨g2, c2, e, _⟩ := own_addrK h.oy (by omega)
      cases e
      exact hd hq2 hq
    · exact dd _ _ _ _ o2 s hs
end
end Go.Proofs.Ytemhoaleeefhhaa
