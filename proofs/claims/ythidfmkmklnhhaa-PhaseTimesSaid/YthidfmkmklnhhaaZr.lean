/- Plain laws of PhaseTimes: products of rows, by class sums; three own rows. -/
import Derived.Test.YthidfmkmklnhhaaProg
import Derived.Test.YthidfmkmklnhhaaYs
namespace Go.Proofs.Ythidfmkmklnhhaa
open Go.RowKit
set_option linter.unusedVariables false

theorem rg_set (f g : Nat → Int) (n k : Nat) (hk : k < n) (hg : ∀ i, i ≠ k → g i = f i) : ((List.range n).map f).set k (g k) = (List.range n).map g := by
  apply List.ext_getElem
  · simp
  · intro i h1 h2
    simp only [List.getElem_set, List.getElem_map, List.getElem_range]
    by_cases h : k = i
    · subst h; rw [if_pos rfl]
    · rw [if_neg h, hg i (Ne.symm h)]
theorem rg_self (l : List Int) (n : Nat) (h : l.length = n) : (List.range n).map (fun i => l.getD i 0) = l := by
  apply List.ext_getElem
  · simp [h]
  · intro i h1 h2
    simp [List.getD_eq_getElem?_getD, List.getElem?_eq_getElem h2]
/-- The first k of n elements reduced. -/
def mx (l : List Int) (n k : Nat) : List Int := (List.range n).map fun i => if i < k then (l.getD i 0).tmod 262144 else l.getD i 0
theorem mx_len (l : List Int) (n k : Nat) : (mx l n k).length = n := by simp [mx]
theorem mx_zero (l : List Int) (n : Nat) (h : l.length = n) : mx l n 0 = l := by
  unfold mx
  simp only [Nat.not_lt_zero, if_false]
  exact rg_self l n h
theorem mx_set (l : List Int) (n k : Nat) (hk : k < n) : (mx l n k).set k ((l.getD k 0).tmod 262144) = mx l n (k + 1) := by
  have h := rg_set (fun i => if i < k then (l.getD i 0).tmod 262144 else l.getD i 0) (fun i => if i < k + 1 then (l.getD i 0).tmod 262144 else l.getD i 0) n k hk (fun i hi => by
    show (if i < k + 1 then _ else _) = if i < k then _ else _
    by_cases h : i < k
    · rw [if_pos h, if_pos (by omega)]
    · rw [if_neg h, if_neg (by omega)])
  simp only [Nat.lt_succ_self, if_true] at h
  exact h
theorem mx_get (l : List Int) (n k : Nat) (hk : k < n) : (mx l n k).getD k 0 = l.getD k 0 := by simp [mx, hk]
theorem tm18 (x : Int) : (x.tmod 262144).natAbs ≤ 262143 := by
  have h1 := Int.tmod_lt_of_pos x (show (0 : Int) < 262144 by decide)
  have h2 := Int.lt_tmod_of_pos x (show (0 : Int) < 262144 by decide)
  omega
theorem mx_le (l : List Int) (n : Nat) : ∀ x ∈ mx l n n, x.natAbs ≤ 262143 := fun x hx => by
  simp only [mx, List.mem_map, List.mem_range] at hx
  obtain ⟨i, hi, rfl⟩ := hx
  rw [if_pos hi]; exact tm18 _
theorem all_getD {l : List Int} {M : Nat} (h : ∀ x ∈ l, x.natAbs ≤ M) (i : Nat) : (l.getD i 0).natAbs ≤ M := by
  by_cases hm : i < l.length
  · rw [List.getD_eq_getElem?_getD, List.getElem?_eq_getElem hm]; exact h _ (List.getElem_mem hm)
  · rw [List.getD_eq_getElem?_getD, List.getElem?_eq_none (by omega)]; exact Nat.zero_le _
theorem get_le_sz (l : List Int) (t : Nat) : ∀ m, t < m → (l.getD t 0).natAbs ≤ sz l m := fun m h => by
  have h1 := sz_mono l (show t + 1 ≤ m by omega)
  have h2 : sz l (t + 1) = sz l t + (l.getD t 0).natAbs := rfl
  omega
theorem getD_set (l : List Int) (t i : Nat) (v : Int) (ht : t < l.length) : (l.set t v).getD i 0 = if i = t then v else l.getD i 0 := by
  rw [List.getD_eq_getElem?_getD]
  by_cases h : i = t
  · subst h; rw [if_pos rfl, List.getElem?_set_self ht]; rfl
  · rw [if_neg h, List.getElem?_set_ne (by omega)]; exact (List.getD_eq_getElem?_getD ..).symm
theorem cs_upd (l : List Int) (t : Nat) (u : Int) (ht : t < l.length) (r : Nat) : ∀ m, cs (l.set t (l.getD t 0 + u)) m r = cs l m r + if t < m ∧ t % 4 = r then u else 0 := by
  intro m
  induction m with
  | zero => rw [if_neg (by omega)]; rfl
  | succ m ih =>
    show cs _ m r + (if m % 4 = r then (l.set t (l.getD t 0 + u)).getD m 0 else 0) = cs l m r + (if m % 4 = r then l.getD m 0 else 0) + _
    rw [ih, getD_set l t m _ ht]
    by_cases h1 : m = t
    · subst h1
      rw [if_neg (show ¬ (m < m ∧ m % 4 = r) by omega), if_pos rfl]
      by_cases h2 : m % 4 = r
      · rw [if_pos h2, if_pos h2, if_pos (show m < m + 1 ∧ m % 4 = r from ⟨by omega, h2⟩)]; omega
      · rw [if_neg h2, if_neg h2, if_neg (show ¬ (m < m + 1 ∧ m % 4 = r) from fun h => h2 h.2)]
    · rw [if_neg h1]
      by_cases h2 : t < m ∧ t % 4 = r
      · rw [if_pos h2, if_pos (show t < m + 1 ∧ t % 4 = r from ⟨by omega, h2.2⟩)]; omega
      · rw [if_neg h2, if_neg (show ¬ (t < m + 1 ∧ t % 4 = r) from fun h => h2 ⟨by omega, h.2⟩)]; omega
theorem sz_upd (l : List Int) (t : Nat) (u : Int) (ht : t < l.length) : ∀ m, sz (l.set t (l.getD t 0 + u)) m ≤ sz l m + if t < m then u.natAbs else 0 := by
  intro m
  induction m with
  | zero => exact Nat.zero_le _
  | succ m ih =>
    show sz _ m + ((l.set t (l.getD t 0 + u)).getD m 0).natAbs ≤ sz l m + (l.getD m 0).natAbs + _
    rw [getD_set l t m _ ht]
    by_cases h1 : m = t
    · subst h1
      rw [if_pos rfl, if_pos (by omega)]
      rw [if_neg (by omega)] at ih
      omega
    · rw [if_neg h1]
      by_cases h2 : t < m
      · rw [if_pos h2] at ih; rw [if_pos (by omega)]; omega
      · rw [if_neg h2] at ih; rw [if_neg (by omega)]; omega
/-- The class sums of the product with the first i elements. -/
def pcs (K : List Int) (d : Nat → Int) : Nat → Nat → Int
  | 0, _ => 0
  | i + 1, r => pcs K d i r + K.getD i 0 * shc d (i % 4) r
theorem pcs_eq (K : List Int) (d : Nat → Int) (r : Nat) (hr : r < 4) : ∀ i, pcs K d i r = mulc (cs K i) d r := by
  intro i
  induction i with
  | zero => simp [pcs, mulc, cs]
  | succ i ih =>
    show pcs K d i r + K.getD i 0 * shc d (i % 4) r = _
    rw [ih]
    have hc : ∀ s, cs K (i + 1) s = cs K i s + if i % 4 = s then K.getD i 0 else 0 := fun s => rfl
    unfold mulc shc
    simp only [hc, Int.add_mul]
    generalize K.getD i 0 = x
    rcases (show i % 4 = 0 ∨ i % 4 = 1 ∨ i % 4 = 2 ∨ i % 4 = 3 by omega) with h | h | h | h <;> rw [h] <;> simp <;> omega
theorem mulc_comm (c d : Nat → Int) : ∀ r < 4, mulc c d r = mulc d c r := fun r hr => by
  have e : ∀ a b, c a * d b = d b * c a := fun a b => Int.mul_comm _ _
  rcases (show r = 0 ∨ r = 1 ∨ r = 2 ∨ r = 3 by omega) with rfl | rfl | rfl | rfl <;> simp [mulc, e] <;> omega
/-- The product while row i of it is made of j elements. -/
def PI (K L P : List Int) (nl N i j : Nat) : Prop := P.length = N ∧ (∀ r < 4, cs P N r = pcs K (cs L nl) i r + K.getD i 0 * shc (cs L j) (i % 4) r) ∧ sz P N ≤ (i * 30 + j) * 68719476736
theorem cs_rep (N r : Nat) : ∀ m, cs (List.replicate N 0) m r = 0 := by
  intro m
  induction m with
  | zero => rfl
  | succ m ih =>
    show cs _ m r + (if m % 4 = r then (List.replicate N (0 : Int)).getD m 0 else 0) = 0
    rw [ih, show (List.replicate N (0 : Int)).getD m 0 = 0 by rw [List.getD_eq_getElem?_getD, List.getElem?_replicate]; split <;> rfl]
    split <;> rfl
theorem sz_rep (N : Nat) : ∀ m, sz (List.replicate N 0) m = 0 := by
  intro m
  induction m with
  | zero => rfl
  | succ m ih =>
    show sz _ m + ((List.replicate N (0 : Int)).getD m 0).natAbs = 0
    rw [ih, show (List.replicate N (0 : Int)).getD m 0 = 0 by rw [List.getD_eq_getElem?_getD, List.getElem?_replicate]; split <;> rfl]
    rfl
theorem PI.start (K L : List Int) (nl N : Nat) : PI K L (List.replicate N 0) nl N 0 0 :=
  ⟨by simp, fun r _ => by rw [cs_rep]; simp [pcs, shc, cs], by rw [sz_rep]; exact Nat.zero_le _⟩
theorem PI.row {K L P : List Int} {nl N i : Nat} (h : PI K L P nl N i nl) (hn : nl ≤ 30) : PI K L P nl N (i + 1) 0 :=
  ⟨h.1, fun r hr => by rw [h.2.1 r hr]; show _ = pcs K (cs L nl) i r + K.getD i 0 * shc (cs L nl) (i % 4) r + K.getD (i + 1) 0 * 0; rw [Int.mul_zero, Int.add_zero], Nat.le_trans h.2.2 (Nat.mul_le_mul_right _ (by omega))⟩
theorem PI.step {K L P : List Int} {nl N i j : Nat} (h : PI K L P nl N i j) (ht : i + j < N) (hx : (K.getD i 0).natAbs ≤ 262143) (hy : (L.getD j 0).natAbs ≤ 262143) :
    PI K L (P.set (i + j) (P.getD (i + j) 0 + K.getD i 0 * L.getD j 0)) nl N i (j + 1) := by
  refine ⟨by rw [List.length_set]; exact h.1, fun r hr => ?_, ?_⟩
  · rw [cs_upd P (i + j) _ (by rw [h.1]; exact ht) r N, h.2.1 r hr]
    show _ + K.getD i 0 * cs L j ((r + 4 - i % 4) % 4) + _ = _ + K.getD i 0 * (cs L j ((r + 4 - i % 4) % 4) + if j % 4 = (r + 4 - i % 4) % 4 then L.getD j 0 else 0)
    rw [Int.mul_add]
    by_cases h2 : (i + j) % 4 = r
    · rw [if_pos ⟨ht, h2⟩, if_pos (by omega)]; omega
    · rw [if_neg (by omega), if_neg (by omega)]; omega
  · have h1 := sz_upd P (i + j) (K.getD i 0 * L.getD j 0) (by rw [h.1]; exact ht) N
    rw [if_pos ht] at h1
    have h2 := mul_le hx hy
    have h3 := h.2.2
    rw [show i * 30 + (j + 1) = (i * 30 + j) + 1 by omega, Nat.succ_mul]
    omega
theorem PI.get {K L P : List Int} {nl N i j : Nat} (h : PI K L P nl N i j) (ht : i + j < N) (hi : i < 30) (hj : j < 30) (hx : (K.getD i 0).natAbs ≤ 262143) (hy : (L.getD j 0).natAbs ≤ 262143) :
    (-9223372036854775808 ≤ K.getD i 0 * L.getD j 0 ∧ K.getD i 0 * L.getD j 0 ≤ 9223372036854775807) ∧ -9223372036854775808 ≤ P.getD (i + j) 0 + K.getD i 0 * L.getD j 0 ∧ P.getD (i + j) 0 + K.getD i 0 * L.getD j 0 ≤ 9223372036854775807 := by
  have h1 := get_le_sz P (i + j) N ht
  have h2 := mul_le hx hy
  have h3 : (i * 30 + j) * 68719476736 ≤ 900 * 68719476736 := Nat.mul_le_mul_right _ (by omega)
  have h4 := h.2.2
  generalize K.getD i 0 * L.getD j 0 = x at *
  generalize P.getD (i + j) 0 = y at *
  omega
theorem PI.all {K L P : List Int} {nl N nk : Nat} (h : PI K L P nl N nk 0) (hk : nk ≤ 30) : (∀ r < 4, cs P N r = mulc (cs K nk) (cs L nl) r) ∧ sz P N ≤ 1125899906842624 := by
  refine ⟨fun r hr => ?_, ?_⟩
  · rw [h.2.1 r hr, pcs_eq K _ r hr]
    show _ + K.getD nk 0 * 0 = _
    rw [Int.mul_zero, Int.add_zero]
  · have h3 : (nk * 30 + 0) * 68719476736 ≤ 900 * 68719476736 := Nat.mul_le_mul_right _ (by omega)
    have h4 := h.2.2
    omega
theorem sz30 {l : List Int} (h : ∀ x ∈ l, x.natAbs ≤ 262143) {n : Nat} (hn : n ≤ 30) : sz l n ≤ 7864290 := by
  have h1 := sz_le h n
  have h2 : n * 262143 ≤ 30 * 262143 := Nat.mul_le_mul_right _ hn
  omega

theorem own_cut {w : World} {base e n m c : Nat} {A : Option Addr} {xs : List Value} (h : w.ownsRow base e 1 (.slice A m c) m xs) (hn : n ≤ m) : w.ownsRow base e 1 (.slice A n c) n (xs.take n) := by
  obtain ⟨r1, r2⟩ := h
  have hl : (xs.take n).length = n * 1 := by rw [List.length_take, r1]; omega
  rcases r2 with ⟨e0, hx⟩ | ⟨g', cp, cur, hv, hb, hh, hnc, hcm, hcs, ht⟩
  · cases e0
    obtain rfl : n = 0 := by omega
    exact ⟨hl, .inl ⟨rfl, by simp⟩⟩
  · cases hv
    refine ⟨hl, .inr ⟨g', _, cur, rfl, hb, hh, by omega, hcm, hcs, ?_⟩⟩
    rw [← ht, List.take_take]
    congr 1
    omega
/-- Three own rows of integers, each made behind the one before. -/
structure T3 (w0 : World) (vk vl vp : Value) (bk bl bp nk nl np : Nat) (k l p : List Int) (w : World) : Prop where
  rk : w.ownsRow bk 3 1 vk nk (k.map (Value.int .i64))
  rl : w.ownsRow bl 3 1 vl nl (l.map (Value.int .i64))
  rp : w.ownsRow bp 3 1 vp np (p.map (Value.int .i64))
  dk : ∀ q, vk.ownBlock = some q → q < bl
  dl : ∀ q, vl.ownBlock = some q → q < bp
  hb : w0.heap.size ≤ bk ∧ bk ≤ bl ∧ bl ≤ bp
  be : Below w0.heap.size w0 w
section
variable {w0 w w' : World} {vk vl vp : Value} {AK AL AP : Option Addr} {bk bl bp nk nl np ck cl : Nat} {k l p : List Int}
theorem T3.step (h : T3 w0 vk vl vp bk bl bp nk nl np k l p w) (b : Below w.heap.size w w') : T3 w0 vk vl vp bk bl bp nk nl np k l p w' :=
  ⟨own_below h.rk b (Nat.le_refl _), own_below h.rl b (Nat.le_refl _), own_below h.rp b (Nat.le_refl _), h.dk, h.dl, h.hb, below_step h.be b⟩
theorem T3.setK {g : Nat} (h : T3 w0 (.slice (some ⟨g, 0, none⟩) nk ck) vl vp bk bl bp nk nl np k l p w) (i : Nat) (z : Int) : T3 w0 (.slice (some ⟨g, 0, none⟩) nk ck) vl vp bk bl bp nk nl np (k.set i z) l p (w.setCell ⟨g, i, none⟩ (.int .i64 z)) := by
  have h1 := h.dk g rfl
  have h2 := (h.rk.lt g rfl).1
  have h3 := h.hb
  exact ⟨own_setK h.rk i z, ownsRow_setCell_other (a := ⟨g, i, none⟩) h.rl (fun e => by have := (h.rl.lt g e).1; omega) _, ownsRow_setCell_other (a := ⟨g, i, none⟩) h.rp (fun e => by have := (h.rp.lt g e).1; omega) _, h.dk, h.dl, h.hb, h.be.setCell (show w0.heap.size ≤ (⟨g, i, none⟩ : Addr).block by show w0.heap.size ≤ g; omega) _⟩
theorem T3.setL {g : Nat} (h : T3 w0 vk (.slice (some ⟨g, 0, none⟩) nl cl) vp bk bl bp nk nl np k l p w) (i : Nat) (z : Int) : T3 w0 vk (.slice (some ⟨g, 0, none⟩) nl cl) vp bk bl bp nk nl np k (l.set i z) p (w.setCell ⟨g, i, none⟩ (.int .i64 z)) := by
  have h1 := h.dl g rfl
  have h2 := (h.rl.lt g rfl).1
  have h3 := h.hb
  exact ⟨ownsRow_setCell_other (a := ⟨g, i, none⟩) h.rk (fun e => by have := h.dk g e; omega) _, own_setK h.rl i z, ownsRow_setCell_other (a := ⟨g, i, none⟩) h.rp (fun e => by have := (h.rp.lt g e).1; omega) _, h.dk, h.dl, h.hb, h.be.setCell (show w0.heap.size ≤ (⟨g, i, none⟩ : Addr).block by show w0.heap.size ≤ g; omega) _⟩
theorem T3.setP {g cq : Nat} (h : T3 w0 vk vl (.slice (some ⟨g, 0, none⟩) np cq) bk bl bp nk nl np k l p w) (i : Nat) (z : Int) : T3 w0 vk vl (.slice (some ⟨g, 0, none⟩) np cq) bk bl bp nk nl np k l (p.set i z) (w.setCell ⟨g, i, none⟩ (.int .i64 z)) := by
  have h2 := (h.rp.lt g rfl).1
  have h3 := h.hb
  exact ⟨ownsRow_setCell_other (a := ⟨g, i, none⟩) h.rk (fun e => by have := h.dk g e; omega) _, ownsRow_setCell_other (a := ⟨g, i, none⟩) h.rl (fun e => by have := h.dl g e; omega) _, own_setK h.rp i z, h.dk, h.dl, h.hb, h.be.setCell (show w0.heap.size ≤ (⟨g, i, none⟩ : Addr).block by show w0.heap.size ≤ g; omega) _⟩
end
end Go.Proofs.Ythidfmkmklnhhaa
