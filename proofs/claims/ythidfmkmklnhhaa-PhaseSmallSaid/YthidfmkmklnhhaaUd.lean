/- Plain laws of PhaseWrong: sums with one part changed. -/
import Derived.Test.YthidfmkmklnhhaaProg
import Derived.Test.YthidfmkmklnhhaaUc
namespace Go.Proofs.Ythidfmkmklnhhaa
open Go.RowKit
set_option linter.unusedVariables false

/-- The first k of four integers reduced (modulo 2^20). -/
def mw (c : Nat → Int) (k : Nat) : Nat → Int := fun j => if j < k then (c j).tmod 1048576 else c j
theorem mw_set (c : Nat → Int) (k : Nat) (hk : k < 4) : (ic4 (mw c k)).setIfInBounds k (.int .i64 ((c k).tmod 1048576)) = ic4 (mw c (k + 1)) := by
  rcases (show k = 0 ∨ k = 1 ∨ k = 2 ∨ k = 3 by omega) with rfl | rfl | rfl | rfl <;> simp [mw, ic4]
theorem mw_get (c : Nat → Int) (k : Nat) (hk : k < 4) : (ic4 (mw c k))[k]? = some (.int .i64 (c k)) := by
  rw [cs_get (mw c k) k hk]; simp [mw]
def redw (c : Nat → Int) : Nat → Int := fun j => (c j).tmod 1048576
theorem mw_zero (c : Nat → Int) : ic4 (mw c 0) = ic4 c := by simp [mw]
theorem mw_all (c : Nat → Int) : ic4 (mw c 4) = ic4 (redw c) := by simp [mw, ic4, redw]
theorem redw_le (c : Nat → Int) (j : Nat) : (redw c j).natAbs ≤ 1048575 := by
  have h1 := Int.tmod_lt_of_pos (c j) (show (0 : Int) < 1048576 by decide)
  have h2 := Int.lt_tmod_of_pos (c j) (show (0 : Int) < 1048576 by decide)
  unfold redw; omega
theorem szc_redw (c : Nat → Int) : szc (redw c) ≤ 4194300 := by
  have h0 := redw_le c 0
  have h1 := redw_le c 1
  have h2 := redw_le c 2
  have h3 := redw_le c 3
  unfold szc; omega
def putc (c : Nat → Int) (j : Nat) (v : Int) : Nat → Int := fun k => if k = j then v else c k
theorem putc_set (c : Nat → Int) (j : Nat) (hj : j < 4) (v : Int) : (ic4 c).setIfInBounds j (.int .i64 v) = ic4 (putc c j v) := by
  rcases (show j = 0 ∨ j = 1 ∨ j = 2 ∨ j = 3 by omega) with rfl | rfl | rfl | rfl <;> rfl
theorem putc_great (c : Nat → Int) (j : Nat) (hj : j < 4) (v : Int) (h : 1125899906842624 < v.natAbs) : ¬ szc (putc c j v) ≤ 1125899906842624 := by
  have h1 := c_le (putc c j v) j hj
  rw [show putc c j v j = v from if_pos rfl] at h1
  omega
def updn (x : Nat → Nat) (j r : Nat) : Nat → Nat := fun k => if k = j then r else x k
theorem zc_set (x y : Nat → Nat) (j r s : Nat) (hj : j < 4) : (#[Value.complex .f64 (x 0) (y 0), .complex .f64 (x 1) (y 1), .complex .f64 (x 2) (y 2), .complex .f64 (x 3) (y 3)] : Array Value).setIfInBounds j (.complex .f64 r s) = #[.complex .f64 (updn x j r 0) (updn y j s 0), .complex .f64 (updn x j r 1) (updn y j s 1), .complex .f64 (updn x j r 2) (updn y j s 2), .complex .f64 (updn x j r 3) (updn y j s 3)] := by
  rcases (show j = 0 ∨ j = 1 ∨ j = 2 ∨ j = 3 by omega) with rfl | rfl | rfl | rfl <;> rfl
theorem bad_int {x y : Nat → Nat} {c : Nat → Int} (hf : CIF x y c) (hc : szc c ≤ 4194300) (j : Nat) (hj : j < 4) {r s : Nat} {da db : Int} (hr : FI r (dR j c + da)) (hs : FI s (dI j c + db)) (hd : db ≠ 0 ∨ da % 4 ≠ 0) (h1 : da.natAbs ≤ 2) (h2 : db.natAbs ≤ 2) : Cl (updn x j r) (updn y j s) (fun _ => 0) 400 := by
  refine Cl.no (p := fun k => dR k c + if k = j then da else 0) (q := fun k => dI k c + if k = j then db else 0) (fun k hk => ?_) (fun k hk => ?_) (fun h => ?_)
  · unfold updn
    by_cases e : k = j
    · subst e
      rw [if_pos rfl, if_pos rfl, if_pos rfl, if_pos rfl]; exact ⟨hr, hs⟩
    · rw [if_neg e, if_neg e, if_neg e, if_neg e, Int.add_zero, Int.add_zero]; exact hf k hk
  · have h := d_le4 c k hk
    show (dR k c + if k = j then da else 0).natAbs ≤ _ ∧ (dI k c + if k = j then db else 0).natAbs ≤ _
    split <;> omega
  · have h0 := h.2.1 0 (by decide)
    have e1 : dR 0 c + dR 1 c + dR 2 c + dR 3 c = 4 * c 0 ∧ dI 0 c + dI 1 c + dI 2 c + dI 3 c = 0 := by
      simp [dR, dI, tRe, tIm, uRe, uIm]; omega
    simp only [pR, pI, Nat.mul_zero, Nat.zero_mod] at h0
    have t0 : ∀ a b, tRe 0 a b = a ∧ tIm 0 a b = b := fun a b => by simp [tRe, tIm, uRe, uIm]
    simp only [(t0 _ _).1, (t0 _ _).2] at h0
    generalize dR 0 c = a0 at *
    generalize dR 1 c = a1 at *
    generalize dR 2 c = a2 at *
    generalize dR 3 c = a3 at *
    generalize dI 0 c = b0 at *
    generalize dI 1 c = b1 at *
    generalize dI 2 c = b2 at *
    generalize dI 3 c = b3 at *
    clear hr hs h hf hc
    rcases (show j = 0 ∨ j = 1 ∨ j = 2 ∨ j = 3 by omega) with rfl | rfl | rfl | rfl <;> simp at h0 <;> omega
theorem half_bits : FQ 4602678819172646912 1 1 := ⟨by decide, false, 4503599627370496, -53, by decide, .of 0 52 (by decide) (by decide)⟩
theorem bad_half {x y : Nat → Nat} {c : Nat → Int} (hf : CIF x y c) (hc : szc c ≤ 4194300) (j : Nat) (hj : j < 4) {r s : Nat} (hr : FQ r 1 (2 * dR j c + 1)) (hs : FI s (dI j c)) : Cl (updn x j r) (updn y j s) (fun _ => 0) 400 := by
  refine Classes_bad _ _ (fun k => if k = j then false else decide ((dR k c).natAbs ≤ 1125899906842624)) (fun k => decide ((dI k c).natAbs ≤ 1125899906842624)) (fun k hk => ?_) ⟨j, hj, .inl (if_pos rfl)⟩
  have h := d_le4 c k hk
  unfold updn
  by_cases e : k = j
  · subst e
    show Wh (if k = k then r else x k) (if k = k then false else _) ∧ Wh (if k = k then s else y k) _
    rw [if_pos rfl, if_pos rfl, if_pos rfl]
    exact ⟨Wh.half hr (by omega), Wh.fi hs (by omega)⟩
  · show Wh (if k = j then r else x k) (if k = j then false else _) ∧ Wh (if k = j then s else y k) _
    rw [if_neg e, if_neg e, if_neg e]
    exact ⟨Wh.fi (hf k hk).1 (by omega), Wh.fi (hf k hk).2 (by omega)⟩
abbrev defects : Array Value := #[.complex .f64 4607182418800017408 0, .complex .f64 0 4607182418800017408, .complex .f64 13830554455654793216 0, .complex .f64 4602678819172646912 0, .complex .f64 0 4611686018427387904, .complex .f64 13835058055282163712 0]
theorem defect_int {x y : Nat → Nat} {c : Nat → Int} (hf : CIF x y c) (hc : szc c ≤ 4194300) (j : Nat) (hj : j < 4) {u v : Nat} {da db : Int} (hu : FI u da) (hv : FI v db) (hd : db ≠ 0 ∨ da % 4 ≠ 0) (h1 : da.natAbs ≤ 2) (h2 : db.natAbs ≤ 2) :
    ∃ r s, (∀ w, (binOp .add 25 (.complex .f64 (x j) (y j)) (.complex .f64 u v)).run Try.prog w = .ok (.complex .f64 r s) w) ∧ Cl (updn x j r) (updn y j s) (fun _ => 0) 400 := by
  have hl := d_le4 c j hj
  obtain ⟨p, q, hpq, fp, fq⟩ := cadd_fi (hf j hj).1 (hf j hj).2 hu hv (by omega) (by omega)
  exact ⟨p, q, fun w => run_complex_sum w .add (.inl rfl) _ _ _ _ _ _ _ _ hpq, bad_int hf hc j hj fp fq hd h1 h2⟩
theorem defect {x y : Nat → Nat} {c : Nat → Int} (hf : CIF x y c) (hc : szc c ≤ 4194300) (j : Nat) (hj : j < 4) (d : Nat) (hd : d < 6) :
    ∃ u v r s : Nat, defects[d]? = some (.complex .f64 u v) ∧ (∀ w, (binOp .add 25 (.complex .f64 (x j) (y j)) (.complex .f64 u v)).run Try.prog w = .ok (.complex .f64 r s) w) ∧ Cl (updn x j r) (updn y j s) (fun _ => 0) 400 := by
  rcases (show d = 0 ∨ d = 1 ∨ d = 2 ∨ d = 3 ∨ d = 4 ∨ d = 5 by omega) with rfl | rfl | rfl | rfl | rfl | rfl
  · obtain ⟨r, s, h1, h2⟩ := defect_int hf hc j hj fi1 fi0 (.inr (by decide)) (by decide) (by decide)
    exact ⟨_, _, r, s, rfl, h1, h2⟩
  · obtain ⟨r, s, h1, h2⟩ := defect_int hf hc j hj fi0 fi1 (.inl (by decide)) (by decide) (by decide)
    exact ⟨_, _, r, s, rfl, h1, h2⟩
  · obtain ⟨r, s, h1, h2⟩ := defect_int hf hc j hj fim fi0 (.inr (by decide)) (by decide) (by decide)
    exact ⟨_, _, r, s, rfl, h1, h2⟩
  · have hl := d_le4 c j hj
    obtain ⟨r, e1, f1⟩ := FQ.add (hf j hj).1.half half_bits (by decide) (by omega)
    obtain ⟨s, e2, f2⟩ := FQ.add (hf j hj).2 fi0 (by decide) (by omega)
    rw [Int.add_zero] at f2
    refine ⟨_, _, r, s, rfl, fun w => run_complex_sum w .add (.inl rfl) _ _ _ _ _ _ _ _ ?_, bad_half hf hc j hj f1 f2⟩
    show (Ieee.double.add (x j) _).bind (fun re => (Ieee.double.add (y j) 0).bind fun im => some (re, im)) = _
    rw [e1, e2]; rfl
  · obtain ⟨r, s, h1, h2⟩ := defect_int hf hc j hj fi0 fl2 (.inl (by decide)) (by decide) (by decide)
    exact ⟨_, _, r, s, rfl, h1, h2⟩
  · obtain ⟨r, s, h1, h2⟩ := defect_int hf hc j hj flm2 fi0 (.inr (by decide)) (by decide) (by decide)
    exact ⟨_, _, r, s, rfl, h1, h2⟩
theorem zc_get2 (x y : Nat → Nat) (k : Nat) (hk : k < 4) : (#[Value.complex .f64 (x 0) (y 0), .complex .f64 (x 1) (y 1), .complex .f64 (x 2) (y 2), .complex .f64 (x 3) (y 3)] : Array Value)[k]? = some (.complex .f64 (x k) (y k)) := by
  rcases (show k = 0 ∨ k = 1 ∨ k = 2 ∨ k = 3 by omega) with rfl | rfl | rfl | rfl <;> rfl
theorem u8w (n : Nat) (h : n < 256) : IntKind.u8.wrap (n : Int) = (n : Int) := by
  unfold IntKind.wrap; simp [IntKind.bits, IntKind.signed]; omega
theorem tm_nat (a b : Nat) : (a : Int).tmod (b : Int) = ((a % b : Nat) : Int) := by
  rw [Int.tmod_eq_emod_of_nonneg (Int.natCast_nonneg a)]; exact (Int.natCast_emod a b).symm
theorem td_nat (a b : Nat) : (a : Int).tdiv (b : Int) = ((a / b : Nat) : Int) := by
  rw [Int.tdiv_eq_ediv_of_nonneg (Int.natCast_nonneg a)]; exact (Int.natCast_ediv a b).symm
theorem way_facts (t : Nat) (ht : t < 256) : ∃ j d q : Nat, (t : Int).tmod 4 = (j : Int) ∧ IntKind.u8.wrap (j : Int) = (j : Int) ∧ j < 4 ∧ (j : Int) < 4 ∧ (t : Int).tdiv 4 = (q : Int) ∧ IntKind.u8.wrap (q : Int) = (q : Int) ∧ (q : Int).tmod 6 = (d : Int) ∧ IntKind.u8.wrap (d : Int) = (d : Int) ∧ d < 6 ∧ (d : Int) < 6 := by
  have h1 : t % 4 < 4 := Nat.mod_lt _ (by decide)
  have h2 : t / 4 % 6 < 6 := Nat.mod_lt _ (by decide)
  have h3 : t / 4 < 256 := by omega
  exact ⟨t % 4, t / 4 % 6, t / 4, tm_nat t 4, u8w _ (by omega), h1, Int.ofNat_lt.2 h1, td_nat t 4, u8w _ h3, tm_nat (t / 4) 6, u8w _ (by omega), h2, Int.ofNat_lt.2 h2⟩
theorem Join0_any (x y x' y' : Nat → Nat) (c d : Nat → Int) (w : World) (hf : CIF x y c) (hf' : CIF x' y' d) (hc : szc c ≤ 1125899906842624) (hd : szc d ≤ 1125899906842624) :
    Calls Try.prog 16 #[zf x y, .int .i64 0, zf x' y'] w fun e w' => ∃ u v err, e = .returned (.tuple #[zf u v, .int .i64 err]) ∧ RowR (szc (addc c d 0) ≤ 1125899906842624) (addc c d 0) u v err ∧ Below w.heap.size w w' := Join_any x y x' y' c d 0 w (by decide) hf hf' hc hd
theorem max_facts (n : Int) (hn : -9223372036854775808 ≤ n ∧ n ≤ 9223372036854775807) : ∃ M : Int, (if n < 1125899906842625 then 1125899906842625 else n) = M ∧ 1125899906842624 < M.natAbs := by
  refine ⟨_, rfl, ?_⟩
  split <;> omega
theorem min_facts (n : Int) (hn : -9223372036854775808 ≤ n ∧ n ≤ 9223372036854775807) : ∃ M : Int, (if (-1125899906842625 : Int) < n then (-1125899906842625 : Int) else n) = M ∧ 1125899906842624 < M.natAbs := by
  refine ⟨_, rfl, ?_⟩
  split <;> omega
theorem neg_facts (n : Int) : ∃ M : Int, (if (-1 : Int) < n then (-1 : Int) else n) = M ∧ M < 0 := by
  refine ⟨_, rfl, ?_⟩
  split <;> omega
abbrev cm : Nat → Int := c4 16777217 0 0 0
abbrev cw : Nat → Int := c4 1125899906842624 0 0 0
end Go.Proofs.Ythidfmkmklnhhaa
