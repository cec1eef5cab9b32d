/- Plain laws of PhasePeriod: rows that repeat. -/
import Derived.Test.YthidfmkmklnhhaaProg
import Derived.Test.YthidfmkmklnhhaaYs
namespace Go.Proofs.Ythidfmkmklnhhaa
open Go.RowKit
set_option linter.unusedVariables false

/-- The first m elements of the row that repeats n of four integers, each reduced. -/
def rp (c : Nat → Int) (n m : Nat) : List Int := (List.range m).map fun k => (c (k % n)).tmod 1099511627776
theorem rp_len (c : Nat → Int) (n m : Nat) : (rp c n m).length = m := by simp [rp]
theorem rp_succ (c : Nat → Int) (n m : Nat) : rp c n (m + 1) = rp c n m ++ [(c (m % n)).tmod 1099511627776] := by simp [rp, List.range_succ]
theorem rp_get (c : Nat → Int) (n m k : Nat) (h : k < m) : (rp c n m).getD k 0 = (c (k % n)).tmod 1099511627776 := by
  simp [rp, h]
theorem rp_le (c : Nat → Int) (n m : Nat) : ∀ x ∈ rp c n m, x.natAbs ≤ 1099511627776 := fun x hx => by
  simp only [rp, List.mem_map] at hx
  obtain ⟨k, _, rfl⟩ := hx
  have h1 := Int.tmod_lt_of_pos (c (k % n)) (show (0 : Int) < 1099511627776 by decide)
  have h2 := Int.lt_tmod_of_pos (c (k % n)) (show (0 : Int) < 1099511627776 by decide)
  omega
theorem rp_per (c : Nat → Int) (n m p : Nat) (h : ∀ i, p ≤ i → (i - p) % n = i % n) : per (rp c n m) m p := fun i h1 h2 => by
  rw [rp_get _ _ _ _ h2, rp_get _ _ _ _ (by omega), h i h1]
def Pw (n : Nat) : Prop := n = 1 ∨ n = 2 ∨ n = 4
theorem rp_self (c : Nat → Int) (n m : Nat) (hn : Pw n) : per (rp c n m) m n := rp_per c n m n fun i h => by
  rcases hn with rfl | rfl | rfl <;> omega
theorem rp_four (c : Nat → Int) (n m : Nat) (hn : Pw n) : per (rp c n m) m 4 := rp_per c n m 4 fun i h => by
  rcases hn with rfl | rfl | rfl <;> omega
/-- What the law looks at, of the period that is found. -/
def PG (l : List Int) (N n g : Nat) : Prop := Pw g ∧ n % g = 0 ∧ per l N g ∧ (g = 2 → ¬ per l N 1) ∧ (g = 4 → ¬ per l N 2)
theorem per_got {l : List Int} {N n : Nat} {a : Int} (hn : Pw n) (hp : per l N n) (h4 : per l N 4) (h : PerR l N a) : ∃ g : Nat, a = (g : Int) ∧ PG l N n g := by
  rcases h with ⟨ha, h1⟩ | ⟨ha, h1, h2⟩ | ⟨ha, h1, h2, h3⟩ | ⟨ha, h1, h2, h3⟩
  · exact ⟨1, ha, .inl rfl, Nat.mod_one n, h1, fun h => by omega, fun h => by omega⟩
  · refine ⟨2, ha, .inr (.inl rfl), ?_, h2, fun _ => h1, fun h => by omega⟩
    rcases hn with rfl | rfl | rfl
    · exact absurd hp h1
    · rfl
    · rfl
  · refine ⟨4, ha, .inr (.inr rfl), ?_, h3, fun h => by omega, fun _ => h2⟩
    rcases hn with rfl | rfl | rfl
    · exact absurd hp h1
    · exact absurd hp h2
    · rfl
  · exact absurd h4 h3
theorem cs_four (l : List Int) (q r : Nat) (hr : r < 4) : cs l (4 * q + 4) r = cs l (4 * q) r + l.getD (4 * q + r) 0 := by
  have hc : ∀ m, cs l (m + 1) r = cs l m r + if m % 4 = r then l.getD m 0 else 0 := fun m => rfl
  rw [show 4 * q + 4 = 4 * q + 1 + 1 + 1 + 1 by omega, hc, hc, hc, hc]
  rcases (show r = 0 ∨ r = 1 ∨ r = 2 ∨ r = 3 by omega) with rfl | rfl | rfl | rfl
  · rw [if_pos (by omega), if_neg (by omega), if_neg (by omega), if_neg (by omega)]; simp
  · rw [if_neg (by omega), if_pos (by omega), if_neg (by omega), if_neg (by omega)]; simp
  · rw [if_neg (by omega), if_neg (by omega), if_pos (by omega), if_neg (by omega)]; simp
  · rw [if_neg (by omega), if_neg (by omega), if_neg (by omega), if_pos (by omega)]; simp
theorem cs_eq (l : List Int) (N a b : Nat) (ha : a < 4) (hb : b < 4) (h : ∀ q, 4 * q + 4 ≤ N → l.getD (4 * q + a) 0 = l.getD (4 * q + b) 0) : ∀ q, 4 * q ≤ N → cs l (4 * q) a = cs l (4 * q) b := by
  intro q
  induction q with
  | zero => intro _; rfl
  | succ q ih =>
    intro hq
    rw [show 4 * (q + 1) = 4 * q + 4 by omega, cs_four l q a ha, cs_four l q b hb, ih (by omega), h q (by omega)]
theorem sums_two (l : List Int) (q : Nat) (h : per l (4 * q) 2) : (dR 1 (cs l (4 * q)) = 0 ∧ dI 1 (cs l (4 * q)) = 0) ∧ dR 3 (cs l (4 * q)) = 0 ∧ dI 3 (cs l (4 * q)) = 0 := by
  have h1 := cs_eq l (4 * q) 2 0 (by decide) (by decide) (fun i hi => h (4 * i + 2) (by omega) (by omega)) q (Nat.le_refl _)
  have h2 := cs_eq l (4 * q) 3 1 (by decide) (by decide) (fun i hi => h (4 * i + 3) (by omega) (by omega)) q (Nat.le_refl _)
  simp [dR, dI, tRe, tIm, uRe, uIm]
  omega
theorem sums_one (l : List Int) (q : Nat) (h : per l (4 * q) 1) : dR 2 (cs l (4 * q)) = 0 ∧ dI 2 (cs l (4 * q)) = 0 := by
  have h1 := cs_eq l (4 * q) 1 0 (by decide) (by decide) (fun i hi => h (4 * i + 1) (by omega) (by omega)) q (Nat.le_refl _)
  have h2 := cs_eq l (4 * q) 2 1 (by decide) (by decide) (fun i hi => h (4 * i + 2) (by omega) (by omega)) q (Nat.le_refl _)
  have h3 := cs_eq l (4 * q) 3 2 (by decide) (by decide) (fun i hi => h (4 * i + 3) (by omega) (by omega)) q (Nat.le_refl _)
  simp [dR, dI, tRe, tIm, uRe, uIm]
  omega
theorem per_one_two {l : List Int} {N : Nat} (h : per l N 1) : per l N 2 := fun i h1 h2 => by
  rw [h i (by omega) h2, h (i - 1) (by omega) (by omega)]; rfl
/-- One element changed in the second round: no period. -/
theorem per_changed {l : List Int} {N : Nat} {a : Int} (hl : l.length = N) (hN : 8 ≤ N) (h4 : per l N 4) (h : PerR (l.set 5 (l.getD 5 0 + 1)) N a) : a = 0 := by
  have g : ∀ i, i ≠ 5 → (l.set 5 (l.getD 5 0 + 1)).getD i 0 = l.getD i 0 := fun i hi => by
    rw [List.getD_eq_getElem?_getD, List.getElem?_set_ne (by omega)]
    exact (List.getD_eq_getElem?_getD ..).symm
  have g5 : (l.set 5 (l.getD 5 0 + 1)).getD 5 0 = l.getD 5 0 + 1 := by
    rw [List.getD_eq_getElem?_getD, List.getElem?_set_self (by omega)]; rfl
  have h51 := h4 5 (by decide) (by omega)
  rw [show (5 : Nat) - 4 = 1 from rfl] at h51
  have g1 := g 1 (by decide)
  have g2 := g 2 (by decide)
  have g3 := g 3 (by decide)
  have g4 := g 4 (by decide)
  generalize l.set 5 (l.getD 5 0 + 1) = l' at *
  rcases h with ⟨ha, h1⟩ | ⟨ha, _, h2⟩ | ⟨ha, _, _, h3⟩ | ⟨ha, _⟩
  · have e5 := h1 5 (by decide) (by omega)
    have e4 := h1 4 (by decide) (by omega)
    have e3 := h1 3 (by decide) (by omega)
    have e2 := h1 2 (by decide) (by omega)
    simp only [Nat.reduceSub] at e5 e4 e3 e2
    omega
  · have e5 := h2 5 (by decide) (by omega)
    have e3 := h2 3 (by decide) (by omega)
    simp only [Nat.reduceSub] at e5 e3
    omega
  · have e5 := h3 5 (by decide) (by omega)
    simp only [Nat.reduceSub] at e5
    omega
  · exact ha
theorem tmn (a m b : Nat) (h : a % b = m) : (a : Int).tmod (b : Int) = (m : Int) := by
  rw [Int.tmod_eq_emod_of_nonneg (Int.natCast_nonneg a), ← h]
  exact (Int.natCast_emod a b).symm
theorem pw_facts {n : Nat} (h : Pw n) : ¬ n = 0 ∧ ((n : Int) == 0) = false ∧ (n : Int) ≤ 4 := by
  rcases h with rfl | rfl | rfl <;> decide
theorem pw_range {n : Nat} (h : Pw n) : 1 ≤ n ∧ n ≤ 4 := by
  rcases h with rfl | rfl | rfl <;> decide
theorem period_p (p : Nat) : ∃ q n : Nat, (p : Int).tmod 3 = (q : Int) ∧ IntKind.u8.wrap (q : Int) = (q : Int) ∧ (q : Int) < 3 ∧ q < 3 ∧ Pw n ∧ (#[.int .i64 1, .int .i64 2, .int .i64 4] : Array Value)[q]? = some (.int .i64 (n : Int)) := by
  have h := tmn p (p % 3) 3 rfl
  have h3 : p % 3 < 3 := Nat.mod_lt _ (by decide)
  rcases (show p % 3 = 0 ∨ p % 3 = 1 ∨ p % 3 = 2 by omega) with h0 | h0 | h0
  · rw [h0] at h; exact ⟨0, 1, h, by decide, by decide, by decide, .inl rfl, rfl⟩
  · rw [h0] at h; exact ⟨1, 2, h, by decide, by decide, by decide, .inr (.inl rfl), rfl⟩
  · rw [h0] at h; exact ⟨2, 4, h, by decide, by decide, by decide, .inr (.inr rfl), rfl⟩
theorem period_r (rn : Nat) (hr : rn < 256) : ∃ u ct N : Nat, wrap64 (rn : Int) = (rn : Int) ∧ (rn : Int).tmod 19 = (u : Int) ∧ IntKind.i64.wrap (u : Int) = (u : Int) ∧ 2 + (u : Int) = (ct : Int) ∧ wrap64 (ct : Int) = (ct : Int) ∧ IntKind.i64.wrap (ct : Int) = (ct : Int) ∧ 4 * (ct : Int) = (N : Int) ∧ wrap64 (N : Int) = (N : Int) ∧ IntKind.i64.wrap (N : Int) = (N : Int) ∧ (N : Int) ≤ 80 ∧ 8 ≤ N ∧ N ≤ 80 ∧ 4 * ct = N := by
  have h := tmn rn (rn % 19) 19 rfl
  have h3 : rn % 19 < 19 := Nat.mod_lt _ (by decide)
  generalize rn % 19 = u at h h3
  have b1 : wrap64 (rn : Int) = (rn : Int) := IntWalk.wrap64_in _ (by clear h; omega)
  refine ⟨u, 2 + u, 4 * (2 + u), b1, h, ?_⟩
  clear h b1 hr
  exact ⟨IntWalk.i64_in _ (by omega), by omega, IntWalk.wrap64_in _ (by omega), IntWalk.i64_in _ (by omega), by omega, IntWalk.wrap64_in _ (by omega), IntWalk.i64_in _ (by omega), by omega, by omega, by omega, rfl⟩
theorem half_2 {g : Nat} (hg : g = 2) : ∃ h : Nat, (g : Int).tdiv 2 = (h : Int) ∧ IntKind.i64.wrap (h : Int) = (h : Int) ∧ wrap64 (h : Int) = (h : Int) ∧ h = 1 := by
  subst hg; exact ⟨1, by decide, by decide, IntWalk.wrap64_in _ (by decide), rfl⟩
theorem half_4 {g : Nat} (hg : g = 4) : ∃ h : Nat, (g : Int).tdiv 2 = (h : Int) ∧ IntKind.i64.wrap (h : Int) = (h : Int) ∧ wrap64 (h : Int) = (h : Int) ∧ h = 2 := by
  subst hg; exact ⟨2, by decide, by decide, IntWalk.wrap64_in _ (by decide), rfl⟩
theorem ix_facts {i j h : Nat} (hlt : i < j) (hh : h ≤ i) (hj : j ≤ 80) : ∃ q : Nat, i - h = q ∧ (i : Int) - (h : Int) = (q : Int) ∧ IntKind.i64.wrap (q : Int) = (q : Int) ∧ (q : Int) < (j : Int) ∧ q < j ∧ decide (q < j) = true ∧ decide ((q : Int) < (j : Int)) = true := by
  have h1 : i - h < j := by omega
  have h2 : ((i - h : Nat) : Int) < (j : Int) := by omega
  exact ⟨i - h, rfl, by omega, IntWalk.i64_in _ (by omega), h2, h1, decide_eq_true h1, decide_eq_true h2⟩
theorem le_next {g i j : Nat} (h : g ≤ i) (h2 : i < j) : g ≤ i + 1 ∧ i + 1 ≤ j := by omega
end Go.Proofs.Ythidfmkmklnhhaa
