/- Plain laws of PhaseNorms; an array of four integers as a parameter. -/
import Derived.Test.YthidfmkmklnhhaaProg
import Derived.Test.YthidfmkmklnhhaaYs
import Derived.Test.YthidfmkmklnhhaaArg
import Derived.Lib.SmallJoins
import Derived.Laws.IdiomArrays
import Derived.WalkKit
import Derived.ProofKit
import Derived.OpenShut
namespace Go.Proofs.Ythidfmkmklnhhaa
open Go.RowKit Go.ChangeShapes Go.WideShapes Go.ChangeAt
set_option linter.unusedVariables false

theorem t_sq (k : Nat) (hk : k < 4) (a b : Int) : tRe k a b * tRe k a b + tIm k a b * tIm k a b = a * a + b * b := by
  rcases (show k = 0 ∨ k = 1 ∨ k = 2 ∨ k = 3 by omega) with rfl | rfl | rfl | rfl <;> simp [tRe, tIm, uRe, uIm, Int.neg_mul_neg] <;> omega
theorem nrm_shift (c : Nat → Int) (m j : Nat) (hm : m < 4) (hj : j < 4) : nrm (shc c m) j = nrm c j := by
  unfold nrm
  rw [(d_shift c m j hm hj).1, (d_shift c m j hm hj).2]
  exact t_sq _ (Nat.mod_lt _ (by decide)) _ _
theorem two_sq (a b e f : Int) : (a * e - b * f) * (a * e - b * f) + (a * f + b * e) * (a * f + b * e) = (a * a + b * b) * (e * e + f * f) := by
  simp only [Int.sub_mul, Int.mul_sub, Int.add_mul, Int.mul_add]
  have h1 : a * e * (a * e) = a * a * (e * e) := by simp only [Int.mul_assoc, Int.mul_left_comm, Int.mul_comm]
  have h2 : a * e * (b * f) = a * f * (b * e) := by simp only [Int.mul_assoc, Int.mul_left_comm, Int.mul_comm]
  have h3 : b * f * (a * e) = b * e * (a * f) := by simp only [Int.mul_assoc, Int.mul_left_comm, Int.mul_comm]
  have h4 : b * f * (b * f) = b * b * (f * f) := by simp only [Int.mul_assoc, Int.mul_left_comm, Int.mul_comm]
  have h5 : a * f * (a * f) = a * a * (f * f) := by simp only [Int.mul_assoc, Int.mul_left_comm, Int.mul_comm]
  have h6 : b * e * (b * e) = b * b * (e * e) := by simp only [Int.mul_assoc, Int.mul_left_comm, Int.mul_comm]
  rw [h1, h2, h3, h4, h5, h6]
  omega
theorem nrm_mul (c d : Nat → Int) (j : Nat) (hj : j < 4) : nrm (mulc c d) j = nrm c j * nrm d j := by
  unfold nrm
  rw [(d_mul c d j hj).1, (d_mul c d j hj).2]
  exact two_sq _ _ _ _
theorem nrm_sum (c : Nat → Int) : nrm c 0 + nrm c 1 + nrm c 2 + nrm c 3 = 4 * (c 0 * c 0 + c 1 * c 1 + c 2 * c 2 + c 3 * c 3) := by
  simp [nrm, dR, dI, tRe, tIm, uRe, uIm, Int.add_mul, Int.mul_add, Int.neg_mul, Int.mul_neg]
  omega
theorem nrm_nn (c : Nat → Int) (j : Nat) : 0 ≤ nrm c j := by
  have h : ∀ a : Int, 0 ≤ a * a := fun a => by
    rcases Int.lt_or_le a 0 with h | h
    · have := Int.mul_nonneg (show 0 ≤ -a by omega) (show 0 ≤ -a by omega); rwa [Int.neg_mul_neg] at this
    · exact Int.mul_nonneg h h
  unfold nrm
  have h1 := h (dR j c)
  have h2 := h (dI j c)
  omega
theorem szc_mul (c d : Nat → Int) : szc (mulc c d) ≤ szc c * szc d := by
  have h4 : ∀ a b e f : Int, (a + b + e + f).natAbs ≤ a.natAbs + b.natAbs + e.natAbs + f.natAbs := fun a b e f => by omega
  have q := fun r => h4 (c 0 * d ((r + 4 - 0) % 4)) (c 1 * d ((r + 4 - 1) % 4)) (c 2 * d ((r + 4 - 2) % 4)) (c 3 * d ((r + 4 - 3) % 4))
  have q0 := q 0
  have q1 := q 1
  have q2 := q 2
  have q3 := q 3
  simp only [Int.natAbs_mul] at q0 q1 q2 q3
  unfold szc mulc
  simp only [Nat.add_mul, Nat.mul_add]
  simp at q0 q1 q2 q3 ⊢
  omega
/-- The first k of four integers reduced. -/
def mix (c : Nat → Int) (k : Nat) : Nat → Int := fun j => if j < k then (c j).tmod 1024 else c j
theorem mix_set (c : Nat → Int) (k : Nat) (hk : k < 4) : (ic4 (mix c k)).setIfInBounds k (.int .i64 ((c k).tmod 1024)) = ic4 (mix c (k + 1)) := by
  rcases (show k = 0 ∨ k = 1 ∨ k = 2 ∨ k = 3 by omega) with rfl | rfl | rfl | rfl <;> simp [mix, ic4]
theorem mix_get (c : Nat → Int) (k : Nat) (hk : k < 4) : (ic4 (mix c k))[k]? = some (.int .i64 (c k)) := by
  rw [cs_get (mix c k) k hk]; simp [mix]
def red (c : Nat → Int) : Nat → Int := fun j => (c j).tmod 1024
theorem mix_all (c : Nat → Int) : ic4 (mix c 4) = ic4 (red c) := by simp [mix, ic4, red]
theorem red_le (c : Nat → Int) (j : Nat) : (red c j).natAbs ≤ 1023 := by
  have h1 := Int.tmod_lt_of_pos (c j) (show (0 : Int) < 1024 by decide)
  have h2 := Int.lt_tmod_of_pos (c j) (show (0 : Int) < 1024 by decide)
  unfold red; omega
theorem szc_red (c : Nat → Int) : szc (red c) ≤ 4092 := by
  have h0 := red_le c 0
  have h1 := red_le c 1
  have h2 := red_le c 2
  have h3 := red_le c 3
  unfold szc; omega
def sqs (c : Nat → Int) : Nat → Int
  | 0 => 0
  | k + 1 => sqs c k + red c k * red c k
theorem sq_le {a : Int} {M : Nat} (h : a.natAbs ≤ M) : 0 ≤ a * a ∧ a * a ≤ ((M * M : Nat) : Int) := by
  have h1 := mul_le h h
  have h2 : 0 ≤ a * a := by
    rcases Int.lt_or_le a 0 with h | h
    · have := Int.mul_nonneg (show 0 ≤ -a by omega) (show 0 ≤ -a by omega); rwa [Int.neg_mul_neg] at this
    · exact Int.mul_nonneg h h
  omega
theorem sqs_le (c : Nat → Int) : ∀ k, 0 ≤ sqs c k ∧ sqs c k ≤ (k : Int) * 1046529 := by
  intro k
  induction k with
  | zero => exact ⟨Int.le_refl _, Int.le_refl _⟩
  | succ k ih =>
    have h := sq_le (red_le c k)
    show 0 ≤ sqs c k + red c k * red c k ∧ sqs c k + red c k * red c k ≤ _
    omega
theorem sqs4 (c : Nat → Int) : sqs c 4 = red c 0 * red c 0 + red c 1 * red c 1 + red c 2 * red c 2 + red c 3 * red c 3 := by
  show (0 : Int) + red c 0 * red c 0 + red c 1 * red c 1 + red c 2 * red c 2 + red c 3 * red c 3 = _
  omega

/-- Four integers as they came in. -/
abbrev Z4 := Nat → Int
def See4 (w : World) (z : Z4) : Prop := ∀ r < 4, -9223372036854775808 ≤ z r ∧ z r ≤ 9223372036854775807
theorem okWide_arr4 {w : World} {r : Reach} {b0 : Nat} {v : Value} (hv : Value.okWide Try.prog w r b0 40 v) : ∃ cs, v = .agg cs ∧ cs.size = 4 := by
  simp only [Value.okWide, Try.underlying40] at hv
  obtain ⟨cs, h1, h2, _⟩ := hv
  exact ⟨cs, h1, h2.trans (by kernel_rfl)⟩
set_option maxRecDepth 20000 in
theorem open_arr4 {H : Type} {enc : TypeId × Value → H} {w : World} {base : Nat} {held : Bool} {r : Reach} {b0 : Nat} {v : Value} {d : DataW H} {p : List MemPlace}
    (hv : Value.okWide Try.prog w r b0 40 v) (h : DataW.Trod enc Try.prog w base (fun _ => true) held 40 v d p) : ∃ z, v = iv4 z ∧ See4 w z := by
  obtain ⟨cs, rfl, hsz⟩ := okWide_arr4 hv
  obtain ⟨c0, c1, c2, c3, rfl⟩ := Go.Joins.array4 hsz
  obtain ⟨fuel, hf⟩ := h
  obtain ⟨y0, y1, y2, y3, n, _, h0, h1, h2, h3⟩ := trod_array4 Try.underlying40 (by kernel_rfl) (by simpa [Value.cells] using hf)
  obtain ⟨n0, e0, _, w0⟩ := DataW.trod_int Try.underlying3 h0
  obtain ⟨n1, e1, _, w1⟩ := DataW.trod_int Try.underlying3 h1
  obtain ⟨n2, e2, _, w2⟩ := DataW.trod_int Try.underlying3 h2
  obtain ⟨n3, e3, _, w3⟩ := DataW.trod_int Try.underlying3 h3
  simp at e0 e1 e2 e3
  subst e0 e1 e2 e3
  exact ⟨c4 n0 n1 n2 n3, rfl, all4 (wf_i64 w0) (wf_i64 w1) (wf_i64 w2) (wf_i64 w3)⟩
end Go.Proofs.Ythidfmkmklnhhaa
