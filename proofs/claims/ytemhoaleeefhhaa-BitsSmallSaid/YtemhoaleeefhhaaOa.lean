/- Runs of a set and of its complement: plain laws. -/
import Derived.Test.YtemhoaleeefhhaaProg
import Derived.Test.YtemhoaleeefhhaaNc
import Derived.Test.YtemhoaleeefhhaaMd
namespace Go.Proofs.Ytemhoaleeefhhaa
open Go.RowKit
set_option linter.unusedVariables false

theorem addRun_app {A R : List (Nat × Nat)} (h : R ≠ []) (i : Nat) : addRun (A ++ R) i = A ++ addRun R i := by
  rcases snoc_cases R with rfl | ⟨R, ⟨a, b⟩, rfl⟩
  · exact absurd rfl h
  · by_cases hb : b = i
    · subst hb
      rw [← List.append_assoc, addRun_on, addRun_on, List.append_assoc]
    · rw [← List.append_assoc, addRun_new (by intro r hr; simp at hr; subst hr; exact hb), addRun_new (by intro r hr; simp at hr; subst hr; exact hb)]
      simp
theorem addRun_head {R : List (Nat × Nat)} {r : Nat × Nat} (h : R.head? = some r) (i : Nat) : ∃ s, (addRun R i).head? = some s ∧ s.1 = r.1 := by
  rcases snoc_cases R with rfl | ⟨R, ⟨a, b⟩, rfl⟩
  · cases h
  · by_cases hb : b = i
    · subst hb
      rw [addRun_on]
      cases R with
      | nil => simp at h; subst h; exact ⟨_, rfl, rfl⟩
      | cons q R => simp at h; subst h; exact ⟨_, rfl, rfl⟩
    · rw [addRun_new (by intro r hr; simp at hr; subst hr; exact hb)]
      cases R with
      | nil => simp at h; subst h; exact ⟨_, rfl, rfl⟩
      | cons q R => simp at h; subst h; exact ⟨_, rfl, rfl⟩
/-- What follows where a run ends. -/
theorem rn_rest {l : List Int} {e N : Nat} (he : e ≤ N) (hb : bt l e = false) : ∃ R, rn l N = rn l e ++ R ∧ ∀ r, R.head? = some r → e < r.1 := by
  obtain ⟨d, rfl⟩ := Nat.exists_eq_add_of_le he
  clear he
  induction d with
  | zero => exact ⟨[], by simp, by simp⟩
  | succ d ih =>
    obtain ⟨R, h1, h2⟩ := ih
    cases hd : bt l (e + d) with
    | false => exact ⟨R, by rw [show e + (d + 1) = e + d + 1 by omega, rn_none hd]; exact h1, h2⟩
    | true =>
      have hd0 : d ≠ 0 := fun h => by rw [h, Nat.add_zero, hb] at hd; cases hd
      rw [show e + (d + 1) = e + d + 1 by omega, rn_some hd, h1]
      cases hR : R with
      | nil =>
        refine ⟨[(e + d, e + d + 1)], ?_, fun r hr => by simp at hr; subst hr; show e < e + d; omega⟩
        rw [List.append_nil, addRun_new (fun r hr => by have := rn_last l e r hr; omega)]
      | cons q Q =>
        rw [← hR]
        have hne : R ≠ [] := by rw [hR]; simp
        refine ⟨addRun R (e + d), addRun_app hne _, fun r hr => ?_⟩
        obtain ⟨s, hs, hs1⟩ := addRun_head (R := R) (r := q) (by rw [hR]; rfl) (e + d)
        rw [hs] at hr
        cases hr
        rw [hs1]
        exact h2 q (by rw [hR]; rfl)
/-- Where the run of a member ends. -/
theorem run_end (l : List Int) {f N : Nat} (hf : f < N) (hb : bt l f = true) : ∃ e, f < e ∧ e ≤ N ∧ (∀ i, f ≤ i → i < e → bt l i = true) ∧ (e = N ∨ bt l e = false) := by
  have : ∀ d, f + d < N → ∃ e, f < e ∧ e ≤ f + d + 1 ∧ (∀ i, f ≤ i → i < e → bt l i = true) ∧ (e = f + d + 1 ∨ bt l e = false) := by
    intro d
    induction d with
    | zero => exact fun _ => ⟨f + 1, by omega, by omega, fun i h1 h2 => by rw [show i = f by omega]; exact hb, .inl rfl⟩
    | succ d ih =>
      intro hd
      obtain ⟨e, h1, h2, h3, h4⟩ := ih (by omega)
      rcases h4 with h4 | h4
      · cases hx : bt l e with
        | true => exact ⟨e + 1, by omega, by omega, fun i a b => by
            by_cases h : i = e
            · rw [h]; exact hx
            · exact h3 i a (by omega), .inl (by omega)⟩
        | false => exact ⟨e, h1, by omega, h3, .inr hx⟩
      · exact ⟨e, h1, by omega, h3, .inr h4⟩
  obtain ⟨e, h1, h2, h3, h4⟩ := this (N - 1 - f) (by omega)
  exact ⟨e, h1, by omega, h3, by
    rcases h4 with h4 | h4
    · exact .inl (by omega)
    · exact .inr h4⟩

/-- The runs that are left from a place on: of the set, and of its complement. -/
structure Lft (zs nt : List Int) (N at_ : Nat) (a b : List (Nat × Nat)) : Prop where
  ha : rn zs N = rn zs at_ ++ a
  hb : rn nt N = rn nt at_ ++ b
  le : at_ ≤ N
  ca : at_ < N → bt zs at_ = true → ∀ r, (rn zs at_).getLast? = some r → r.2 ≠ at_
  cb : at_ < N → bt nt at_ = true → ∀ r, (rn nt at_).getLast? = some r → r.2 ≠ at_
  nx : ∀ i, i < N → bt nt i = !bt zs i
theorem Lft.start {zs nt : List Int} {N : Nat} (h : ∀ i, i < N → bt nt i = !bt zs i) : Lft zs nt N 0 (rn zs N) (rn nt N) :=
  ⟨by rw [rn_zero]; rfl, by rw [rn_zero]; rfl, Nat.zero_le _, fun _ _ r hr => (by rw [rn_zero] at hr; cases hr), fun _ _ r hr => (by rw [rn_zero] at hr; cases hr), h⟩
theorem Lft.end_ {zs nt : List Int} {N at_ : Nat} {a b : List (Nat × Nat)} (h : Lft zs nt N at_ a b) (hN : at_ = N) : a = [] ∧ b = [] := by
  subst hN
  exact ⟨List.self_eq_append_right.1 h.ha, List.self_eq_append_right.1 h.hb⟩
theorem Lft.swap {zs nt : List Int} {N at_ : Nat} {a b : List (Nat × Nat)} (h : Lft zs nt N at_ a b) : Lft nt zs N at_ b a :=
  ⟨h.hb, h.ha, h.le, h.cb, h.ca, fun i hi => by rw [h.nx i hi]; simp⟩
/-- A round: the run at the place, and what is left behind it. -/
theorem Lft.go {zs nt : List Int} {N at_ : Nat} {a b : List (Nat × Nat)} (h : Lft zs nt N at_ a b) (hN : at_ < N) (hm : bt zs at_ = true) :
    ∃ e R, a = (at_, e) :: R ∧ at_ < e ∧ e ≤ N ∧ (∀ i, at_ ≤ i → i < e → bt zs i = true ∧ bt nt i = false) ∧ Lft zs nt N e R b ∧ (∀ r, R.head? = some r → r.1 ≠ e) ∧ (∀ r, b.head? = some r → r.1 ≠ at_) := by
  obtain ⟨e, h1, h2, h3, h4⟩ := run_end zs hN hm
  have h5 : ∀ i, at_ ≤ i → i < e → bt nt i = false := fun i a b => by rw [h.nx i (by omega), h3 i a b]; rfl
  have hrun := rn_run (h.ca hN hm) h1 h3
  have hskip : rn nt e = rn nt at_ := rn_skip (by omega) h5
  have hrest : ∃ R, rn zs N = rn zs e ++ R ∧ ∀ r, R.head? = some r → e < r.1 := by
    rcases h4 with h4 | h4
    · subst h4; exact ⟨[], by simp, by simp⟩
    · exact rn_rest h2 h4
  obtain ⟨R, hR, hRh⟩ := hrest
  have hrb : ∀ r, b.head? = some r → at_ < r.1 := by
    obtain ⟨Q, hQ, hQh⟩ := rn_rest (l := nt) (e := at_) (N := N) (by omega) (h5 at_ (Nat.le_refl _) h1)
    have : b = Q := List.append_cancel_left (h.hb.symm.trans hQ)
    rw [this]; exact hQh
  refine ⟨e, R, ?_, h1, h2, fun i x y => ⟨h3 i x y, h5 i x y⟩, ⟨hR, by rw [hskip]; exact h.hb, h2, fun hN2 hm2 => ?_, fun hN2 hm2 r hr => ?_, h.nx⟩, fun r hr => by have := hRh r hr; omega, fun r hr => by have := hrb r hr; omega⟩
  · have h6 := h.ha
    rw [hR, hrun, List.append_assoc] at h6
    exact (List.append_cancel_left h6).symm
  · rcases h4 with h4 | h4
    · omega
    · rw [hm2] at h4; cases h4
  · intro h9
    have := rn_last_bt nt e r hr h9
    rw [h5 (e - 1) (by omega) (by omega)] at this
    cases this.2
theorem cnt_not {zs nt : List Int} {N : Nat} (h : ∀ i, i < N → bt nt i = !bt zs i) : cnt zs N + cnt nt N = N := by
  have : ∀ m, m ≤ N → cnt zs m + cnt nt m = m := by
    intro m
    induction m with
    | zero => intro _; rfl
    | succ m ih =>
      intro hm
      have := ih (by omega)
      rw [cnt_succ, cnt_succ, h m (by omega)]
      cases bt zs m <;> simp <;> omega
  exact this N (Nat.le_refl _)
theorem notW_right {N : Nat} {l : List Int} (hw : W64 l) (hr : RightW (N : Int) l) : RightW (N : Int) (notW N l) :=
  RightW.of_bits (notW_w N hw) (by omega) hr.2.1 (by rw [notW_len hr.2.2.1]; exact hr.2.2.1) fun i hi _ => by
    rw [notW_bt hr.2.2.1]
    have : decide (i < N) = false := by simp; omega
    rw [this]; rfl
theorem notW_nx {N : Nat} {l : List Int} (hr : RightW (N : Int) l) : ∀ i, i < N → bt (notW N l) i = !bt l i := fun i hi => by
  rw [notW_bt hr.2.2.1, decide_eq_true hi, Bool.true_and]
end Go.Proofs.Ytemhoaleeefhhaa
