/- Walks: SatProducts. -/
import Derived.Test.YtoglolhjfbpnpaaProg
import Derived.Test.YtoglolhjfbpnpaaSh
namespace Go.Proofs.Ytoglolhjfbpnpaa
open Go.RowKit
set_option linter.unusedVariables false

theorem split_plain (p1 p2 : Nat) : 
    (p1 % 18446744073709551616 + p2 % 18446744073709551616 < 18446744073709551616 ∧ (p1 + p2) / 18446744073709551616 = p1 / 18446744073709551616 + p2 / 18446744073709551616 ∧ (p1 + p2) % 18446744073709551616 = p1 % 18446744073709551616 + p2 % 18446744073709551616) ∨
    (18446744073709551616 ≤ p1 % 18446744073709551616 + p2 % 18446744073709551616 ∧ (p1 + p2) / 18446744073709551616 = p1 / 18446744073709551616 + 1 + p2 / 18446744073709551616 ∧ (p1 + p2) % 18446744073709551616 + 18446744073709551616 = p1 % 18446744073709551616 + p2 % 18446744073709551616) := by
  omega

theorem SatProducts_head (a b part k8 : Nat) (ha0 : a < 18446744073709551616) (hb0 : b < 18446744073709551616) (hp0 : part < 18446744073709551616) :
    ∃ f g hi lo h l i m : Nat, f ≤ b ∧ f + g = b ∧ ((if b < part then b else part) = f) ∧ a * b / 18446744073709551616 = hi ∧ a * b % 18446744073709551616 = lo ∧ a * f / 18446744073709551616 = h ∧ a * f % 18446744073709551616 = l ∧ a * g / 18446744073709551616 = i ∧ a * g % 18446744073709551616 = m ∧
      hi < 18446744073709551615 ∧ lo < 18446744073709551616 ∧ l < 18446744073709551616 ∧ m < 18446744073709551616 ∧
      ((l + m < 18446744073709551616 ∧ hi = h + i ∧ lo = l + m) ∨ (18446744073709551616 ≤ l + m ∧ hi = h + 1 + i ∧ lo + 18446744073709551616 = l + m)) := by
  obtain ⟨f, hf, hfb⟩ : ∃ f, (if b < part then b else part) = f ∧ f ≤ b := ⟨_, rfl, by split <;> omega⟩
  have e : a * f + a * (b - f) = a * b := by rw [← Nat.mul_add]; congr 1; omega
  have h1 := wide_lt a b ha0 hb0
  have h2 := split_plain (a * f) (a * (b - f))
  rw [e] at h2
  exact ⟨f, b - f, _, _, _, _, _, _, hfb, by omega, hf, rfl, rfl, rfl, rfl, rfl, rfl, h1.1, h1.2, Nat.mod_lt _ (by decide), Nat.mod_lt _ (by decide), h2⟩

set_option maxRecDepth 20000 in
set_option maxHeartbeats 1600000 in
theorem SatProducts_any (a b part k8 : Nat) (w : World) (ha0 : a < 18446744073709551616) (hb0 : b < 18446744073709551616) (hp0 : part < 18446744073709551616) (hk0 : k8 < 256) :
    Calls Try.prog 7 #[.int .u64 (a : Int), .int .u64 (b : Int), .int .u64 (part : Int), .int .u8 (k8 : Int)] w fun e w' => e = .returned (.bool true) ∧ Below w.heap.size w w' := by
  obtain ⟨f, g, hi, lo, h, l, i, m, q1, q2, q3, q4, q5, q6, q7, q8, q9, r1, r2, r3, r4, hcar⟩ := SatProducts_head a b part k8 ha0 hb0 hp0
  obtain ⟨s, hs, hs2⟩ : ∃ s : Nat, (k8 : Int) % 64 = (s : Int) ∧ s ≤ 63 := ⟨k8 % 64, by omega, by omega⟩
  have m1 : (if (b : Int) < (part : Int) then (b : Int) else (part : Int)) = (f : Int) := by split <;> split at q3 <;> omega
  have m1' : (if b < part then (b : Int) else (part : Int)) = (f : Int) := by split <;> split at q3 <;> omega
  have hg : (b : Int) - (f : Int) = (g : Int) := by omega
  have hgw : IntKind.u64.wrap ((b : Int) - (f : Int)) = (g : Int) := by rw [IntWalk.u64_in _ (by omega)]; omega
  have HQ := Lib.hid (And.intro q4 (And.intro q5 (And.intro q6 (And.intro q7 (And.intro q8 (And.intro q9 hg))))))
  have HA := Lib.hid ha0
  have HB := Lib.hid hb0
  have HF : Hid (f < 18446744073709551616) := Lib.hid (by omega)
  have HG : Hid (g < 18446744073709551616) := Lib.hid (by omega)
  have HI : Hid (hi < 18446744073709551616) := Lib.hid (by omega)
  have HL := Lib.hid r2
  obtain ⟨P, hP⟩ : ∃ P : Nat, 2 ^ s = P := ⟨_, rfl⟩
  have hP2 : P < 18446744073709551616 := by
    have : 2 ^ s ≤ 2 ^ 63 := Nat.pow_le_pow_right (by decide) hs2
    omega
  have hPI : (2 : Int) ^ s = (P : Int) := by rw [← hP]; simp
  have hpow : IntKind.u64.wrap ((2 : Int) ^ s) = (P : Int) := by rw [hPI]; exact IntWalk.u64_in _ (by omega)
  obtain ⟨pq, hpq⟩ : ∃ x, a * P / 18446744073709551616 = x := ⟨_, rfl⟩
  obtain ⟨qq, hqq⟩ : ∃ x, a * P % 18446744073709551616 = x := ⟨_, rfl⟩
  have hshl : IntKind.u64.wrap ((a : Int) * (2 : Int) ^ s) = (qq : Int) := by
    rw [hPI, ← hqq, ← Int.natCast_mul]
    simp [IntKind.wrap, IntKind.signed, IntKind.bits]
  have HPQ := Lib.hid (And.intro hpq (And.intro hqq hP2))
  have hws : IntKind.u64.wrap ((l : Int) + (m : Int)) = (lo : Int) := by
    rcases hcar with ⟨c1, c2, c3⟩ | ⟨c1, c2, c3⟩
    · rw [IntWalk.u64_in _ (by omega)]; omega
    · simp [IntKind.wrap, IntKind.signed, IntKind.bits]; omega
  have hcc : (decide ((lo : Int) < (l : Int)) = false ∧ decide (lo < l) = false ∧ IntKind.u64.wrap ((h : Int) + (i : Int)) = (hi : Int)) ∨ (∃ h2 : Nat, decide ((lo : Int) < (l : Int)) = true ∧ decide (lo < l) = true ∧ IntKind.u64.wrap ((h : Int) + 1) = (h2 : Int) ∧ IntKind.u64.wrap ((h2 : Int) + (i : Int)) = (hi : Int)) := by
    rcases hcar with ⟨c1, c2, c3⟩ | ⟨c1, c2, c3⟩
    · exact .inl ⟨by simp; omega, by simp; omega, by rw [IntWalk.u64_in _ (by omega)]; omega⟩
    · exact .inr ⟨h + 1, by simp; omega, by simp; omega, by rw [IntWalk.u64_in _ (by omega)]; omega, by rw [IntWalk.u64_in _ (by omega)]; omega⟩
  have hsc : ((s : Int) == 0) = true ∧ decide ((0 : Int) < (s : Int)) = false ∧ decide (0 < s) = false ∧ ((pq : Int) == 0) = true ∨ ((s : Int) == 0) = false ∧ decide ((0 : Int) < (s : Int)) = true ∧ decide (0 < s) = true ∧ (a : Int) / 2 ^ (64 - s) = (pq : Int) := by
    rcases Nat.eq_zero_or_pos s with h0 | h0
    · subst h0
      left
      have : pq = 0 := by rw [← hpq, ← hP]; simp; exact ha0
      subst this
      exact ⟨rfl, rfl, rfl, rfl⟩
    · right
      refine ⟨by simp; omega, by simp; omega, by simp; omega, ?_⟩
      have e : 2 ^ (64 - s) * 2 ^ s = 18446744073709551616 := by rw [← Nat.pow_add, Nat.sub_add_cancel (by omega)]
      rw [← hpq, ← hP, ← e, Nat.mul_div_mul_right _ _ (Nat.two_pow_pos s)]
      simp
  have hbc : (((b : Int) == 0) = true ∧ IntKind.u64.wrap ((hi : Int) + (lo : Int)) = 0) ∨ (((b : Int) == 0) = false ∧ Hid (over hi lo b = (a, 0, 0))) := by
    rcases Nat.eq_zero_or_pos b with h0 | h0
    · left
      have z1 : hi = 0 := by rw [← q4, h0]; simp
      have z2 : lo = 0 := by rw [← q5, h0]; simp
      exact ⟨by rw [h0]; rfl, by rw [z1, z2]; rfl⟩
    · right
      refine ⟨by simp; omega, Lib.hid ?_⟩
      have e : hi * 18446744073709551616 + lo = a * b := by omega
      have e2 : ¬ b ≤ hi := by
        have h5 : a * b ≤ 18446744073709551615 * b := Nat.mul_le_mul_right _ (by omega)
        omega
      unfold over
      rw [if_neg (by omega), if_neg e2, e, Nat.mul_div_cancel _ h0, Nat.mul_mod_left]
  clear q1 q2 q3 q4 q5 q6 q7 q8 q9 r1 r2 r3 r4 ha0 hb0 hp0 hk0 hcar hg hpq hqq hP2 hP hPI
  rcases hcc with ⟨d3, d3', hwh⟩ | ⟨h2, d3, d3', hwh1, hwh⟩
  all_goals rcases hsc with ⟨s1, s2, s3, s4⟩ | ⟨s1, s2, s3, s4⟩
  all_goals rcases hbc with ⟨e1, e2⟩ | ⟨e1, HO⟩
  all_goals go_enter Try.func7, Try.ntmps7
  all_goals go_wp2_with (first
    | (go_at_call 13; refine (awake_any _).mono ?_; rintro e w1 ⟨rfl, hb1⟩; have bC := hb1)
    | (go_at_call_of 15 g; refine (Wide_lit (HI := (i : Int)) (LO := (m : Int)) a g i m (by rfl) (by rfl) HA.out HG.out HQ.out.2.2.2.2.1 HQ.out.2.2.2.2.2.1 rfl rfl _).mono ?_; rintro e w2 ⟨rfl, hb2⟩; have bC := below_step bC hb2)
    | (go_at_call_of 15 f; refine (Wide_lit (HI := (h : Int)) (LO := (l : Int)) a f h l (by rfl) (by rfl) HA.out HF.out HQ.out.2.2.1 HQ.out.2.2.2.1 rfl rfl _).mono ?_; rintro e w2 ⟨rfl, hb2⟩; have bC := below_step bC hb2)
    | (go_at_call_of 15 b; refine (Wide_lit (HI := (hi : Int)) (LO := (lo : Int)) a b hi lo (by rfl) (by rfl) HA.out HB.out HQ.out.1 HQ.out.2.1 rfl rfl _).mono ?_; rintro e w2 ⟨rfl, hb2⟩; have bC := below_step bC hb2)
    | (go_at_call_of 15 P; refine (Wide_lit (HI := (pq : Int)) (LO := (qq : Int)) a P pq qq (by rfl) (by rfl) HA.out HPQ.out.2.2 HPQ.out.1 HPQ.out.2.1 rfl rfl _).mono ?_; rintro e w2 ⟨rfl, hb2⟩; have bC := below_step bC hb2)
    | (go_at_call 17; refine (Over_lit (Q := (a : Int)) (R := 0) (E := 0) hi lo b a 0 0 (by rfl) (by rfl) (by rfl) HI.out HL.out HB.out HO.out rfl rfl rfl _).mono ?_; rintro e w4 ⟨rfl, rfl⟩))
  all_goals go_ret
  all_goals exact ⟨rfl, bC⟩
end Go.Proofs.Ytoglolhjfbpnpaa
