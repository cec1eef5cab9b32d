/- Walks: Over, Scale, Mul. -/
import Derived.Test.YtoglolhjfbpnpaaProg
import Derived.Test.YtoglolhjfbpnpaaSc
namespace Go.Proofs.Ytoglolhjfbpnpaa
open Go.RowKit
set_option linter.unusedVariables false

theorem or_bit (y b : Nat) (hy : 2 * y < 18446744073709551616) (hb : b ≤ 1) : bits .or .u64 ((2 * y : Nat) : Int) (b : Int) = ((2 * y + b : Nat) : Int) := by
  have h1 := u64_or_nat (2 * y) b hy (by omega)
  have h2 : 2 * y ||| b = 2 * y + b := (Nat.two_pow_add_eq_or_of_lt (i := 1) (b := b) (by omega) y).symm
  rw [h2] at h1
  exact h1
theorem and_bit (x : Nat) (hx : x < 18446744073709551616) : bits .and .u64 (x : Int) 1 = ((x % 2 : Nat) : Int) := by
  have h1 := u64_and_nat x 1 hx (by omega)
  have h2 : x &&& 1 = x % 2 := Nat.and_two_pow_sub_one_eq_mod x 1
  rw [h2] at h1
  exact h1
theorem div_pow_step (low j : Nat) : low / 2 ^ j = 2 * (low / 2 ^ (j + 1)) + low / 2 ^ j % 2 := by
  rw [Nat.pow_succ, ← Nat.div_div_eq_div_mul]; omega
theorem pow_half (j : Nat) (h : j + 1 ≤ 64) : 2 ^ (64 - j) = 2 * 2 ^ (64 - (j + 1)) := by
  rw [show 64 - j = (64 - (j + 1)) + 1 by omega, Nat.pow_succ, Nat.mul_comm]
theorem over_step (q d r high P low L b t R : Nat) (hE : q * d + r = high * P + L) (hL : low = 2 * L + b) (hR : R + t * d = 2 * r + b) : (2 * q + t) * d + R = high * (2 * P) + low := by
  have e1 : (2 * q + t) * d = 2 * (q * d) + t * d := by rw [Nat.add_mul, Nat.mul_assoc]
  have e2 : high * (2 * P) = 2 * (high * P) := by rw [Nat.mul_left_comm]
  omega

theorem jstep (j : Nat) : (j = 0 ∧ Value.int .i64 ((j : Int) - 1) = .int .i64 (-1)) ∨ ∃ j' : Nat, j = j' + 1 ∧ Value.int .i64 ((j : Int) - 1) = .int .i64 (j' : Int) := by
  cases j with
  | zero => exact .inl ⟨rfl, rfl⟩
  | succ j => exact .inr ⟨j, rfl, by rw [show ((j + 1 : Nat) : Int) - 1 = (j : Int) by omega]⟩

set_option maxRecDepth 20000 in
set_option maxHeartbeats 800000 in
theorem Over_ok (high low d : Nat) (w : World) (hh : high < d) (hl : low < 18446744073709551616) (hd : d < 18446744073709551616) :
    Calls Try.prog 17 #[.int .u64 (high : Int), .int .u64 (low : Int), .int .u64 (d : Int)] w fun e w' => e = .returned (.tuple #[.int .u64 (((high * 18446744073709551616 + low) / d : Nat) : Int), .int .u64 (((high * 18446744073709551616 + low) % d : Nat) : Int), .int .i64 0]) ∧ w = w' := by
  have h0 : ((d : Int) == 0) = false := by simp; omega
  have h1 : decide ((d : Int) ≤ (high : Int)) = false := by simp; omega
  have h1' : decide (d ≤ high) = false := by simp; omega
  go_enter Try.func17, Try.ntmps17
  go_wp2
  go_loopw [9, 10, 11] (fun qv rv i wr => ∃ (q r m : Nat), qv = .int .u64 (q : Int) ∧ rv = .int .u64 (r : Int) ∧ m ≤ 64 ∧ (m = 0 ∧ i = .int .i64 (-1) ∨ ∃ j : Nat, m = j + 1 ∧ i = .int .i64 (j : Int)) ∧ r < d ∧ Hid (q < 2 ^ (64 - m)) ∧ q < 18446744073709551616 ∧ Hid (q * d + r = high * 2 ^ (64 - m) + low / 2 ^ m) ∧ w = wr) (fun _ _ i _ => ((intOf i) + 1).toNat)
  case atStart =>
    refine ⟨0, high, 64, rfl, rfl, Nat.le_refl _, .inr ⟨63, rfl, rfl⟩, hh, Lib.hid (by decide), by decide, Lib.hid ?_, rfl⟩
    rw [Nat.sub_self, Nat.pow_zero, Nat.mul_one, Nat.zero_mul, Nat.zero_add, Nat.div_eq_of_lt (by simpa using hl), Nat.add_zero]
  case round =>
    obtain ⟨q, r, m, rfl, rfl, hm, hi, hr, HQ, hq, HE, rfl⟩ := hrel
    rcases hi with ⟨rfl, rfl⟩ | ⟨j, rfl, rfl⟩
    · have he : d * q + r = high * 18446744073709551616 + low := by have := HE.out; rw [Nat.pow_zero, Nat.div_one] at this; rw [Nat.mul_comm d q]; exact this
      have hfin := (Nat.div_mod_unique (show 0 < d by omega)).2 ⟨show r + d * q = high * 18446744073709551616 + low by omega, hr⟩
      have HF := Lib.hid hfin
      clear he hfin HE HQ
      go_wp2
      go_ret3
      rw [HF.out.1, HF.out.2]
      exact ⟨rfl, rfl⟩
    · obtain ⟨b, hb⟩ : ∃ b, low / 2 ^ j % 2 = b := ⟨_, rfl⟩
      have hb1 : b ≤ 1 := by omega
      have hlt : low / 2 ^ j < 18446744073709551616 := Nat.lt_of_le_of_lt (Nat.div_le_self _ _) hl
      have hbit : bits .and .u64 ((low : Int) / 2 ^ j) 1 = (b : Int) := by
        have := and_bit (low / 2 ^ j) hlt
        rw [hb] at this
        rw [← this]
        simp
      have hq2 : 2 * q < 18446744073709551616 := by
        have h1 := HQ.out
        have h2 := pow_half j hm
        have h3 : 2 ^ (64 - j) ≤ 2 ^ 64 := Nat.pow_le_pow_right (by decide) (by omega)
        have h4 : (2 : Nat) ^ 64 = 18446744073709551616 := by decide
        omega
      have hwq : IntKind.u64.wrap ((q : Int) * 2) = ((2 * q : Nat) : Int) := by rw [IntWalk.u64_in _ (by omega)]; omega
      obtain ⟨q2, e2⟩ : ∃ q2, 2 * q = q2 := ⟨_, rfl⟩
      have hoq := or_bit q 1 hq2 (Nat.le_refl _)
      rw [e2] at hwq hoq hq2
      have hoq' : bits .or .u64 (q2 : Int) 1 = (q2 : Int) + 1 := by simpa using hoq
      have HST := Lib.hid (fun t R (hR : R + t * d = 2 * r + b) => over_step q d r high (2 ^ (64 - (j + 1))) (low / 2 ^ j) (low / 2 ^ (j + 1)) b t R HE.out (by have := div_pow_step low j; omega) hR)
      have HP := Lib.hid (pow_half j hm)
      have hq4 : q2 + 1 < 2 ^ (64 - j) := by have := HQ.out; have := pow_half j hm; omega
      have hq3 : q2 + 1 < 18446744073709551616 := by
        have h3 : 2 ^ (64 - j) ≤ 2 ^ 64 := Nat.pow_le_pow_right (by decide) (by omega)
        have h4 : (2 : Nat) ^ 64 = 18446744073709551616 := by decide
        omega
      have HQ2 := Lib.hid hq4
      have HE2 := Lib.hid e2
      clear hoq hlt hb e2 HE hq4
      by_cases htop : 9223372036854775808 ≤ r
      · have ht : (r : Int) / 9223372036854775808 = 1 := by omega
        have hwr : IntKind.u64.wrap ((r : Int) * 2) = ((2 * (r - 9223372036854775808) : Nat) : Int) := by simp [IntKind.wrap, IntKind.signed, IntKind.bits]; omega
        have hor := or_bit (r - 9223372036854775808) b (by omega) hb1
        obtain ⟨r2, er2⟩ : ∃ r2, 2 * (r - 9223372036854775808) = r2 := ⟨_, rfl⟩
        rw [er2] at hwr hor
        obtain ⟨R, eR⟩ : ∃ R, r2 + b = R := ⟨_, rfl⟩
        rw [eR] at hor
        have hws : IntKind.u64.wrap ((R : Int) - (d : Int)) = ((2 * r + b - d : Nat) : Int) := by simp [IntKind.wrap, IntKind.signed, IntKind.bits]; omega
        obtain ⟨S, eS⟩ : ∃ S, 2 * r + b - d = S := ⟨_, rfl⟩
        rw [eS] at hws
        have hS : S + 1 * d = 2 * r + b := by omega
        have hSd : S < d := by omega
        have HS := Lib.hid hS
        clear hS er2 eR eS
        go_wp2
        go_roundw
        case rel => exact ⟨q2 + 1, S, j, by go_num, rfl, by omega, jstep j, hSd, HQ2, hq3, Lib.hid (by have := HST.out 1 S HS.out; rw [HE2.out, ← HP.out] at this; exact this), trivial⟩
        case measure => simp [intOf]
      · have ht : ¬ (r : Int) / 9223372036854775808 = 1 := by omega
        have ht' : ((r : Int) / 9223372036854775808 == 1) = false := by simp; omega
        have hor := or_bit r b (by omega) hb1
        obtain ⟨R, eR⟩ : ∃ R, 2 * r + b = R := ⟨_, rfl⟩
        rw [eR] at hor HST
        have hor' : bits .or .u64 ((r : Int) * 2) (b : Int) = (R : Int) := by rw [← hor]; congr 1; omega
        clear hor
        by_cases hge : d ≤ R
        · have hge' : decide ((d : Int) ≤ (R : Int)) = true := by simp; omega
          obtain ⟨S, eS⟩ : ∃ S, R - d = S := ⟨_, rfl⟩
          have hws : (R : Int) - (d : Int) = (S : Int) := by omega
          have hS : S + 1 * d = R := by omega
          have hSd : S < d := by omega
          have HS := Lib.hid hS
          clear hS eR eS
          go_wp2
          go_roundw
          case rel => exact ⟨q2 + 1, S, j, by go_num, by rw [← hws], by omega, jstep j, hSd, HQ2, hq3, Lib.hid (by have := HST.out 1 S HS.out; rw [HE2.out, ← HP.out] at this; exact this), trivial⟩
          case measure => simp [intOf]
        · have hge' : decide ((d : Int) ≤ (R : Int)) = false := by simp; omega
          clear eR
          go_wp2
          go_roundw
          case rel => exact ⟨q2, R, j, rfl, rfl, by omega, jstep j, by omega, Lib.hid (Nat.lt_of_succ_lt HQ2.out), by omega, Lib.hid (by have := HST.out 0 R (by omega); rw [HE2.out, ← HP.out, Nat.add_zero] at this; exact this), trivial⟩
          case measure => simp [intOf]

/-- What Over returns: quotient, what is left, error. -/
def over (high low d : Nat) : Nat × Nat × Nat := if d = 0 then (0, 0, 2) else if d ≤ high then (0, 0, 150) else ((high * 18446744073709551616 + low) / d, (high * 18446744073709551616 + low) % d, 0)

set_option maxRecDepth 20000 in
theorem Over_any (high low d : Nat) (w : World) (hh : high < 18446744073709551616) (hl : low < 18446744073709551616) (hd : d < 18446744073709551616) :
    Calls Try.prog 17 #[.int .u64 (high : Int), .int .u64 (low : Int), .int .u64 (d : Int)] w fun e w' => e = .returned (.tuple #[.int .u64 ((over high low d).1 : Int), .int .u64 ((over high low d).2.1 : Int), .int .i64 ((over high low d).2.2 : Int)]) ∧ w = w' := by
  by_cases h0 : d = 0
  · subst h0
    have e : over high low 0 = (0, 0, 2) := rfl
    rw [e]
    go_enter Try.func17, Try.ntmps17
    go_wp2
    go_ret3
    exact ⟨rfl, rfl⟩
  · by_cases h1 : d ≤ high
    · have e : over high low d = (0, 0, 150) := by unfold over; rw [if_neg h0, if_pos h1]
      rw [e]
      have h2 : ((d : Int) == 0) = false := by simp; omega
      go_enter Try.func17, Try.ntmps17
      go_wp2
      go_ret3
      exact ⟨rfl, rfl⟩
    · have e : over high low d = ((high * 18446744073709551616 + low) / d, (high * 18446744073709551616 + low) % d, 0) := by unfold over; rw [if_neg h0, if_neg h1]
      rw [e]
      exact Over_ok high low d w (by omega) hl hd

theorem over_small (high low d : Nat) (hl : low < 18446744073709551616) (hd : d < 18446744073709551616) : (over high low d).1 < 18446744073709551616 ∧ (over high low d).2.1 < 18446744073709551616 := by
  unfold over
  split
  · exact ⟨by decide, by decide⟩
  · split
    · exact ⟨by decide, by decide⟩
    · rename_i h0 h1
      refine ⟨(Nat.div_lt_iff_lt_mul (by omega)).2 ?_, Nat.lt_trans (Nat.mod_lt _ (by omega)) hd⟩
      have : (high + 1) * 18446744073709551616 ≤ d * 18446744073709551616 := Nat.mul_le_mul_right _ (by omega)
      rw [Nat.mul_comm 18446744073709551616 d]
      omega

/-- What Mul returns, and what Scale does. -/
def sMul (a b : Nat) : Nat := if a * b < 18446744073709551616 then a * b else 18446744073709551615
def scale (a b d : Nat) : Nat × Nat × Nat := if d = 0 then (0, 0, 2) else if a * b / d < 18446744073709551616 then (a * b / d, a * b % d, 0) else (18446744073709551615, 0, 0)

set_option maxRecDepth 20000 in
theorem Mul_any (a b : Nat) (w : World) (ha : a < 18446744073709551616) (hb : b < 18446744073709551616) :
    Calls Try.prog 23 #[.int .u64 (a : Int), .int .u64 (b : Int)] w fun e w' => e = .returned (.int .u64 (sMul a b : Int)) ∧ Below w.heap.size w w' := by
  obtain ⟨p, hp⟩ : ∃ p, a * b = p := ⟨_, rfl⟩
  by_cases h : p < 18446744073709551616
  · have e : sMul a b = p := by unfold sMul; rw [hp, if_pos h]
    have h1 : p / 18446744073709551616 = 0 := by omega
    have h2 : p % 18446744073709551616 = p := by omega
    rw [e]
    have H := Lib.hid (And.intro hp (And.intro h1 h2))
    clear h1 h2 hp e
    go_enter Try.func23, Try.ntmps23
    go_wp2_with (go_at_call 15; refine (Wide_any a b _ ha hb).mono ?_; rw [H.out.1, H.out.2.1, H.out.2.2]; rintro e w1 ⟨rfl, hb1⟩)
    go_ret
    exact ⟨rfl, hb1⟩
  · have e : sMul a b = 18446744073709551615 := by unfold sMul; rw [hp, if_neg h]
    obtain ⟨q, hq⟩ : ∃ q, p / 18446744073709551616 = q := ⟨_, rfl⟩
    have hq1 : 0 < q := by omega
    rw [e]
    have H := Lib.hid (And.intro hp hq)
    have hd : decide (0 < (q : Int)) = true := by simp; omega
    clear hp e h hq
    go_enter Try.func23, Try.ntmps23
    go_wp2_with (go_at_call 15; refine (Wide_any a b _ ha hb).mono ?_; rw [H.out.1, H.out.2]; rintro e w1 ⟨rfl, hb1⟩)
    go_ret
    exact ⟨rfl, hb1⟩

theorem scale_over (a b d : Nat) : scale a b d = if (over (a * b / 18446744073709551616) (a * b % 18446744073709551616) d).2.2 = 150 then (18446744073709551615, 0, 0) else over (a * b / 18446744073709551616) (a * b % 18446744073709551616) d := by
  have e : a * b / 18446744073709551616 * 18446744073709551616 + a * b % 18446744073709551616 = a * b := by omega
  unfold scale over
  by_cases h0 : d = 0
  · simp [h0]
  · rw [if_neg h0, if_neg h0, e]
    by_cases h1 : d ≤ a * b / 18446744073709551616
    · have h2 : ¬ a * b / d < 18446744073709551616 := by
        intro h
        have := (Nat.div_lt_iff_lt_mul (show 0 < d by omega)).1 h
        have h3 : d * 18446744073709551616 ≤ a * b := by
          have := Nat.mul_le_mul_right 18446744073709551616 h1
          omega
        rw [Nat.mul_comm] at h3
        omega
      rw [if_neg h2, if_pos h1]
      rfl
    · have h2 : a * b / d < 18446744073709551616 := by
        refine (Nat.div_lt_iff_lt_mul (by omega)).2 ?_
        have : (a * b / 18446744073709551616 + 1) * 18446744073709551616 ≤ d * 18446744073709551616 := Nat.mul_le_mul_right _ (by omega)
        rw [Nat.mul_comm 18446744073709551616 d]
        omega
      rw [if_pos h2, if_neg h1]
      rfl

set_option maxRecDepth 20000 in
theorem Scale_any (a b d : Nat) (w : World) (ha : a < 18446744073709551616) (hb : b < 18446744073709551616) (hd : d < 18446744073709551616) :
    Calls Try.prog 16 #[.int .u64 (a : Int), .int .u64 (b : Int), .int .u64 (d : Int)] w fun e w' => e = .returned (.tuple #[.int .u64 ((scale a b d).1 : Int), .int .u64 ((scale a b d).2.1 : Int), .int .i64 ((scale a b d).2.2 : Int)]) ∧ Below w.heap.size w w' := by
  rw [scale_over]
  have hh : a * b / 18446744073709551616 < 18446744073709551616 := by
    have : a * b ≤ 18446744073709551615 * 18446744073709551615 := Nat.mul_le_mul (by omega) (by omega)
    omega
  have hl : a * b % 18446744073709551616 < 18446744073709551616 := Nat.mod_lt _ (by decide)
  obtain ⟨hi, ehi⟩ : ∃ h, a * b / 18446744073709551616 = h := ⟨_, rfl⟩
  obtain ⟨lo, elo⟩ : ∃ h, a * b % 18446744073709551616 = h := ⟨_, rfl⟩
  rw [ehi] at hh
  rw [elo] at hl
  rw [ehi, elo]
  obtain ⟨q, r, c, ho⟩ : ∃ q r c, over hi lo d = (q, r, c) := ⟨_, _, _, rfl⟩
  rw [ho]
  have H := Lib.hid (And.intro ehi (And.intro elo ho))
  clear ehi elo ho
  by_cases hc : c = 150
  · subst hc
    go_enter Try.func16, Try.ntmps16
    go_wp2_with (first
      | (go_at_call 15; refine (Wide_any a b _ ha hb).mono ?_; rw [H.out.1, H.out.2.1]; rintro e w1 ⟨rfl, hb1⟩)
      | (go_at_call 17; refine (Over_any hi lo d _ hh hl hd).mono ?_; rw [H.out.2.2]; rintro e w2 ⟨rfl, rfl⟩))
    go_ret3
    exact ⟨rfl, hb1⟩
  · rw [if_neg (show ¬ (q, r, c).2.2 = 150 from hc)]
    have hne : ((c : Int) == 150) = false := by simp; omega
    go_enter Try.func16, Try.ntmps16
    go_wp2_with (first
      | (go_at_call 15; refine (Wide_any a b _ ha hb).mono ?_; rw [H.out.1, H.out.2.1]; rintro e w1 ⟨rfl, hb1⟩)
      | (go_at_call 17; refine (Over_any hi lo d _ hh hl hd).mono ?_; rw [H.out.2.2]; rintro e w2 ⟨rfl, rfl⟩))
    go_ret3
    exact ⟨rfl, hb1⟩
end Go.Proofs.Ytoglolhjfbpnpaa
