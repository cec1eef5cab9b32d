/- Walks: SatWhole. -/
import Derived.Test.YtoglolhjfbpnpaaProg
import Derived.Test.YtoglolhjfbpnpaaSe
namespace Go.Proofs.Ytoglolhjfbpnpaa
open Go.RowKit
set_option linter.unusedVariables false

theorem wide_lt (a b : Nat) (ha : a < 18446744073709551616) (hb : b < 18446744073709551616) : a * b / 18446744073709551616 < 18446744073709551615 ∧ a * b % 18446744073709551616 < 18446744073709551616 := by
  have hm : a * b ≤ 18446744073709551615 * 18446744073709551615 := Nat.mul_le_mul (by omega) (by omega)
  generalize a * b = p at *
  exact ⟨by omega, Nat.mod_lt _ (by decide)⟩

/-- Quotient times divisor and what is left: the upper and the lower word, with a carry or without one. -/
theorem whole_plain {p q d r : Nat} (hE : q * d + r = p) (hr : r < 18446744073709551616) :
    (q * d % 18446744073709551616 + r < 18446744073709551616 ∧ p / 18446744073709551616 = q * d / 18446744073709551616 ∧ p % 18446744073709551616 = q * d % 18446744073709551616 + r) ∨
    (18446744073709551616 ≤ q * d % 18446744073709551616 + r ∧ p / 18446744073709551616 = q * d / 18446744073709551616 + 1 ∧ p % 18446744073709551616 + 18446744073709551616 = q * d % 18446744073709551616 + r) := by
  subst hE
  generalize q * d = t
  omega

set_option maxRecDepth 20000 in
set_option maxHeartbeats 1600000 in
theorem SatWhole_any (a b d0 : Nat) (w : World) (ha0 : a < 18446744073709551616) (hb0 : b < 18446744073709551616) (hd0 : d0 < 18446744073709551616) :
    Calls Try.prog 5 #[.int .u64 (a : Int), .int .u64 (b : Int), .int .u64 (d0 : Int)] w fun e w' => e = .returned (.bool true) ∧ Below w.heap.size w w' := by
  obtain ⟨d, hd1, hd2, hdx⟩ : ∃ d, 0 < d ∧ d < 18446744073709551616 ∧ (d0 = 0 ∧ d = 1 ∨ 1 ≤ d0 ∧ d = d0) := by
    by_cases h : d0 = 0
    · exact ⟨1, by omega, by omega, .inl ⟨h, rfl⟩⟩
    · exact ⟨d0, by omega, by omega, .inr ⟨by omega, rfl⟩⟩
  have e1 : (if (d0 : Int) < 1 then (1 : Int) else (d0 : Int)) = (d : Int) := by split <;> omega
  have hw := wide_lt a b ha0 hb0
  obtain ⟨hi, ehi⟩ : ∃ h, a * b / 18446744073709551616 = h := ⟨_, rfl⟩
  obtain ⟨lo, elo⟩ : ∃ h, a * b % 18446744073709551616 = h := ⟨_, rfl⟩
  have hsc := scale_over a b d
  rw [ehi, elo] at hsc hw
  have HWD := Lib.hid (And.intro ehi elo)
  have HA := Lib.hid ha0
  have HB := Lib.hid hb0
  have HD := Lib.hid hd2
  have HHI : Hid (hi < 18446744073709551616) := Lib.hid (by omega)
  have HLO := Lib.hid hw.2
  by_cases hge : d ≤ hi
  · have ho : over hi lo d = (0, 0, 150) := by unfold over; rw [if_neg (by omega), if_pos hge]
    rw [ho, if_pos rfl] at hsc
    have HO := Lib.hid ho
    have HS := Lib.hid hsc
    have d1 : decide ((d : Int) ≤ (hi : Int)) = true := by simp; omega
    have d1' : decide (d ≤ hi) = true := by simp; omega
    clear ho hsc ehi elo hw ha0 hb0 hd0 hd1 hd2 hdx hge
    go_enter Try.func5, Try.ntmps5
    go_wp2_with (first
      | (go_at_call 13; refine (awake_any _).mono ?_; rintro e w1 ⟨rfl, hb1⟩; have bC := hb1)
      | (go_at_call 15; refine (Wide_any a b _ HA.out HB.out).mono ?_; rw [HWD.out.1, HWD.out.2]; rintro e w2 ⟨rfl, hb2⟩; have bC := below_step bC hb2)
      | (go_at_call 16; refine (Scale_lit (Q := 18446744073709551615) (R := 0) (E := 0) a b d _ _ _ (by rfl) (by rfl) (by rfl) HA.out HB.out HD.out HS.out rfl rfl rfl _).mono ?_; rintro e w3 ⟨rfl, hb3⟩; have bC := below_step bC hb3)
      | (go_at_call 17; refine (Over_lit (Q := 0) (R := 0) (E := 150) hi lo d _ _ _ (by rfl) (by rfl) (by rfl) HHI.out HLO.out HD.out HO.out rfl rfl rfl _).mono ?_; rintro e w4 ⟨rfl, rfl⟩))
    go_ret
    exact ⟨rfl, bC⟩
  · have hp : hi * 18446744073709551616 + lo = a * b := by omega
    have ho : over hi lo d = (a * b / d, a * b % d, 0) := by unfold over; rw [if_neg (by omega), if_neg hge, hp]
    obtain ⟨q, hq⟩ : ∃ q, a * b / d = q := ⟨_, rfl⟩
    obtain ⟨r, hr⟩ : ∃ r, a * b % d = r := ⟨_, rfl⟩
    have hr2 : r < d := by rw [← hr]; exact Nat.mod_lt _ hd1
    have hE : q * d + r = a * b := by rw [← hq, ← hr, Nat.mul_comm]; exact Nat.div_add_mod _ _
    have hq2 : q < 18446744073709551616 := by
      rw [← hq]
      exact Nat.div_lt_of_lt_mul (by rw [← hp]; omega)
    rw [hq, hr] at ho
    rw [ho, if_neg (show ¬ (0 : Nat) = 150 by decide)] at hsc
    have HO := Lib.hid ho
    have HS := Lib.hid hsc
    have hpl := whole_plain hE (by omega)
    rw [ehi, elo] at hpl
    obtain ⟨h, eh⟩ : ∃ h, q * d / 18446744073709551616 = h := ⟨_, rfl⟩
    obtain ⟨l, el⟩ : ∃ l, q * d % 18446744073709551616 = l := ⟨_, rfl⟩
    have hl2 : l < 18446744073709551616 := by rw [← el]; exact Nat.mod_lt _ (by decide)
    rw [eh, el] at hpl
    have HQD := Lib.hid (And.intro eh el)
    have HQ := Lib.hid hq2
    have d1 : decide ((hi : Int) < (d : Int)) = true := by simp; omega
    have d1' : decide (hi < d) = true := by simp; omega
    have d2 : decide ((r : Int) < (d : Int)) = true := by simp; omega
    have d2' : decide (r < d) = true := by simp; omega
    rcases hpl with ⟨p1, p2, p3⟩ | ⟨p1, p2, p3⟩
    · subst p2
      have hws : IntKind.u64.wrap ((l : Int) + (r : Int)) = (lo : Int) := by rw [IntWalk.u64_in _ (by omega)]; omega
      have d3 : decide ((lo : Int) < (l : Int)) = false := by simp; omega
      have d3' : decide (lo < l) = false := by simp; omega
      clear ho hsc ehi elo hw ha0 hb0 hd0 hd1 hd2 hdx hge hp hq hr hE hq2 hl2 eh el p1 p3 hr2
      go_enter Try.func5, Try.ntmps5
      go_wp2_with (first
        | (go_at_call 13; refine (awake_any _).mono ?_; rintro e w1 ⟨rfl, hb1⟩; have bC := hb1)
        | (go_at_call_of 15 a; refine (Wide_any a b _ HA.out HB.out).mono ?_; rw [HWD.out.1, HWD.out.2]; rintro e w2 ⟨rfl, hb2⟩; have bC := below_step bC hb2)
        | (go_at_call_of 15 q; refine (Wide_any q d _ HQ.out HD.out).mono ?_; rw [HQD.out.1, HQD.out.2]; rintro e w2 ⟨rfl, hb2⟩; have bC := below_step bC hb2)
        | (go_at_call 16; refine (Scale_lit (Q := (q : Int)) (R := (r : Int)) (E := 0) a b d _ _ _ (by rfl) (by rfl) (by rfl) HA.out HB.out HD.out HS.out rfl rfl rfl _).mono ?_; rintro e w3 ⟨rfl, hb3⟩; have bC := below_step bC hb3)
        | (go_at_call 17; refine (Over_lit (Q := (q : Int)) (R := (r : Int)) (E := 0) hi lo d _ _ _ (by rfl) (by rfl) (by rfl) HHI.out HLO.out HD.out HO.out rfl rfl rfl _).mono ?_; rintro e w4 ⟨rfl, rfl⟩))

      go_ret
      exact ⟨rfl, bC⟩
    · have hws : IntKind.u64.wrap ((l : Int) + (r : Int)) = (lo : Int) := by simp [IntKind.wrap, IntKind.signed, IntKind.bits]; omega
      have d3 : decide ((lo : Int) < (l : Int)) = true := by simp; omega
      have d3' : decide (lo < l) = true := by simp; omega
      have hwh : IntKind.u64.wrap ((h : Int) + 1) = (hi : Int) := by rw [IntWalk.u64_in _ (by omega)]; omega
      clear ho hsc ehi elo hw ha0 hb0 hd0 hd1 hd2 hdx hge hp hq hr hE hq2 hl2 eh el p1 p3 hr2 p2
      go_enter Try.func5, Try.ntmps5
      go_wp2_with (first
        | (go_at_call 13; refine (awake_any _).mono ?_; rintro e w1 ⟨rfl, hb1⟩; have bC := hb1)
        | (go_at_call_of 15 a; refine (Wide_any a b _ HA.out HB.out).mono ?_; rw [HWD.out.1, HWD.out.2]; rintro e w2 ⟨rfl, hb2⟩; have bC := below_step bC hb2)
        | (go_at_call_of 15 q; refine (Wide_any q d _ HQ.out HD.out).mono ?_; rw [HQD.out.1, HQD.out.2]; rintro e w2 ⟨rfl, hb2⟩; have bC := below_step bC hb2)
        | (go_at_call 16; refine (Scale_lit (Q := (q : Int)) (R := (r : Int)) (E := 0) a b d _ _ _ (by rfl) (by rfl) (by rfl) HA.out HB.out HD.out HS.out rfl rfl rfl _).mono ?_; rintro e w3 ⟨rfl, hb3⟩; have bC := below_step bC hb3)
        | (go_at_call 17; refine (Over_lit (Q := (q : Int)) (R := (r : Int)) (E := 0) hi lo d _ _ _ (by rfl) (by rfl) (by rfl) HHI.out HLO.out HD.out HO.out rfl rfl rfl _).mono ?_; rintro e w4 ⟨rfl, rfl⟩))
      go_ret
      exact ⟨rfl, bC⟩
end Go.Proofs.Ytoglolhjfbpnpaa
