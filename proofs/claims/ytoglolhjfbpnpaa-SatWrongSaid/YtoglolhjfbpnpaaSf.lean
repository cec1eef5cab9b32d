/- Walks: SatWrong, SatWhole. -/
import Derived.Test.YtoglolhjfbpnpaaProg
import Derived.Test.YtoglolhjfbpnpaaSe
namespace Go.Proofs.Ytoglolhjfbpnpaa
open Go.RowKit
set_option linter.unusedVariables false

theorem over_top (d : Nat) (hd : 0 < d) : over (d - 1) 18446744073709551615 d = (18446744073709551615, d - 1, 0) := by
  unfold over
  rw [if_neg (by omega), if_neg (by omega)]
  have e : (d - 1) * 18446744073709551616 + 18446744073709551615 = (d - 1) + d * 18446744073709551615 := by
    obtain ⟨k, rfl⟩ : ∃ k, d = k + 1 := ⟨d - 1, by omega⟩
    rw [Nat.add_sub_cancel, Nat.add_mul]; omega
  obtain ⟨h1, h2⟩ := (Nat.div_mod_unique (a := (d - 1) * 18446744073709551616 + 18446744073709551615) (b := d) (c := d - 1) (d := 18446744073709551615) hd).2 ⟨e.symm, by omega⟩
  rw [h1, h2]

set_option maxRecDepth 20000 in
set_option maxHeartbeats 800000 in
theorem SatWrong_any (a b d0 : Nat) (w : World) (ha : a < 18446744073709551616) (hb : b < 18446744073709551616) (hd : d0 < 18446744073709551616) :
    Calls Try.prog 8 #[.int .u64 (a : Int), .int .u64 (b : Int), .int .u64 (d0 : Int)] w fun e w' => e = .returned (.bool true) ∧ Below w.heap.size w w' := by
  obtain ⟨d, hd1, hd2, hdx⟩ : ∃ d, 0 < d ∧ d < 18446744073709551616 ∧ (d0 = 0 ∧ d = 1 ∨ 1 ≤ d0 ∧ d = d0) := by
    by_cases h : d0 = 0
    · exact ⟨1, by omega, by omega, .inl ⟨h, rfl⟩⟩
    · exact ⟨d0, by omega, by omega, .inr ⟨by omega, rfl⟩⟩
  obtain ⟨x, hx1, hx2, hxx⟩ : ∃ x, d ≤ x ∧ x < 18446744073709551616 ∧ (a < d ∧ x = d ∨ d ≤ a ∧ x = a) := by
    by_cases h : a < d
    · exact ⟨d, by omega, by omega, .inl ⟨h, rfl⟩⟩
    · exact ⟨a, by omega, by omega, .inr ⟨by omega, rfl⟩⟩
  have o1 : over x b d = (0, 0, 150) := by unfold over; rw [if_neg (by omega), if_pos hx1]
  have o2 := over_top d hd1
  have H := Lib.hid (And.intro o1 o2)
  have e1 : (if (d0 : Int) < 1 then (1 : Int) else (d0 : Int)) = (d : Int) := by split <;> omega
  have e2 : (if (a : Int) < (d : Int) then (d : Int) else (a : Int)) = (x : Int) := by split <;> omega
  have e3 : (if a < d then (d : Int) else (a : Int)) = (x : Int) := by split <;> omega
  clear o1 o2
  go_enter Try.func8, Try.ntmps8
  go_wp2_with (first
    | (go_at_call 13; refine (awake_any _).mono ?_; rintro e w1 ⟨rfl, hb1⟩)
    | (go_at_call 17; refine (Over_lit (Q := 0) (R := 0) (E := 2) a b 0 0 0 2 (by rfl) (by rfl) (by rfl) ha hb (by decide) rfl rfl rfl rfl _).mono ?_; rintro e w3 ⟨rfl, rfl⟩)
    | (go_at_call 16; refine (Scale_lit (Q := 0) (R := 0) (E := 2) a b 0 0 0 2 (by rfl) (by rfl) (by rfl) ha hb (by decide) rfl rfl rfl rfl _).mono ?_; rintro e w4 ⟨rfl, hb4⟩)
    | (go_at_call 17; refine (Over_lit (Q := 0) (R := 0) (E := 150) x b d 0 0 150 (by rfl) (by rfl) (by rfl) hx2 hb hd2 H.out.1 rfl rfl rfl _).mono ?_; rintro e w3 ⟨rfl, rfl⟩)
    | (go_at_call 17; refine (Over_lit (Q := 18446744073709551615) (R := (d : Int) - 1) (E := 0) (d - 1) 18446744073709551615 d 18446744073709551615 (d - 1) 0 (by omega) (by rfl) (by rfl) (by omega) (by decide) hd2 H.out.2 rfl (by omega) rfl _).mono ?_; rintro e w3 ⟨rfl, rfl⟩))
  go_ret
  exact ⟨rfl, below_step hb1 hb4⟩
end Go.Proofs.Ytoglolhjfbpnpaa
