/- Walks: Pick at five. -/
import Derived.Test.YtllbcohfelgamaaProg
import Derived.Test.YtllbcohfelgamaaEa
namespace Go.Proofs.Ytllbcohfelgamaa
open Go.RowKit
set_option linter.unusedVariables false

def pick5 (x : Int) : Int := x % 5
theorem pick5_in (x : Int) : 0 ≤ pick5 x ∧ pick5 x < 5 := by unfold pick5; omega
theorem tmod5 (x : Int) (h : x < 0) : x.tmod 5 = if x % 5 = 0 then 0 else x % 5 - 5 := by
  rw [Int.tmod_eq_emod]
  by_cases hd : 0 ≤ x ∨ (5 : Int) ∣ x
  · have h5 : x % 5 = 0 := by
      rcases hd with hd | hd
      · omega
      · exact Int.emod_eq_zero_of_dvd hd
    rw [if_pos hd, h5]; simp
  · have h5 : x % 5 ≠ 0 := fun e => hd (.inr (Int.dvd_of_emod_eq_zero e))
    rw [if_neg hd, if_neg h5]
    rfl
theorem pick5_any (x : Int) (w : World) (hx : -9223372036854775808 ≤ x ∧ x ≤ 9223372036854775807) : Calls Try.prog 26 #[.int .i64 x, .int .i64 5] w fun e w' => e = .returned (.int .i64 (pick5 x)) ∧ w = w' := by
  obtain ⟨hx1, hx2⟩ := hx
  by_cases h0 : 0 ≤ x
  · go_enter Try.func26, Try.ntmps26
    go_wp2
    go_ret
    exact ⟨rfl, rfl⟩
  · have e := tmod5 x (by omega)
    by_cases h1 : x % 5 = 0
    · rw [if_pos h1] at e
      have H1 := Lib.hid h1
      clear h1
      go_enter Try.func26, Try.ntmps26
      go_wp2
      go_ret
      exact ⟨by unfold pick5; rw [H1.out]; rfl, rfl⟩
    · rw [if_neg h1] at e
      have h2 : x % 5 - 5 < 0 := by omega
      have h3 : 0 ≤ x % 5 := by omega
      have h4 : x % 5 < 5 := by omega
      clear h1
      go_enter Try.func26, Try.ntmps26
      go_wp2
      go_ret
      exact ⟨ret_int (by unfold pick5; omega), rfl⟩
end Go.Proofs.Ytllbcohfelgamaa
