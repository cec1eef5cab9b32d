/- Plain laws of BitsWrong: four defects. -/
import Derived.Test.YtemhoaleeefhhaaProg
import Derived.Test.YtemhoaleeefhhaaMd
import Derived.Test.YtemhoaleeefhhaaNb
namespace Go.Proofs.Ytemhoaleeefhhaa
open Go.RowKit
set_option linter.unusedVariables false

theorem wrong_long {N : Int} {l : List Int} (hr : RightW N l) : ¬ RightW N (l ++ [0]) := fun h => by
  have h1 := hr.2.2.1
  have h2 := h.2.2.1
  rw [List.length_append] at h2
  simp only [List.length_cons, List.length_nil] at h2
  omega
theorem long_w {l : List Int} (h : W64 l) : W64 (l ++ [0]) := fun x hx => by
  rcases List.mem_append.1 hx with hx | hx
  · exact h x hx
  · rw [List.mem_singleton] at hx; subst hx; decide
theorem wrong_N {N : Int} {l : List Int} (h : N < 0 ∨ 65536 < N) : ¬ RightW N l := fun hr => by
  have h1 := hr.1
  have h2 := hr.2.1
  omega
theorem wrong_bit {N v : Nat} {l : List Int} (hw : W64 l) (hr : RightW (N : Int) l) (hv : N % 64 + v < 64) (h0 : 0 < N % 64) : ¬ RightW (N : Int) (inB l (N + v)) := by
  have hl := hr.2.2.1
  have hi : N + v < 64 * l.length := by omega
  exact not_right_bit (inB_w hw _) (Nat.le_add_right N v) (by rw [inB_bt hi]; simp)
theorem bothE_l {M N : Int} {a b : List Int} (h : ¬ RightW M a) : bothE M N a b = 50 := if_pos (.inl h)
theorem bothE_r {M N : Int} {a b : List Int} (h : ¬ RightW N b) : bothE M N a b = 50 := if_pos (.inr h)
theorem hasF_no {N i : Int} {l : List Int} (h : ¬ RightW N l) : hasF l N i = false := by unfold hasF; rw [decide_eq_false h]; simp
theorem selF_no {N i : Int} {l : List Int} (h : ¬ RightW N l) : selF l N i = none := by unfold selF; rw [if_neg (fun hh => h hh.1)]
theorem membersF_no {N : Int} {l : List Int} (h : ¬ RightW N l) : membersF l N = [] := by unfold membersF; rw [if_neg h]
theorem runsF_no {N : Int} {l : List Int} (h : ¬ RightW N l) : runsF l N = [] := by unfold runsF; rw [if_neg h]
end Go.Proofs.Ytemhoaleeefhhaa
