/- Walks: root, each. -/
import Derived.Test.YthidfmkmklnhhaaProg
import Derived.Test.YthidfmkmklnhhaaYb
import Derived.Test.YthidfmkmklnhhaaQ
namespace Go.Proofs.Ythidfmkmklnhhaa
open Go.RowKit
set_option linter.unusedVariables false

def rtV (r : Nat) : Value := .complex .f64 (rre r) (rim r)
/-- The power of i that 'root' takes. -/
def Rt (n : Int) (r : Nat) : Prop := r < 4 ∧ n % 4 = (r : Int)

set_option maxRecDepth 20000 in
theorem root_any (n : Int) (r : Nat) (w : World) (h : Rt n r) : Calls Try.prog 39 #[.int .i64 n] w fun e w' => e = .returned (rtV r) ∧ w' = w := by
  obtain ⟨h4, hr⟩ := h
  obtain ⟨a, ha⟩ : ∃ a, n.tmod 4 = a := ⟨_, rfl⟩
  have hb : -3 ≤ a ∧ a ≤ 3 ∧ (a + 4) % 4 = (r : Int) := by
    have h1 := Int.tmod_lt_of_pos n (show (0 : Int) < 4 by decide)
    have h2 := Int.lt_tmod_of_pos n (show (0 : Int) < 4 by decide)
    have h3 := Int.mul_tdiv_add_tmod n 4
    omega
  obtain ⟨hb1, hb2, hb3⟩ := hb
  have hwa : IntKind.i64.wrap a = a := IntWalk.i64_in _ (by omega)
  obtain ⟨b, hb⟩ : ∃ b, a + 4 = b := ⟨_, rfl⟩
  have hwb : IntKind.i64.wrap b = b := IntWalk.i64_in _ (by omega)
  have ht : b.tmod 4 = (r : Int) := by rw [Int.tmod_eq_emod_of_nonneg (by omega), ← hb]; exact hb3
  have hwr : IntKind.i64.wrap (r : Int) = (r : Int) := IntWalk.i64_in _ (by omega)
  clear hb1 hb2 hb3 hr
  have hi0 : ∀ w, (Instr.index 26 (.agg #[.complex .f64 4607182418800017408 0, .complex .f64 0 4607182418800017408, .complex .f64 13830554455654793216 0, .complex .f64 0 13830554455654793216]) (.int .i64 0)).run Try.prog w = .ok (.complex .f64 4607182418800017408 0) w := fun _ => by kernel_rfl
  have hi1 : ∀ w, (Instr.index 26 (.agg #[.complex .f64 4607182418800017408 0, .complex .f64 0 4607182418800017408, .complex .f64 13830554455654793216 0, .complex .f64 0 13830554455654793216]) (.int .i64 1)).run Try.prog w = .ok (.complex .f64 0 4607182418800017408) w := fun _ => by kernel_rfl
  have hi2 : ∀ w, (Instr.index 26 (.agg #[.complex .f64 4607182418800017408 0, .complex .f64 0 4607182418800017408, .complex .f64 13830554455654793216 0, .complex .f64 0 13830554455654793216]) (.int .i64 2)).run Try.prog w = .ok (.complex .f64 13830554455654793216 0) w := fun _ => by kernel_rfl
  have hi3 : ∀ w, (Instr.index 26 (.agg #[.complex .f64 4607182418800017408 0, .complex .f64 0 4607182418800017408, .complex .f64 13830554455654793216 0, .complex .f64 0 13830554455654793216]) (.int .i64 3)).run Try.prog w = .ok (.complex .f64 0 13830554455654793216) w := fun _ => by kernel_rfl
  go_enter Try.func39, Try.ntmps39
  rcases (show r = 0 ∨ r = 1 ∨ r = 2 ∨ r = 3 by omega) with rfl | rfl | rfl | rfl
  all_goals go_wp2
  all_goals go_ret
  all_goals exact ⟨rfl, rfl⟩
end Go.Proofs.Ythidfmkmklnhhaa
