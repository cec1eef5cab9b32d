/- Walks: math.Trunc, math.Abs, whole. -/
import Derived.Test.YthidfmkmklnhhaaProg
import Derived.Test.YthidfmkmklnhhaaYg
import Derived.Laws.Externs
import Derived.Laws.BitsAllLaws
namespace Go.Proofs.Ythidfmkmklnhhaa
open Go.RowKit
set_option linter.unusedVariables false

theorem FI.ord {x y : Nat} {a b : Int} (hx : FI x a) (hy : FI y b) : FloatKind.f64.format.order x y = some (compare a b) := FQ.order hx hy
theorem cmp_lt {a b : Int} (h : a < b) : compare a b = .lt := by show compareOfLessAndEq a b = _; unfold compareOfLessAndEq; rw [if_pos h]
theorem cmp_eq (a : Int) : compare a a = .eq := by show compareOfLessAndEq a a = _; unfold compareOfLessAndEq; rw [if_neg (by omega), if_pos rfl]
theorem cmp_gt {a b : Int} (h : b < a) : compare a b = .gt := by show compareOfLessAndEq a b = _; unfold compareOfLessAndEq; rw [if_neg (by omega), if_neg (by omega)]
theorem arch_trunc {x s m : Nat} {e : Int} {b : Bool} (h : Ieee.double.read x = .number b m e) (w : World) : (callFunc 64 #[.float .f64 x]).run Try.prog w = .ok (.value (.float .f64 (Ieee.double.write ((Ieee.double.read x).integral .zero)))) w := by
  have h1 := run_callFunc_extern (P := Try.prog) (f := 64) (e := Extern.MathFloor.toIntegral "math.archTrunc" .zero) Try.func64 (by kernel_rfl) (by kernel_rfl) (by kernel_rfl) (by kernel_rfl) #[.float .f64 x] w
  rw [h1]
  have h2 : ∀ d, FloatKind.f64.decode x = d → (∃ b m e, d = .number b m e) → Extern.MathFloor.toIntegral "math.archTrunc" .zero #[.float .f64 x] = pure (.float .f64 (FloatKind.f64.encode (d.integral .zero))) := by
    intro d hd hn
    obtain ⟨b, m, e, rfl⟩ := hn
    show (Extern.MathFloor.toIntegral.match_1 _ _ _ _) = _
    rw [hd]
  rw [h2 _ rfl ⟨b, m, e, h⟩]
  rfl
theorem f64bits (x : Nat) (w : World) : (callFunc 56 #[.float .f64 x]).run Try.prog w = .ok (.value (.int .u64 (x : Int))) w := by
  have h1 := run_callFunc_extern (P := Try.prog) (f := 56) (e := Extern.MathFloatBits.float64bits) Try.func56 (by kernel_rfl) (by kernel_rfl) (by kernel_rfl) (by kernel_rfl) #[.float .f64 x] w
  rw [h1]
  rfl
theorem f64from (n : Nat) (w : World) : (callFunc 55 #[.int .u64 (n : Int)]).run Try.prog w = .ok (.value (.float .f64 n)) w := by
  have h1 := run_callFunc_extern (P := Try.prog) (f := 55) (e := Extern.MathFloatBits.float64frombits) Try.func55 (by kernel_rfl) (by kernel_rfl) (by kernel_rfl) (by kernel_rfl) #[.int .u64 (n : Int)] w
  rw [h1]
  rfl

set_option maxRecDepth 20000 in
theorem Trunc_any (x : Nat) (a : Int) (w : World) (h : FI x a) (ha : a.natAbs ≤ 9007199254740992) : Calls Try.prog 60 #[.float .f64 x] w fun e w' => (∃ y, e = .returned (.float .f64 y) ∧ FI y a) ∧ w' = w := by
  have ht := FI.trunc h ha
  obtain ⟨-, s, m, e, h1, -⟩ := h
  have hx := arch_trunc (s := 0) h1
  generalize Ieee.double.write ((Ieee.double.read x).integral .zero) = y at ht hx
  have HT := Lib.hid ht
  clear ht h1 ha
  go_enter Try.func60, Try.ntmps60
  go_wp2_with fail
  go_ret
  exact ⟨⟨y, rfl, HT.out⟩, rfl⟩
set_option maxRecDepth 20000 in
theorem Abs_any (x : Nat) (a : Int) (w : World) (h : FI x a) : Calls Try.prog 61 #[.float .f64 x] w fun e w' => (∃ y, e = .returned (.float .f64 y) ∧ FI y (a.natAbs : Int)) ∧ w' = w := by
  have ht := FI.abs h
  have hx := f64bits x
  have hb : bits .andNot .u64 (x : Int) 9223372036854775808 = ((x % 9223372036854775808 : Nat) : Int) := by
    have h1 := u64_andNot_nat x 9223372036854775808 h.1 (by decide)
    rw [show (18446744073709551615 - 9223372036854775808 : Nat) = 2 ^ 63 - 1 by decide, Nat.and_two_pow_sub_one_eq_mod] at h1
    exact h1
  generalize x % 9223372036854775808 = y at ht hb
  have hy := f64from y
  have HT := Lib.hid ht
  clear ht h
  go_enter Try.func61, Try.ntmps61
  go_wp2_with fail
  go_ret
  exact ⟨⟨y, rfl, HT.out⟩, rfl⟩
end Go.Proofs.Ythidfmkmklnhhaa
