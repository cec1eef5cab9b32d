/- Walks: parts that are none; the reference's part. -/
import Derived.Test.YthidfmkmklnhhaaProg
import Derived.Test.YthidfmkmklnhhaaUd
import Derived.Test.YthidfmkmklnhhaaZf
namespace Go.Proofs.Ythidfmkmklnhhaa
open Go.RowKit
set_option linter.unusedVariables false

theorem fm50 : FI 14055734437023318016 (-1125899906842624) := by
  have h := FI.ofInt (n := -1125899906842624) (by decide)
  rwa [show floatOfInt .f64 (-1125899906842624) = 14055734437023318016 from by decide] at h
/-- 'part' tells v and b of x. -/
def Pa (x : Nat) (v : Int) (b : Bool) : Prop := ∀ w, Calls Try.prog 62 #[.float .f64 x] w fun e w' => e = .returned (.tuple #[.int .i64 v, .bool b]) ∧ w' = w
theorem i2f (n : Int) (w : World) : (convert 3 50 (.int .i64 n)).run Try.prog w = .ok (.float .f64 (floatOfInt .f64 n)) w := by kernel_rfl
set_option maxRecDepth 20000 in
theorem Pa.low {x : Nat} (h : FloatKind.f64.format.order x 14055734437023318016 = some .lt ∨ FloatKind.f64.format.order x 14055734437023318016 = none) : Pa x 0 false := by
  intro w
  rcases h with h | h
  · go_enter Try.func62, Try.ntmps62
    go_wp2
    go_ret2
    exact ⟨rfl, rfl⟩
  · go_enter Try.func62, Try.ntmps62
    go_wp2
    go_ret2
    exact ⟨rfl, rfl⟩
set_option maxRecDepth 20000 in
theorem Pa.high {x : Nat} (h : FloatKind.f64.format.order x 14055734437023318016 = some .gt) (h2 : FloatKind.f64.format.order x 4832362400168542208 = some .gt) : Pa x 0 false := by
  intro w
  go_enter Try.func62, Try.ntmps62
  go_wp2
  go_ret2
  exact ⟨rfl, rfl⟩
set_option maxRecDepth 20000 in
theorem Pa.frac {x : Nat} {n : Int} (h : FloatKind.f64.format.order x 14055734437023318016 = some .gt) (h2 : FloatKind.f64.format.order x 4832362400168542208 = some .lt) (hc : ∀ w, (convert 50 3 (.float .f64 x)).run Try.prog w = .ok (.int .i64 n) w) (h3 : FloatKind.f64.format.order (floatOfInt .f64 n) x = some .lt ∨ FloatKind.f64.format.order (floatOfInt .f64 n) x = some .gt) : Pa x 0 false := by
  intro w
  have hf := i2f n
  rcases h3 with h3 | h3
  · go_enter Try.func62, Try.ntmps62
    go_wp2
    go_ret2
    exact ⟨rfl, rfl⟩
  · go_enter Try.func62, Try.ntmps62
    go_wp2
    go_ret2
    exact ⟨rfl, rfl⟩
set_option maxRecDepth 20000 in
theorem Pa.ok {x : Nat} {n : Int} {o1 o2 : Ordering} (h : FloatKind.f64.format.order x 14055734437023318016 = some o1) (h1 : o1 = .gt ∨ o1 = .eq) (h2 : FloatKind.f64.format.order x 4832362400168542208 = some o2) (h4 : o2 = .lt ∨ o2 = .eq) (hc : ∀ w, (convert 50 3 (.float .f64 x)).run Try.prog w = .ok (.int .i64 n) w) (h3 : FloatKind.f64.format.order (floatOfInt .f64 n) x = some .eq) : Pa x n true := by
  intro w
  have hf := i2f n
  rcases h1 with rfl | rfl <;> rcases h4 with rfl | rfl
  all_goals
    go_enter Try.func62, Try.ntmps62
    go_wp2
    go_ret2
    exact ⟨rfl, rfl⟩
theorem Pa.fi {x : Nat} {a : Int} (h : FI x a) (ha : a.natAbs ≤ 9007199254740992) : Pa x (if a.natAbs ≤ 1125899906842624 then a else 0) (decide (a.natAbs ≤ 1125899906842624)) := by
  have hL := h.ord fm50
  have hH := h.ord fi50
  by_cases hs : a.natAbs ≤ 1125899906842624
  · rw [if_pos hs, decide_eq_true hs]
    have hE : FloatKind.f64.format.order (floatOfInt .f64 a) x = some .eq := FI.ordE (FI.ofInt ha) h
    refine Pa.ok hL ?_ hH ?_ (toInt_fi h ha) hE
    · rcases (show a = -1125899906842624 ∨ -1125899906842624 < a by omega) with rfl | h1
      · exact .inr (cmp_eq _)
      · exact .inl (cmp_gt h1)
    · rcases (show a = 1125899906842624 ∨ a < 1125899906842624 by omega) with rfl | h1
      · exact .inr (cmp_eq _)
      · exact .inl (cmp_lt h1)
  · rw [if_neg hs, decide_eq_false hs]
    rcases (show a < -1125899906842624 ∨ 1125899906842624 < a by omega) with h1 | h1
    · exact Pa.low (.inl (by rw [hL, cmp_lt h1]))
    · exact Pa.high (by rw [hL, cmp_gt (by omega)]) (by rw [hH, cmp_gt h1])
/-- A part that is no integer up to 2^50 in absolute value, whatever else. -/
def PBad (x : Nat) : Prop := Wh x false ∧ Pa x 0 false
set_option maxRecDepth 20000 in
theorem Trunc_at (x y : Nat) (w : World) (hx : ∀ w, (callFunc 64 #[.float .f64 x]).run Try.prog w = .ok (.value (.float .f64 y)) w) : Calls Try.prog 60 #[.float .f64 x] w fun e w' => e = .returned (.float .f64 y) ∧ w' = w := by
  go_enter Try.func60, Try.ntmps60
  go_wp2_with fail
  go_ret
  exact ⟨rfl, rfl⟩
set_option maxRecDepth 20000 in
theorem Abs_at (x : Nat) (w : World) (h : x < 18446744073709551616) : Calls Try.prog 61 #[.float .f64 x] w fun e w' => e = .returned (.float .f64 (x % 9223372036854775808)) ∧ w' = w := by
  have hx := f64bits x
  have hb : bits .andNot .u64 (x : Int) 9223372036854775808 = ((x % 9223372036854775808 : Nat) : Int) := by
    have h1 := u64_andNot_nat x 9223372036854775808 h (by decide)
    rw [show (18446744073709551615 - 9223372036854775808 : Nat) = 2 ^ 63 - 1 by decide, Nat.and_two_pow_sub_one_eq_mod] at h1
    exact h1
  generalize x % 9223372036854775808 = y at hb
  have hy := f64from y
  clear h
  go_enter Try.func61, Try.ntmps61
  go_wp2_with fail
  go_ret
  exact ⟨rfl, rfl⟩
set_option maxRecDepth 20000 in
theorem Wh.none {x : Nat} (hx : ∀ w, (callFunc 64 #[.float .f64 x]).run Try.prog w = .ok (.value (.float .f64 x)) w) (ho : FloatKind.f64.format.order x x = none) : Wh x false := by
  intro w
  have HX := Lib.hid hx
  clear hx
  go_enter Try.func42, Try.ntmps42
  go_wp2_with (go_at_call 60; refine (Trunc_at x x _ HX.out).mono ?_; rintro e w1 ⟨rfl, rfl⟩)
  go_ret
  exact ⟨rfl, rfl⟩
set_option maxRecDepth 20000 in
theorem Wh.great {x y : Nat} (hx : ∀ w, (callFunc 64 #[.float .f64 x]).run Try.prog w = .ok (.value (.float .f64 x)) w) (ho : FloatKind.f64.format.order x x = some .eq) (hl : x < 18446744073709551616) (hy : x % 9223372036854775808 = y) (hg : FloatKind.f64.format.order y 4832362400168542208 = some .gt) : Wh x false := by
  intro w
  have HX := Lib.hid (And.intro hx (And.intro hl hy))
  clear hx hl hy
  go_enter Try.func42, Try.ntmps42
  go_wp2_with (first
    | (go_at_call 61; refine (Abs_at x _ HX.out.2.1).mono ?_; rw [HX.out.2.2]; rintro e w2 ⟨rfl, rfl⟩)
    | (go_at_call 60; refine (Trunc_at x x _ HX.out.1).mono ?_; rintro e w1 ⟨rfl, rfl⟩))
  go_ret
  exact ⟨rfl, rfl⟩
theorem arch_at {x y : Nat} (h : Extern.MathFloor.toIntegral "math.archTrunc" .zero #[.float .f64 x] = pure (.float .f64 y)) (w : World) : (callFunc 64 #[.float .f64 x]).run Try.prog w = .ok (.value (.float .f64 y)) w := by
  have h1 := run_callFunc_extern (P := Try.prog) (f := 64) (e := Extern.MathFloor.toIntegral "math.archTrunc" .zero) Try.func64 (by kernel_rfl) (by kernel_rfl) (by kernel_rfl) (by kernel_rfl) #[.float .f64 x] w
  rw [h1, h]
  rfl
theorem bad_nan : PBad 9221120237041090561 := ⟨Wh.none (arch_at (by kernel_rfl)) (by decide +kernel), Pa.low (.inr (by decide +kernel))⟩
theorem bad_inf : PBad 9218868437227405312 := ⟨Wh.great (arch_at (by kernel_rfl)) (by decide +kernel) (by decide) rfl (by decide +kernel), Pa.high (by decide +kernel) (by decide +kernel)⟩
theorem bad_ninf : PBad 18442240474082181120 := ⟨Wh.great (arch_at (by kernel_rfl)) (by decide +kernel) (by decide) rfl (by decide +kernel), Pa.low (.inl (by decide +kernel))⟩
theorem bad_62 : PBad 4886405595696988160 := ⟨Wh.great (arch_at (by kernel_rfl)) (by decide +kernel) (by decide) rfl (by decide +kernel), Pa.high (by decide +kernel) (by decide +kernel)⟩
theorem bad_e300 : PBad 9094988921128908188 := ⟨Wh.great (arch_at (by kernel_rfl)) (by decide +kernel) (by decide) rfl (by decide +kernel), Pa.high (by decide +kernel) (by decide +kernel)⟩
theorem f2i_at {b : Nat} {n : Int} (h : floatToIntVal .f64 b .i64 = some n) (w : World) : (convert 50 3 (.float .f64 b)).run Try.prog w = .ok (.int .i64 n) w :=
  run_convert_float_int w _ _ _ _ _ _ (by kernel_rfl) (by kernel_rfl) h
theorem bad_h : PBad 4602678819172646912 := ⟨Wh.half half_bits (by decide), Pa.frac (n := 0) (by decide +kernel) (by decide +kernel) (f2i_at (by decide +kernel)) (.inl (by decide +kernel))⟩
theorem bad_q : PBad 13821547256400052224 := ⟨Wh.frac (y := 9223372036854775808) ⟨true, 4503599627370496, -54, by decide +kernel⟩ (by decide +kernel) (.inl (by decide +kernel)), Pa.frac (n := 0) (by decide +kernel) (by decide +kernel) (f2i_at (by decide +kernel)) (.inr (by decide +kernel))⟩
theorem fiz : FI 9223372036854775808 0 := by have h := fi0.neg; rwa [show Op.negFloat .f64 0 = 9223372036854775808 from by decide] at h
end Go.Proofs.Ythidfmkmklnhhaa
