/- Walks: Add, Sub, Shift, halves, the closure in Wide. -/
import Derived.Test.YtoglolhjfbpnpaaProg
import Derived.Test.YtoglolhjfbpnpaaQ2
import Derived.Deep.RegionWith
namespace Go.Proofs.Ytoglolhjfbpnpaa
open Go.RowKit
set_option linter.unusedVariables false

/-- A sum and a difference that stop. -/
def sAdd (a b : Nat) : Nat := if a + b < 18446744073709551616 then a + b else 18446744073709551615
def sSub (a b : Nat) : Nat := a - b
def sShift (v f t : Nat) : Nat := if v < f then sSub t (f - v) else sAdd t (v - f)
theorem sAdd_lt (a b : Nat) : sAdd a b < 18446744073709551616 := by unfold sAdd; split <;> omega

set_option maxRecDepth 20000 in
theorem Add_any (a b : Nat) (w : World) (ha : a < 18446744073709551616) (hb : b < 18446744073709551616) :
    Calls Try.prog 19 #[.int .u64 (a : Int), .int .u64 (b : Int)] w fun e w' => e = .returned (.int .u64 (sAdd a b : Nat)) ∧ w = w' := by
  by_cases h : a + b < 18446744073709551616
  · have e : sAdd a b = a + b := by unfold sAdd; rw [if_pos h]
    have h1 : decide ((18446744073709551615 : Int) - (b : Int) < (a : Int)) = false := by simp; omega
    rw [e]
    go_enter Try.func19, Try.ntmps19
    go_wp2
    go_ret
    exact ⟨by simp, rfl⟩
  · have e : sAdd a b = 18446744073709551615 := by unfold sAdd; rw [if_neg h]
    have h1 : decide ((18446744073709551615 : Int) - (b : Int) < (a : Int)) = true := by simp; omega
    rw [e]
    go_enter Try.func19, Try.ntmps19
    go_wp2
    go_ret
    exact ⟨rfl, rfl⟩

set_option maxRecDepth 20000 in
theorem Sub_any (a b : Nat) (w : World) (ha : a < 18446744073709551616) (hb : b < 18446744073709551616) :
    Calls Try.prog 20 #[.int .u64 (a : Int), .int .u64 (b : Int)] w fun e w' => e = .returned (.int .u64 (sSub a b : Nat)) ∧ w = w' := by
  by_cases h : a < b
  · have e : sSub a b = 0 := by unfold sSub; omega
    rw [e]
    go_enter Try.func20, Try.ntmps20
    go_wp2
    go_ret
    exact ⟨rfl, rfl⟩
  · have e : ((sSub a b : Nat) : Int) = (a : Int) - (b : Int) := by unfold sSub; omega
    rw [e]
    go_enter Try.func20, Try.ntmps20
    go_wp2
    go_ret
    exact ⟨rfl, rfl⟩

set_option maxRecDepth 20000 in
theorem Shift_any (v f t : Nat) (w : World) (hv : v < 18446744073709551616) (hf : f < 18446744073709551616) (ht : t < 18446744073709551616) :
    Calls Try.prog 18 #[.int .u64 (v : Int), .int .u64 (f : Int), .int .u64 (t : Int)] w fun e w' => e = .returned (.int .u64 (sShift v f t : Nat)) ∧ w = w' := by
  by_cases h : v < f
  · have e : sShift v f t = sSub t (f - v) := by unfold sShift; rw [if_pos h]
    have e2 : (f : Int) - (v : Int) = ((f - v : Nat) : Int) := by omega
    rw [e]
    have HE := Lib.hid e2
    clear e2
    go_enter Try.func18, Try.ntmps18
    go_wp2_with (go_at_call 20; rw [HE.out]; refine (Sub_any _ _ _ ht (by omega)).mono ?_; rintro e w1 ⟨rfl, rfl⟩)
    go_ret
    exact ⟨rfl, rfl⟩
  · have e : sShift v f t = sAdd t (v - f) := by unfold sShift; rw [if_neg h]
    have e2 : (v : Int) - (f : Int) = ((v - f : Nat) : Int) := by omega
    rw [e]
    have HE := Lib.hid e2
    clear e2
    go_enter Try.func18, Try.ntmps18
    go_wp2_with (go_at_call 19; rw [HE.out]; refine (Add_any _ _ _ ht (by omega)).mono ?_; rintro e w1 ⟨rfl, rfl⟩)
    go_ret
    exact ⟨rfl, rfl⟩
end Go.Proofs.Ytoglolhjfbpnpaa
