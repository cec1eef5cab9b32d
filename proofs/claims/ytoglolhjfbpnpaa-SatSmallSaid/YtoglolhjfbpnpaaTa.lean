/- Walks: the reference's Shift, the law's tells. -/
import Derived.Test.YtoglolhjfbpnpaaProg
import Derived.Test.YtoglolhjfbpnpaaSz2
import Derived.Test.YtoglolhjfbpnpaaSe
namespace Go.Proofs.Ytoglolhjfbpnpaa
open Go.RowKit
set_option linter.unusedVariables false

theorem Number_lit {F : Int} (A : Option Addr) (n c : Nat) (l : List Int) (f : Nat) (w : World) (hF : F = (f : Int)) (h : Sees w 1 A n c (l.map (Value.int .i64))) (bl : Bits l) (hn : n ≤ 100000) (hf : f ≤ 1000) (hfn : f ≤ n) :
    Calls Try.prog 26 #[.slice A n c, .int .i64 F] w fun e w' => e = .returned (.tuple #[.int .u64 (val (l.drop f) % 18446744073709551616), .bool (decide (0 < val (l.drop (f + 64))))]) ∧ w = w' := by
  subst hF
  exact Number_any A n c l f w h bl hn hf hfn

theorem stop_nat (m : Nat) {V : Int} (h : V = (m : Int)) : stopI V = ((if m < 18446744073709551616 then m else 18446744073709551615 : Nat) : Int) := by
  subst h
  unfold stopI
  split <;> split <;> omega
theorem stop_add (a b : Nat) {V : Int} (h : V = (a : Int) + (b : Int)) : stopI V = ((sAdd a b : Nat) : Int) := stop_nat (a + b) (by omega)
theorem stop_mul (a b : Nat) {V : Int} (h : V = (a : Int) * (b : Int)) : stopI V = ((sMul a b : Nat) : Int) := stop_nat (a * b) (by rw [h, Int.natCast_mul])
theorem stop_sub (a b : Nat) (ha : a < 18446744073709551616) (hle : b ≤ a) {V : Int} (h : V = (a : Int) - (b : Int)) : stopI V = ((sSub a b : Nat) : Int) := by
  have e : V = ((a - b : Nat) : Int) := by omega
  rw [stop_nat (a - b) e, if_pos (by omega)]
  rfl
theorem stop_shift (v f t : Nat) (ht : t < 18446744073709551616) (hle : f ≤ v + t) {V : Int} (h : V = (v : Int) + (t : Int) - (f : Int)) : stopI V = ((sShift v f t : Nat) : Int) := by
  have e : V = ((v + t - f : Nat) : Int) := by omega
  rw [stop_nat _ e]
  unfold sShift sAdd sSub
  split <;> split <;> (try split) <;> omega
theorem shift_0 (v f t : Nat) (h : v + t < f) : sShift v f t = 0 := by
  unfold sShift sSub
  split <;> omega
theorem n_low (a b : Nat) {V : Int} (h : V = (a : Int) * (b : Int)) : V % 18446744073709551616 = ((a * b % 18446744073709551616 : Nat) : Int) := by
  rw [h, ← Int.natCast_mul]; omega
theorem n_high (a b : Nat) (ha : a < 18446744073709551616) (hb : b < 18446744073709551616) {l : List Int} (bl : Bits l) (h : val l = (a : Int) * (b : Int)) : val (l.drop 64) % 18446744073709551616 = ((a * b / 18446744073709551616 : Nat) : Int) := by
  have e := val_split l 64
  have t := take_lt bl 64
  have e2 : (2 : Int) ^ 64 = 18446744073709551616 := by decide
  rw [e2] at e t
  rw [h, ← Int.natCast_mul] at e
  have hm : a * b ≤ 18446744073709551615 * 18446744073709551615 := Nat.mul_le_mul (by omega) (by omega)
  omega

set_option maxRecDepth 20000 in
set_option maxHeartbeats 1600000 in
theorem refShift_any (v f t : Nat) (w : World) (hv : v < 18446744073709551616) (hf : f < 18446744073709551616) (ht : t < 18446744073709551616) :
    Calls Try.prog 31 #[.int .u64 (v : Int), .int .u64 (f : Int), .int .u64 (t : Int)] w fun e w' => e = .returned (.int .u64 ((sShift v f t : Nat) : Int)) ∧ Below w.heap.size w w' := by
  have hV := Lib.hid hv
  have hF := Lib.hid hf
  have hT := Lib.hid ht
  by_cases hle : v + t < f
  · have HL : Hid (decide (((v : Int) + (t : Int)) < (f : Int)) = true) := Lib.hid (by simp; omega)
    have e := shift_0 v f t hle
    have HE := Lib.hid e
    clear e hle hv hf ht
    go_enter Try.func31, Try.ntmps31
    go_wp2_with (first
      | (go_at_call_of 24 v; refine (Bits_any v _ hV.out).mono ?_; rintro e w1 ⟨A1, c1, xs, rfl, o1, bx, vx, b1⟩; have HVX := Lib.hid vx; clear vx)
      | (go_at_call_of 24 f; refine (Bits_any f _ hF.out).mono ?_; rintro e w2 ⟨A2, c2, ys, rfl, o2, by2, vy, b2⟩; have HVY := Lib.hid vy; clear vy)
      | (go_at_call_of 24 t; refine (Bits_any t _ hT.out).mono ?_; rintro e w3 ⟨A3, c3, zs, rfl, o3, bz, vz, b3⟩; have HVZ := Lib.hid vz; clear vz)
      | (go_at_call 30; refine (Plus_any _ _ _ _ _ _ 64 xs zs _ (by exact (sees_own o1).below (below_step b2 b3) (Nat.le_refl _)) (by exact sees_own o3) bx bz (by omega) (by omega)).mono ?_; rintro e w4 ⟨A4, c4, us, rfl, o4, bu, vu, b4⟩; rw [HVX.out, HVZ.out] at vu; have HVU := Lib.hid vu; clear vu)
      | (go_at_call 27; refine (Less_any _ _ _ _ _ _ us ys _ (by exact sees_own o4) (by exact (sees_own o2).below (below_step b3 b4) (Nat.le_refl _)) bu by2 (by omega)).mono ?_; rw [HVU.out, HVY.out, HL.out]; rintro e w5 ⟨rfl, rfl⟩))
    go_ret
    exact ⟨by rw [HE.out]; rfl, below_step (below_step (below_step b1 b2) b3) b4⟩
  · have HL : Hid (decide (((v : Int) + (t : Int)) < (f : Int)) = false) := Lib.hid (by simp; omega)
    have HG : Hid (f ≤ v + t) := Lib.hid (by omega)
    clear hle hv hf ht
    go_enter Try.func31, Try.ntmps31
    go_wp2_with (first
      | (go_at_call_of 24 v; refine (Bits_any v _ hV.out).mono ?_; rintro e w1 ⟨A1, c1, xs, rfl, o1, bx, vx, b1⟩; have HVX := Lib.hid vx; clear vx)
      | (go_at_call_of 24 f; refine (Bits_any f _ hF.out).mono ?_; rintro e w2 ⟨A2, c2, ys, rfl, o2, by2, vy, b2⟩; have HVY := Lib.hid vy; clear vy)
      | (go_at_call_of 24 t; refine (Bits_any t _ hT.out).mono ?_; rintro e w3 ⟨A3, c3, zs, rfl, o3, bz, vz, b3⟩; have HVZ := Lib.hid vz; clear vz)
      | (go_at_call 30; refine (Plus_any _ _ _ _ _ _ 64 xs zs _ (by exact (sees_own o1).below (below_step b2 b3) (Nat.le_refl _)) (by exact sees_own o3) bx bz (by omega) (by omega)).mono ?_; rintro e w4 ⟨A4, c4, us, rfl, o4, bu, vu, b4⟩; rw [HVX.out, HVZ.out] at vu; have HVU := Lib.hid vu; clear vu)
      | (go_at_call 27; refine (Less_any _ _ _ _ _ _ us ys _ (by exact sees_own o4) (by exact (sees_own o2).below (below_step b3 b4) (Nat.le_refl _)) bu by2 (by omega)).mono ?_; rw [HVU.out, HVY.out, HL.out]; rintro e w5 ⟨rfl, rfl⟩)
      | (go_at_call 29; refine (Minus_any _ _ _ _ _ _ us ys _ (by exact sees_own o4) (by exact (sees_own o2).below (below_step b3 b4) (Nat.le_refl _)) bu by2 (by rw [HVU.out, HVY.out]; have := HG.out; omega) (by omega)).mono ?_; rintro e w6 ⟨A6, c6, ms, rfl, o6, bm, vm, b6⟩; rw [HVU.out, HVY.out] at vm; have HVM := Lib.hid vm; clear vm)
      | (go_at_call 28; refine (Stopped_any _ _ _ ms _ (by exact sees_own o6) bm (by omega)).mono ?_; rw [stop_shift v f t hT.out HG.out HVM.out]; rintro e w7 ⟨rfl, rfl⟩))
    go_ret
    exact ⟨rfl, below_step (below_step (below_step (below_step b1 b2) b3) b4) b6⟩
end Go.Proofs.Ytoglolhjfbpnpaa
