/- Walks: the law's tells. -/
import Derived.Test.YtoglolhjfbpnpaaProg
import Derived.Test.YtoglolhjfbpnpaaTa
namespace Go.Proofs.Ytoglolhjfbpnpaa
open Go.RowKit
set_option linter.unusedVariables false

set_option maxRecDepth 20000 in
set_option maxHeartbeats 3200000 in
theorem tells_any (a b c : Nat) (w : World) (ha0 : a < 18446744073709551616) (hb0 : b < 18446744073709551616) (hc0 : c < 18446744073709551616) :
    Calls Try.prog 12 #[.int .u64 (a : Int), .int .u64 (b : Int), .int .u64 (c : Int)] w fun e w' => e = .returned (.bool true) ∧ Below w.heap.size w w' := by
  have hA := Lib.hid ha0
  have hB := Lib.hid hb0
  have hC := Lib.hid hc0
  by_cases hle : a < b
  · have HL : Hid (decide ((a : Int) < (b : Int)) = true) := Lib.hid (by simp; omega)
    have HS0 : Hid (sSub a b = 0) := Lib.hid (by unfold sSub; omega)
    clear hle ha0 hb0 hc0
    go_enter Try.func12, Try.ntmps12
    go_wp2_with (first
      | (go_at_call_of 24 a; refine (Bits_any a _ hA.out).mono ?_; rintro e w1 ⟨A1, c1, xs, rfl, o1, bx, vx, b1⟩; have HVX := Lib.hid vx; clear vx)
      | (go_at_call_of 24 b; refine (Bits_any b _ hB.out).mono ?_; rintro e w2 ⟨A2, c2, ys, rfl, o2, by2, vy, b2⟩; have HVY := Lib.hid vy; clear vy; have s1 := (sees_own o1).below b2 (Nat.le_refl _); have s2 := sees_own o2)
      | (go_at_call 25; refine (Times_any _ _ _ _ _ _ xs ys _ (by exact s1) (by exact s2) bx by2 (by omega)).mono ?_; rintro e w3 ⟨A3, n3, c3, ps, rfl, s3, ln3, ln4, bp, vp, b3⟩; rw [HVX.out, HVY.out] at vp; have HVP := Lib.hid vp; clear vp; have HLN : Hid (64 ≤ n3 ∧ n3 ≤ 1000) := (Lib.hid (by omega)); clear ln3 ln4)
      | (go_at_call 26; refine (Number_lit _ _ _ ps 0 _ (by rfl) (by exact s3) bp (by have := HLN.out; omega) (by omega) (by omega)).mono ?_; rw [List.drop_zero, n_low a b HVP.out]; rintro e wn ⟨rfl, rfl⟩)
      | (go_at_call 26; refine (Number_lit _ _ _ ps 64 _ (by rfl) (by exact s3) bp (by have := HLN.out; omega) (by omega) (by have := HLN.out; omega)).mono ?_; rw [n_high a b hA.out hB.out bp HVP.out]; rintro e wn ⟨rfl, rfl⟩)
      | (go_at_call 27; refine (Less_any _ _ _ _ _ _ xs ys _ (by exact s1.below b3 (Nat.le_refl _)) (by exact s2.below b3 (Nat.le_refl _)) bx by2 (by omega)).mono ?_; rw [HVX.out, HVY.out, HL.out]; rintro e wl ⟨rfl, rfl⟩; have bC := Below.refl w3.heap.size w3)
      | (go_at_call 20; refine (Sub_any a b _ hA.out hB.out).mono ?_; rw [HS0.out]; rintro e wb ⟨rfl, rfl⟩)
      | (go_at_call 15; refine (Wide_any a b _ hA.out hB.out).mono ?_; rintro e w5 ⟨rfl, b5⟩; have bC := below_step bC b5)
      | (go_at_call 19; refine (Add_any a b _ hA.out hB.out).mono ?_; rintro e wb ⟨rfl, rfl⟩)
      | (go_at_call 30; refine (Plus_any _ _ _ _ _ _ 64 xs ys _ (by exact s1.below (below_step b3 bC) (Nat.le_refl _)) (by exact s2.below (below_step b3 bC) (Nat.le_refl _)) bx by2 (by omega) (by omega)).mono ?_; rintro e w6 ⟨A6, c6, us, rfl, o6, bu, vu, b6⟩; rw [HVX.out, HVY.out] at vu; have HVU := Lib.hid vu; clear vu; have bC := below_step bC b6)
      | (go_at_call_of 28 A6; refine (Stopped_any _ _ _ us _ (by exact sees_own o6) bu (by omega)).mono ?_; rw [stop_add a b HVU.out]; rintro e wa ⟨rfl, rfl⟩)
      | (go_at_call_of 28 A3; refine (Stopped_any _ _ _ ps _ (by exact s3.below bC (Nat.le_refl _)) bp (by have := HLN.out; omega)).mono ?_; rw [stop_mul a b HVP.out]; rintro e wa ⟨rfl, rfl⟩)
      | (go_at_call 23; refine (Mul_any a b _ hA.out hB.out).mono ?_; rintro e w7 ⟨rfl, b7⟩; have bC := below_step bC b7)
      | (go_at_call 18; refine (Shift_any a b c _ hA.out hB.out hC.out).mono ?_; rintro e wb ⟨rfl, rfl⟩)
      | (go_at_call 31; refine (refShift_any a b c _ hA.out hB.out hC.out).mono ?_; rintro e w8 ⟨rfl, b8⟩; have bC := below_step bC b8))
    go_ret
    exact ⟨rfl, below_step (below_step (below_step b1 b2) b3) bC⟩
  · have HL : Hid (decide ((a : Int) < (b : Int)) = false) := Lib.hid (by simp; omega)
    have HG : Hid (b ≤ a) := Lib.hid (by omega)
    clear hle ha0 hb0 hc0
    go_enter Try.func12, Try.ntmps12
    go_wp2_with (first
      | (go_at_call_of 24 a; refine (Bits_any a _ hA.out).mono ?_; rintro e w1 ⟨A1, c1, xs, rfl, o1, bx, vx, b1⟩; have HVX := Lib.hid vx; clear vx)
      | (go_at_call_of 24 b; refine (Bits_any b _ hB.out).mono ?_; rintro e w2 ⟨A2, c2, ys, rfl, o2, by2, vy, b2⟩; have HVY := Lib.hid vy; clear vy; have s1 := (sees_own o1).below b2 (Nat.le_refl _); have s2 := sees_own o2)
      | (go_at_call 25; refine (Times_any _ _ _ _ _ _ xs ys _ (by exact s1) (by exact s2) bx by2 (by omega)).mono ?_; rintro e w3 ⟨A3, n3, c3, ps, rfl, s3, ln3, ln4, bp, vp, b3⟩; rw [HVX.out, HVY.out] at vp; have HVP := Lib.hid vp; clear vp; have HLN : Hid (64 ≤ n3 ∧ n3 ≤ 1000) := (Lib.hid (by omega)); clear ln3 ln4)
      | (go_at_call 26; refine (Number_lit _ _ _ ps 0 _ (by rfl) (by exact s3) bp (by have := HLN.out; omega) (by omega) (by omega)).mono ?_; rw [List.drop_zero, n_low a b HVP.out]; rintro e wn ⟨rfl, rfl⟩)
      | (go_at_call 26; refine (Number_lit _ _ _ ps 64 _ (by rfl) (by exact s3) bp (by have := HLN.out; omega) (by omega) (by have := HLN.out; omega)).mono ?_; rw [n_high a b hA.out hB.out bp HVP.out]; rintro e wn ⟨rfl, rfl⟩)
      | (go_at_call 27; refine (Less_any _ _ _ _ _ _ xs ys _ (by exact s1.below b3 (Nat.le_refl _)) (by exact s2.below b3 (Nat.le_refl _)) bx by2 (by omega)).mono ?_; rw [HVX.out, HVY.out, HL.out]; rintro e wl ⟨rfl, rfl⟩; have bC := Below.refl w3.heap.size w3)
      | (go_at_call 29; refine (Minus_any _ _ _ _ _ _ xs ys _ (by exact s1.below b3 (Nat.le_refl _)) (by exact s2.below b3 (Nat.le_refl _)) bx by2 (by rw [HVX.out, HVY.out]; have := HG.out; omega) (by omega)).mono ?_; rintro e w4 ⟨A4, c4, ms, rfl, o4, bm, vm, b4⟩; rw [HVX.out, HVY.out] at vm; have HVM := Lib.hid vm; clear vm; have bC := b4)
      | (go_at_call_of 28 A4; refine (Stopped_any _ _ _ ms _ (by exact sees_own o4) bm (by omega)).mono ?_; rw [stop_sub a b hA.out HG.out HVM.out]; rintro e wa ⟨rfl, rfl⟩)
      | (go_at_call 20; refine (Sub_any a b _ hA.out hB.out).mono ?_; rintro e wb ⟨rfl, rfl⟩)
      | (go_at_call 15; refine (Wide_any a b _ hA.out hB.out).mono ?_; rintro e w5 ⟨rfl, b5⟩; have bC := below_step bC b5)
      | (go_at_call 19; refine (Add_any a b _ hA.out hB.out).mono ?_; rintro e wb ⟨rfl, rfl⟩)
      | (go_at_call 30; refine (Plus_any _ _ _ _ _ _ 64 xs ys _ (by exact s1.below (below_step b3 bC) (Nat.le_refl _)) (by exact s2.below (below_step b3 bC) (Nat.le_refl _)) bx by2 (by omega) (by omega)).mono ?_; rintro e w6 ⟨A6, c6, us, rfl, o6, bu, vu, b6⟩; rw [HVX.out, HVY.out] at vu; have HVU := Lib.hid vu; clear vu; have bC := below_step bC b6)
      | (go_at_call_of 28 A6; refine (Stopped_any _ _ _ us _ (by exact sees_own o6) bu (by omega)).mono ?_; rw [stop_add a b HVU.out]; rintro e wa ⟨rfl, rfl⟩)
      | (go_at_call_of 28 A3; refine (Stopped_any _ _ _ ps _ (by exact s3.below bC (Nat.le_refl _)) bp (by have := HLN.out; omega)).mono ?_; rw [stop_mul a b HVP.out]; rintro e wa ⟨rfl, rfl⟩)
      | (go_at_call 23; refine (Mul_any a b _ hA.out hB.out).mono ?_; rintro e w7 ⟨rfl, b7⟩; have bC := below_step bC b7)
      | (go_at_call 18; refine (Shift_any a b c _ hA.out hB.out hC.out).mono ?_; rintro e wb ⟨rfl, rfl⟩)
      | (go_at_call 31; refine (refShift_any a b c _ hA.out hB.out hC.out).mono ?_; rintro e w8 ⟨rfl, b8⟩; have bC := below_step bC b8))
    go_ret
    exact ⟨rfl, below_step (below_step (below_step b1 b2) b3) bC⟩

set_option maxRecDepth 20000 in
theorem SatTells_any (a b c : Nat) (w : World) (ha0 : a < 18446744073709551616) (hb0 : b < 18446744073709551616) (hc0 : c < 18446744073709551616) :
    Calls Try.prog 3 #[.int .u64 (a : Int), .int .u64 (b : Int), .int .u64 (c : Int)] w fun e w' => e = .returned (.bool true) ∧ Below w.heap.size w w' := by
  have hA := Lib.hid ha0
  have hB := Lib.hid hb0
  have hC := Lib.hid hc0
  clear ha0 hb0 hc0
  go_enter Try.func3, Try.ntmps3
  go_wp2_with (first
    | (go_at_call 12; refine (tells_any a b c _ hA.out hB.out hC.out).mono ?_; rintro e w1 ⟨rfl, b1⟩)
    | (go_at_call 13; refine (awake_any _).mono ?_; rintro e w2 ⟨rfl, b2⟩))
  go_ret
  exact ⟨rfl, below_step b1 b2⟩
end Go.Proofs.Ytoglolhjfbpnpaa
