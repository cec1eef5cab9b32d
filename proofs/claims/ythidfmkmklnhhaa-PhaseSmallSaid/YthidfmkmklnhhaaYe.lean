/- Walks: sums. -/
import Derived.Test.YthidfmkmklnhhaaProg
import Derived.Test.YthidfmkmklnhhaaYd
namespace Go.Proofs.Ythidfmkmklnhhaa
open Go.RowKit
set_option linter.unusedVariables false

set_option maxRecDepth 20000 in
set_option maxHeartbeats 800000 in
theorem sums1_any (j : Nat) (i : Int) (hj : j < 4) (hi : i = (j : Int)) (b : Nat) (A : Option Addr) (n c : Nat) (l : List Int) (w : World) (hb : Arr 22 w b #[.slice A n c]) (hs : Sees w 1 A n c (l.map (Value.int .i64))) (hz : sz l n ≤ 4503599627370496) :
    Calls Try.prog 59 #[.int .i64 i, .pointer (some ⟨b, 0, none⟩)] w fun e w' => ∃ x y, e = .returned (.complex .f64 x y) ∧ (FI x (dR j (cs l n)) ∧ FI y (dI j (cs l n))) ∧ Below w.heap.size w w' := by
  subst hi
  have b0 : w.cell? ⟨b, 0, none⟩ = some (.slice A n c) := hb.c 0
  have hcm : n ≤ 9223372036854775807 := Nat.le_trans hs.cap hs.capm
  have HS := Lib.hid hs
  have HZ := Lib.hid hz
  have HJ := Lib.hid hj
  clear hb hs hz
  go_enter Try.func59, Try.ntmps59
  go_wp2_with fail
  go_loopw [4, 9] (fun sv iv wr => ∃ k x y : Nat, Hid (k ≤ n) ∧ iv = .int .i64 (k : Int) ∧ sv = .complex .f64 x y ∧ Hid (FI x (dR j (cs l k)) ∧ FI y (dI j (cs l k))) ∧ Hid (Below w.heap.size w wr)) (fun _ iv _ => n - (intOf iv).toNat)
  case atStart => exact ⟨0, 0, 0, Lib.hid (Nat.zero_le _), rfl, rfl, Lib.hid (by rw [(dR_zero j l).1, (dR_zero j l).2]; exact ⟨fi0, fi0⟩), Lib.hid (Below.refl _ _)⟩
  case round =>
    obtain ⟨k, x, y, HK, rfl, rfl, HXY, HB⟩ := hrel
    by_cases hlt : k < n
    · obtain ⟨g, o, hA, g1⟩ := (HS.out.below HB.out (Nat.le_refl _)).int hlt
      cases hA
      have d0 : decide ((k : Int) < (n : Int)) = true := by simp; omega
      have d0' : decide (k < n) = true := by simp; omega
      obtain ⟨v, hv⟩ : ∃ v, l.getD k 0 = v := ⟨_, rfl⟩
      rw [hv] at g1
      obtain ⟨m, hm⟩ : ∃ m, k % 4 = m := ⟨_, rfl⟩
      have hm4 : m < 4 := by omega
      have hkm : (k : Int) % 4 = (m : Int) := by omega
      have hkt : (k : Int).tmod 4 = (m : Int) := by rw [Int.tmod_eq_emod_of_nonneg (by omega)]; exact hkm
      have hwm : IntKind.i64.wrap (m : Int) = (m : Int) := IntWalk.i64_in _ (by omega)
      obtain ⟨jm, hjm⟩ : ∃ jm : Nat, j * m = jm := ⟨_, rfl⟩
      have hjm9 : jm ≤ 9 := by rw [← hjm]; exact Nat.mul_le_mul (show j ≤ 3 by omega) (show m ≤ 3 by omega)
      have hjmi : (j : Int) * (m : Int) = (jm : Int) := by rw [← hjm]; push_cast; rfl
      have hwj : IntKind.i64.wrap (jm : Int) = (jm : Int) := IntWalk.i64_in _ (by omega)
      have hRt : Rt (jm : Int) (jm % 4) := ⟨Nat.mod_lt _ (by decide), by omega⟩
      have hstep := dR_step j k l hj
      rw [hv, hm, hjm] at hstep
      have hle := d_le j hj l k
      have hsz1 := sz_mono l (show k ≤ n by omega)
      have hsz2 := sz_mono l (show k + 1 ≤ n by omega)
      have hle2 := d_le j hj l (k + 1)
      have hva : v.natAbs ≤ 4503599627370496 := by
        have : sz l (k + 1) = sz l k + v.natAbs := by rw [← hv]; rfl
        have := HZ.out
        omega
      obtain ⟨p, q, e1, fp, fq⟩ := cmul_rt (jm % 4) (FI.ofInt (n := v) (by omega)) fi0 hva (by decide)
      obtain ⟨x', y', e2, fx, fy⟩ := cadd_fi HXY.out.1 HXY.out.2 fp fq (by rw [← hstep.1]; have := HZ.out; omega) (by rw [← hstep.2]; have := HZ.out; omega)
      rw [← hstep.1] at fx
      rw [← hstep.2] at fy
      have HF := Lib.hid (And.intro fx fy)
      have HRT := Lib.hid hRt
      have hmul : ∀ w, (binOp .mul 25 (.complex .f64 (floatOfInt .f64 v) 0) (.complex .f64 (rre (jm % 4)) (rim (jm % 4)))).run Try.prog w = .ok (.complex .f64 p q) w := fun w => run_complex_mul w _ _ _ _ _ _ _ e1
      have hadd : ∀ w, (binOp .add 25 (.complex .f64 x y) (.complex .f64 p q)).run Try.prog w = .ok (.complex .f64 x' y') w := fun w => run_complex_sum w .add (.inl rfl) _ _ _ _ _ _ _ _ e2
      have HLT := Lib.hid hlt
      clear hlt hv hm hjm hRt hstep hle hsz1 hsz2 hle2 hva e1 fp fq e2 fx fy hj
      go_wp2_with (go_at_call 39; refine (root_any _ _ _ HRT.out).mono ?_; rintro e w2 ⟨rfl, rfl⟩; unfold rtV)
      go_roundw
      case rel => exact ⟨k + 1, x', y', Lib.hid HLT.out, by go_num, rfl, HF, HB⟩
      case measure => have := HLT.out; simp [intOf]; omega
    · obtain rfl : k = n := by have := HK.out; omega
      have d0 : decide ((k : Int) < (k : Int)) = false := by simp
      have d0' : decide (k < k) = false := by simp
      clear hlt
      go_wp2_with fail
      go_ret
      exact ⟨x, y, rfl, HXY.out, HB.out⟩
end Go.Proofs.Ythidfmkmklnhhaa
