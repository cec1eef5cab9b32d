/- Walks: zigzag numbers, the reference's plain functions. -/
import Derived.Test.YtckklmepncibkaaProg
import Derived.Test.YtckklmepncibkaaQ
import Derived.Test.YtckklmepncibkaaVm
namespace Go.Proofs.Ytckklmepncibkaa
open Go.RowKit
set_option linter.unusedVariables false

theorem Zigzag_any (n : Int) (w : World) (h0 : -9223372036854775808 ≤ n) (h1 : n ≤ 9223372036854775807) :
    Calls Try.prog 16 #[.int .i64 n] w fun e w' => e = .returned (.int .u64 (zz n)) ∧ w = w' := by
  go_enter Try.func16, Try.ntmps16
  go_wp2
  go_ret
  exact ⟨ret_int (zz_bits n h0 h1), rfl⟩

theorem Unzigzag_any (x : Nat) (w : World) (h1 : x < 18446744073709551616) :
    Calls Try.prog 17 #[.int .u64 (x : Int)] w fun e w' => e = .returned (.int .i64 (uz x)) ∧ w = w' := by
  go_enter Try.func17, Try.ntmps17
  go_wp2
  go_ret
  exact ⟨ret_int (uz_bits x h1), rfl⟩

theorem refZigzag_any (n : Int) (w : World) (h0 : -9223372036854775808 ≤ n) (h1 : n ≤ 9223372036854775807) :
    Calls Try.prog 33 #[.int .i64 n] w fun e w' => e = .returned (.int .u64 (zz n)) ∧ w = w' := by
  by_cases h : 0 ≤ n
  · go_enter Try.func33, Try.ntmps33
    go_wp2
    go_ret
    exact ⟨ret_int (by unfold zz; omega), rfl⟩
  · go_enter Try.func33, Try.ntmps33
    go_wp2
    go_ret
    exact ⟨ret_int (by unfold zz; omega), rfl⟩

theorem refUnzigzag_any (x : Nat) (w : World) (h1 : x < 18446744073709551616) :
    Calls Try.prog 34 #[.int .u64 (x : Int)] w fun e w' => e = .returned (.int .i64 (uz x)) ∧ w = w' := by
  by_cases h : x % 2 = 0
  · have h2 : ((x : Int) % 2 == 0) = true := by simp; omega
    go_enter Try.func34, Try.ntmps34
    go_wp2
    go_ret
    exact ⟨ret_int (by unfold uz; omega), rfl⟩
  · have h2 : ((x : Int) % 2 == 0) = false := by simp; omega
    go_enter Try.func34, Try.ntmps34
    go_wp2
    go_ret
    exact ⟨ret_int (by unfold uz; omega), rfl⟩

set_option maxRecDepth 20000 in
set_option maxHeartbeats 400000 in
theorem refSize_any (x : Nat) (w : World) (hx : x < 18446744073709551616) :
    Calls Try.prog 31 #[.int .u64 (x : Int)] w fun e w' => e = .returned (.int .i64 ((enc x).length : Int)) ∧ w = w' := by
  go_enter Try.func31, Try.ntmps31
  go_wp2
  go_loop [0, 3] (fun a b => ∃ (f y m : Nat), a = .int .u64 (y : Int) ∧ b = .int .i64 (m : Int) ∧ y < 128 ^ (f + 1) ∧ f ≤ 9 ∧ y < 18446744073709551616 ∧ m ≤ 10 ∧ 1 ≤ m ∧ Hid (m - 1 + (encF (f + 1) y).length = (enc x).length)) (fun a _ => (intOf a).toNat)
  case atStart => exact ⟨9, x, 1, rfl, rfl, lt_pow10 hx, by omega, hx, by omega, by omega, by simp [enc, Hid]⟩
  case round =>
    obtain ⟨f, y, m, rfl, rfl, hy, hf, hy64, hm, hm1, HL⟩ := hrel
    have HY := Lib.hid hy
    clear hy
    by_cases hlt : y < 128
    · have hfin : (enc x).length = m := by have := HL.out; rw [encF_lt hlt] at this; simp at this; omega
      have HF := Lib.hid hfin
      clear hfin HL
      go_wp2
      go_ret
      exact ⟨ret_int (by rw [HF.out]), rfl⟩
    · have hp := pow_step HY.out hlt
      have hf1 := hp.2
      have HP := Lib.hid hp.1
      clear hp HY
      obtain ⟨f', rfl⟩ : ∃ f', f = f' + 1 := ⟨f - 1, by omega⟩
      have hlen : m + (encF (f' + 1) (y / 128)).length = (enc x).length := by have := HL.out; rw [encF_ge hlt] at this; simp at this; omega
      have h10 := enc_len x
      have hpos := encF_pos f' (y / 128)
      have hm9 : m ≤ 9 := by omega
      have HLL := Lib.hid hlen
      clear hlen HL hpos h10
      go_wp2
      go_round
      case rel => exact ⟨f', y / 128, m + 1, by go_num, by go_num, HP.out, by omega, by omega, by omega, by omega, by have := HLL.out; simpa [Hid] using this⟩
      case measure => simp [intOf]; omega
end Go.Proofs.Ytckklmepncibkaa
