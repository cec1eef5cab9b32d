/- Walks: CursorMost. -/
import Derived.Test.YtgngeachgkappaaProg
import Derived.Test.YtgngeachgkappaaWj
namespace Go.Proofs.Ytgngeachgkappaa
open Go.RowKit
set_option linter.unusedVariables false

theorem rd_enc0 {x : Nat} (hx : x < 18446744073709551616) : rd ((enc x).drop 0) = ((x : Int), ((enc x).length : Int), 0) := by
  have := rd_enc hx []
  rwa [List.append_nil] at this
theorem enc_bytes' (x : Nat) : Bytes (enc x) := enc_bytes x

set_option maxRecDepth 20000 in
set_option maxHeartbeats 1600000 in
theorem CursorMost_any (x m : Nat) (w : World) (hx : x < 18446744073709551616) (hm : m < 18446744073709551616) :
    Calls Try.prog 5 #[.int .u64 (x : Int), .int .u64 (m : Int)] w fun e w' => e = .returned (.bool true) ∧ Below w.heap.size w w' := by
  have HX := Lib.hid hx
  have HL := Lib.hid (enc_len x)
  clear hx hm
  obtain ⟨N, hN⟩ : ∃ N, (enc x).length = N := ⟨_, rfl⟩
  have HR := Lib.hid (rd_enc0 HX.out)
  have HN := Lib.hid hN
  rw [hN] at HL HR
  have HN8 : Hid (N ≤ 100000000) := Lib.hid (by have := HL.out; omega)
  clear hN
  by_cases hle : x ≤ m
  · have d1 : decide ((x : Int) ≤ (m : Int)) = true := by simpa using hle
    have d1' : decide (x ≤ m) = true := by simpa using hle
    have HLE := Lib.hid hle
    clear hle
    go_enter Try.func5, Try.ntmps5
    go_wp2_with (first
      | (go_at_call 20; refine (End_any _ _ _ _ _ _ _ h3.out HN8.out).mono ?_; rw [if_neg (by omega)]; rintro e w5 ⟨rfl, k5⟩; have b5 := below_step b4 k5)
      | (go_at_call 23; refine (Number_ok _ _ _ _ _ _ _ _ _ _ _ h2.out (enc_bytes' x) HN8.out HR.out rfl (by exact_mod_cast HLE.out)).mono ?_; rintro e w4 ⟨rfl, h3⟩; have b4 := b3.trans (h3.below hp b3.size); have h3 : Hid (Rdr w4 p A2 N c2 (enc x) N) := Lib.hid (by have := h3.1; simpa using this))
      | (go_at_call 16; refine (NewReader_any _ _ _ (enc x) _ (sees_own o2.out) HN8.out).mono ?_; rintro e w3 ⟨p, A2, c2, rfl, h2, hp0, k3⟩; have h2 := Lib.hid h2; have hp : w.heap.size ≤ p := Nat.le_trans b2.size hp0; have b3 := below_step b2 k3)
      | (go_at_call 22; refine (Write_any x HX.out _).mono ?_; rw [HN.out]; rintro e w2 ⟨v2, rfl, o2, k2⟩; obtain ⟨A1, c1, rfl⟩ := own_form o2; have o2 := Lib.hid o2; have b2 := below_step b1 k2)
      | (go_at_call 11; refine (awake_any _).mono ?_; rintro e w1 ⟨rfl, b1⟩))
    go_ret
    exact ⟨rfl, b5⟩
  · have d1 : decide ((x : Int) ≤ (m : Int)) = false := by simpa using hle
    have d1' : decide (x ≤ m) = false := by simpa using hle
    have HLE := Lib.hid hle
    clear hle
    go_enter Try.func5, Try.ntmps5
    go_wp2_with (first
      | (go_at_call 18; refine (At_any _ _ _ _ _ _ _ h3.out).mono ?_; rintro e w5 ⟨rfl, k5⟩; have b5 := below_step b4 k5; have h5 := Lib.hid (h3.out.below k5); have s5 := Lib.hid (s4.out.below k5 (Nat.le_refl _)))
      | (go_at_call 23; refine (Number_most _ _ _ _ _ _ _ _ _ _ _ h2.out (enc_bytes' x) HN8.out HR.out rfl (by have := HLE.out; omega)).mono ?_; rintro e w4 ⟨rfl, h3⟩; have b4 := b3.trans (h3.below hp b3.size); have s4 := Lib.hid ((sees_own o3.out).keeps h3.2 (own_off' o2.out hp0)); have h3 := Lib.hid h3.1)
      | (go_at_call 16; refine (NewReader_any _ _ _ (enc x) _ (sees_own o2.out) HN8.out).mono ?_; rintro e w3 ⟨p, A2, c2, rfl, h2, hp0, k3⟩; have h2 := Lib.hid h2; have hp : w.heap.size ≤ p := Nat.le_trans b2.size hp0; have b3 := below_step b2 k3; have o3 := Lib.hid (own_below o2.out k3 (Nat.le_refl _)))
      | (go_at_call 22; refine (Write_any x HX.out _).mono ?_; rw [HN.out]; rintro e w2 ⟨v2, rfl, o2, k2⟩; obtain ⟨A1, c1, rfl⟩ := own_form o2; have o2 := Lib.hid o2; have b2 := below_step b1 k2)
      | (go_at_call 11; refine (awake_any _).mono ?_; rintro e w1 ⟨rfl, b1⟩))
    have hNi : (N : Int) ≤ 10 := by have := HL.out; omega
    go_loopw [52] (fun i wr => ∃ j : Nat, i = .int .i64 (j : Int) ∧ j ≤ N ∧ Hid (Rdr wr p A2 N c2 (enc x) j) ∧ Hid (Sees wr 1 A1 N c1 ((enc x).map (Value.int .u8))) ∧ Below w.heap.size w wr) (fun i _ => N - (intOf i).toNat)
    case atStart => exact ⟨0, rfl, Nat.zero_le _, h5, s5, b5⟩
    case round =>
      obtain ⟨j, rfl, hj, hr, hs, hb⟩ := hrel
      by_cases hlt : j < N
      · go_wp2_with (go_at_call 24; refine (Byte_ok _ _ _ _ _ _ _ hr.out HN8.out hlt).mono ?_; rintro e w6 ⟨rfl, h6⟩; have b6 := hb.trans (h6.below hp hb.size); have s6 := hs.out.keeps h6.2 (own_off' o2.out hp0); obtain ⟨q1, q2, qA, g6⟩ := s6.int hlt; cases qA; have s6 := Lib.hid s6; have h6 := Lib.hid h6.1; generalize (enc x).getD j 0 = y at g6)
        go_roundw
        case rel => exact ⟨j + 1, by go_num, by omega, h6, s6, b6⟩
        case measure => simp [intOf]; omega
      · obtain rfl : j = N := by omega
        go_wp2_with (go_at_call 20; refine (End_any _ _ _ _ _ _ _ hr.out HN8.out).mono ?_; rw [if_neg (by omega)]; rintro e w6 ⟨rfl, k6⟩; have b6 := below_step hb k6)
        go_ret
        exact ⟨rfl, b6⟩
end Go.Proofs.Ytgngeachgkappaa
