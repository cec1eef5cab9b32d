/- Walks: the reference's Read. -/
import Derived.Test.YtckklmepncibkaaProg
import Derived.Test.YtckklmepncibkaaVf
namespace Go.Proofs.Ytckklmepncibkaa
open Go.RowKit
set_option linter.unusedVariables false

theorem pow_le9 (k : Nat) (h : k ≤ 9) : (1 : Int) ≤ 128 ^ k ∧ (128 : Int) ^ k ≤ 9223372036854775808 := by
  have h1 : (128 : Nat) ^ k ≤ 128 ^ 9 := Nat.pow_le_pow_right (by decide) h
  have e9 : (128 : Nat) ^ 9 = 9223372036854775808 := by decide
  rw [e9] at h1
  have h2 : 1 ≤ (128 : Nat) ^ k := Nat.one_le_pow _ _ (by decide)
  have e : ((128 ^ k : Nat) : Int) = (128 : Int) ^ k := by simp
  omega
theorem pow_le8 (k : Nat) (h : k ≤ 8) : (128 : Int) ^ k ≤ 72057594037927936 := by
  have h1 : (128 : Nat) ^ k ≤ 128 ^ 8 := Nat.pow_le_pow_right (by decide) h
  have e8 : (128 : Nat) ^ 8 = 72057594037927936 := by decide
  rw [e8] at h1
  have e : ((128 ^ k : Nat) : Int) = (128 : Int) ^ k := by simp
  omega
/-- What a byte adds, in bounds. -/
theorem mul_bd (a x T : Int) (k : Nat) (hT : T = 128 ^ k) (h0 : 0 ≤ a) (ha : a < T) (hx0 : 0 ≤ x) (hx : x ≤ 127) (hk : k ≤ 9) (h9 : k = 9 → x ≤ 1) : 0 ≤ x * T ∧ a + x * T ≤ 18446744073709551615 := by
  have h1 := pow_le9 k hk
  rw [← hT] at h1
  refine ⟨Int.mul_nonneg hx0 (by omega), ?_⟩
  by_cases e : k = 9
  · have hx1 := h9 e
    have : x * T ≤ 1 * T := Int.mul_le_mul_of_nonneg_right hx1 (by omega)
    omega
  · have h8 := pow_le8 k (by omega)
    rw [← hT] at h8
    have : x * T ≤ 127 * T := Int.mul_le_mul_of_nonneg_right hx (by omega)
    omega

set_option maxRecDepth 20000 in
set_option maxHeartbeats 800000 in
theorem refRead_any (A : Option Addr) (n c : Nat) (l : List Int) (w : World) (h : Sees w 1 A n c (l.map (Value.int .u8))) (hl : Bytes l) :
    Calls Try.prog 36 #[.slice A n c] w fun e w' => e = .returned (.tuple #[.int .u64 (rd l).1, .int .i64 (rd l).2.1, .int .i64 (rd l).2.2]) ∧ w = w' := by
  have hlen := h.length
  have hm : n ≤ 9223372036854775807 := Nat.le_trans h.cap h.capm
  have HLEN := Lib.hid hlen
  clear hlen
  go_enter Try.func36, Try.ntmps36
  go_wp2
  go_loop [5, 6, 7] (fun x t i => ∃ (k : Nat) (acc T : Int), i = .int .i64 k ∧ k ≤ 9 ∧ k ≤ n ∧ x = .int .u64 acc ∧ t = .int .u64 T ∧ 0 ≤ acc ∧ acc < T ∧ Hid (T = 128 ^ k) ∧ Hid (rdGo (l.drop k) k acc = rd l)) (fun _ _ i => 10 - (intOf i).toNat)
  case atStart => exact ⟨0, 0, 1, rfl, by omega, by omega, rfl, rfl, by omega, by omega, rfl, rfl⟩
  case round =>
    obtain ⟨k, acc, T, rfl, hk9, hkn, rfl, rfl, hacc, haT, HT, HR⟩ := hrel
    by_cases hlt : k < n
    · have hkl : k < l.length := by rw [HLEN.out]; exact hlt
      have hR := HR.out
      rw [drop_one hkl] at hR
      obtain ⟨b1, o1, rfl, g1⟩ := h.int hlt
      have hbd := hl.at_ hkl
      generalize l.getD k 0 = x at g1 hbd hR
      have HRR := Lib.hid hR
      have hx0 := hbd.1
      have hx1 := hbd.2
      have hkne : ((k : Int) == (n : Int)) = false := by simp; omega
      clear hR HR hkl hbd
      by_cases h9 : k = 9 ∧ 1 < x
      · have hfin : rd l = (0, 0, 11) := by rw [← HRR.out, rdGo, if_pos h9]
        have HF := Lib.hid hfin
        obtain ⟨rfl, h9x⟩ := h9
        clear hfin HRR
        go_wp2
        go_ret3
        exact ⟨by rw [HF.out]; rfl, rfl⟩
      · by_cases h0 : x = 0 ∧ 0 < k
        · have hfin : rd l = (0, 0, 12) := by rw [← HRR.out, rdGo, if_neg h9, if_pos (by omega), if_pos h0]
          have HF := Lib.hid hfin
          obtain ⟨rfl, hk0⟩ := h0
          clear hfin HRR h9
          by_cases e9 : k = 9
          · subst e9
            go_wp2
            go_ret3
            exact ⟨by rw [HF.out]; rfl, rfl⟩
          · have e9' : ((k : Int) == 9) = false := by simp; omega
            go_wp2
            go_ret3
            exact ⟨by rw [HF.out]; rfl, rfl⟩
        · have ha9 : k = 9 → x ≤ 1 := fun e => by
            rcases Int.lt_or_le 1 x with h' | h'
            · exact (h9 ⟨e, h'⟩).elim
            · exact h'
          have ha0 : 0 < k → x ≠ 0 := fun e e' => h0 ⟨e', e⟩
          have HK := Lib.hid (And.intro h9 h0)
          have HA9 := Lib.hid ha9
          have HA0 := Lib.hid ha0
          clear h9 h0 ha9 ha0
          by_cases h128 : x < 128
          · have hfin : rd l = (acc + x * T, (k : Int) + 1, 0) := by rw [← HRR.out, rdGo, if_neg HK.out.1, if_pos h128, if_neg HK.out.2, HT.out]
            have HF := Lib.hid hfin
            have hb := mul_bd acc x T k HT.out hacc haT hx0 (by omega) hk9 HA9.out
            have hb1 := hb.1
            have hb2 := hb.2
            clear hfin HRR hb
            by_cases e9 : k = 9
            · subst e9
              have hx9 := HA9.out rfl
              by_cases ex : x = 0
              · exact (HA0.out (by omega) ex).elim
              · have ex' : (x == 0) = false := by simpa using ex
                go_wp2
                go_ret3
                exact ⟨by rw [HF.out]; rfl, rfl⟩
            · have e9' : ((k : Int) == 9) = false := by simp; omega
              by_cases ex : x = 0
              · have hk0 : k = 0 := by
                  rcases Nat.eq_zero_or_pos k with h' | h'
                  · exact h'
                  · exact (HA0.out h' ex).elim
                subst hk0 ex
                rw [Nat.add_zero] at g1
                go_wp2
                go_ret3
                exact ⟨by rw [HF.out]; simp, rfl⟩
              · have ex' : (x == 0) = false := by simpa using ex
                go_wp2
                go_ret3
                exact ⟨by rw [HF.out]; rfl, rfl⟩
          · have hk8 : k ≤ 8 := by
              rcases Nat.lt_or_ge k 9 with h' | h'
              · omega
              · have := HA9.out (by omega)
                omega
            have hfin : rdGo (l.drop (k + 1)) (k + 1) (acc + (x - 128) * T) = rd l := by rw [← HRR.out, rdGo, if_neg HK.out.1, if_neg h128, HT.out]
            have HF := Lib.hid hfin
            have hb := mul_bd acc (x - 128) T k HT.out hacc haT (by omega) (by omega) hk9 (fun e => by omega)
            have hb1 := hb.1
            have hb2 := hb.2
            have hT8 := pow_le8 k hk8
            rw [← HT.out] at hT8
            have hlt2 : acc + (x - 128) * T < T * 128 := by
              have : (x - 128) * T ≤ 127 * T := Int.mul_le_mul_of_nonneg_right (by omega) (by omega)
              omega
            have hTT : T * 128 = 128 ^ (k + 1) := by rw [Int.pow_succ, HT.out]
            have HTT := Lib.hid hTT
            have e9' : ((k : Int) == 9) = false := by simp; omega
            clear hfin HRR hb hTT
            go_wp2
            go_round
            case rel =>
              exact ⟨k + 1, acc + (x - 128) * T, T * 128, by go_num, by omega, by omega, rfl, rfl, by omega, hlt2, HTT.out, HF.out⟩
            case measure => simp [intOf]; omega
    · obtain rfl : k = n := by omega
      have hfin : rd l = (0, 0, 10) := by rw [← HR.out, List.drop_of_length_le (by rw [HLEN.out]; omega), rdGo]
      have HF := Lib.hid hfin
      clear hfin HR
      go_wp2
      go_ret3
      exact ⟨by rw [HF.out]; rfl, rfl⟩
end Go.Proofs.Ytckklmepncibkaa
