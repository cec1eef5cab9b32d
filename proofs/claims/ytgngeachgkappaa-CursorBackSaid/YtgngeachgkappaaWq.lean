/- Walks: the reference's Read and Write (Vg's, Ve's). -/
import Derived.Test.YtgngeachgkappaaProg
import Derived.Test.YtgngeachgkappaaWe
import Derived.Test.YtgngeachgkappaaWn
namespace Go.Proofs.Ytgngeachgkappaa
open Go.RowKit
set_option linter.unusedVariables false

theorem wrap_u8_low (y : Nat) (h : y < 256) : IntKind.u8.wrap (y : Int) = (y : Int) := IntWalk.u8_in _ (by omega)

set_option maxRecDepth 20000 in
set_option maxHeartbeats 400000 in
theorem refWrite_any (x : Nat) (hx : x < 18446744073709551616) (w : World) :
    Calls Try.prog 46 #[.int .u64 (x : Int)] w fun e w' => ∃ v', e = .returned v' ∧ w'.ownsRow w.heap.size 5 1 v' (enc x).length ((enc x).map (Value.int .u8)) ∧ Below w.heap.size w w' := by
  go_enter Try.func46, Try.ntmps46
  go_wp2
  go_loopw [0, 3] (fun a v wr => ∃ (f y n c : Nat) (A : Option Addr) (ys : List Int), a = .int .u64 (y : Int) ∧ v = .slice A n c ∧ y < 18446744073709551616 ∧ Hid (y < 128 ^ (f + 1)) ∧ f ≤ 9 ∧ n ≤ 10 ∧ Hid (n = ys.length) ∧
      Hid (ys ++ encF (f + 1) y = enc x) ∧ wr.ownsRow w.heap.size 5 1 (.slice A n c) n (ys.map (Value.int .u8)) ∧ Below w.heap.size w wr) (fun a _ _ => (intOf a).toNat)
  case atStart => exact ⟨9, x, 0, 0, none, [], rfl, rfl, hx, lt_pow10 hx, by omega, by omega, rfl, rfl, World.ownsRow_nil _ _ _ _, Below.refl _ _⟩
  case round =>
    obtain ⟨f, y, n, c, A, ys, rfl, rfl, hy64, HY, hf, hn, HL, HE, ho, hb⟩ := hrel
    by_cases hlt : y < 128
    · have hfin : enc x = ys ++ [(y : Int)] := by rw [← HE.out, encF_lt hlt]
      have HF := Lib.hid hfin
      have hw8 := wrap_u8_low y (by omega)
      clear hfin
      go_wp2_with (at_builtin; refine wpList_app E_u8 rfl _ _ rfl rfl (ho.alloc _) rfl (Sees.one _ _ _) (ints1 _ [(y : Int)]) (by simp [maxLen]; omega) (by omega) (by have := hb.size; simp; omega) ?_; intro A4 c4 w4 hown4 hg4 hb4)
      go_ret
      refine ⟨_, rfl, ?_, (hb.alloc hb.size _).trans hb4⟩
      rw [HF.out]
      have := HL.out
      subst this
      simpa using hown4
    · have hp := pow_step HY.out hlt
      have hf1 := hp.2
      have HP := Lib.hid hp.1
      have hle : n + 2 ≤ 11 := by
        have h1 := congrArg List.length HE.out
        have h2 := enc_len x
        have h3 := HL.out
        have h4 := encF_pos f y
        obtain ⟨f', rfl⟩ : ∃ f', f = f' + 1 := ⟨f - 1, by omega⟩
        rw [encF_ge hlt] at h1
        have h5 := encF_pos f' (y / 128)
        simp at h1
        omega
      clear hp HY
      obtain ⟨f', rfl⟩ : ∃ f', f = f' + 1 := ⟨f - 1, by omega⟩
      have hnew : (ys ++ [((y % 128 + 128 : Nat) : Int)]) ++ encF (f' + 1) (y / 128) = enc x := by rw [← HE.out, encF_ge hlt]; simp
      have HN := Lib.hid hnew
      clear hnew HE
      have hsame : ((y % 128 + 128 : Nat) : Int) = 128 + (y : Int) % 128 := by omega
      rw [hsame] at HN
      clear hsame
      go_wp2_with (at_builtin; refine wpList_app E_u8 rfl _ _ rfl rfl (ho.alloc _) rfl (Sees.one _ _ _) (one1 rfl) (by simp [maxLen]; omega) (by omega) (by have := hb.size; simp; omega) ?_; intro A4 c4 w4 hown4 hg4 hb4)
      go_roundw
      case rel =>
        have hL := HL.out
        exact ⟨f', y / 128, n + 1, c4, A4, ys ++ [128 + (y : Int) % 128], by go_num, rfl, by omega, HP.out, by omega, by omega, by simp [Hid, hL], HN.out, by simpa using hown4, (hb.alloc hb.size _).trans hb4⟩
      case measure => simp [intOf]; omega

set_option maxRecDepth 20000 in
set_option maxHeartbeats 800000 in
theorem refRead_any (A : Option Addr) (n c : Nat) (l : List Int) (w : World) (h : Sees w 1 A n c (l.map (Value.int .u8))) (hl : Bytes l) :
    Calls Try.prog 62 #[.slice A n c] w fun e w' => e = .returned (.tuple #[.int .u64 (rd l).1, .int .i64 (rd l).2.1, .int .i64 (rd l).2.2]) ∧ w = w' := by
  have hlen := h.length
  have hm : n ≤ 9223372036854775807 := Nat.le_trans h.cap h.capm
  have HLEN := Lib.hid hlen
  clear hlen
  go_enter Try.func62, Try.ntmps62
  go_wp2
  go_loop [5, 6, 7] (fun x t i => ∃ (k : Nat) (acc T : Int), i = .int .i64 k ∧ k ≤ 9 ∧ k ≤ n ∧ x = .int .u64 acc ∧ t = .int .u64 T ∧ 0 ≤ acc ∧ acc < T ∧ Hid (T = 128 ^ k) ∧ Hid (rdGo (l.drop k) k acc = rd l)) (fun _ _ i => 10 - (intOf i).toNat)
  case atStart => exact ⟨0, 0, 1, rfl, by omega, by omega, rfl, rfl, by omega, by omega, rfl, rfl⟩
  case round =>
    obtain ⟨k, acc, T, rfl, hk9, hkn, rfl, rfl, hacc, haT, HT, HR⟩ := hrel
    by_cases hlt : k < n
    · have hkl : k < l.length := by rw [HLEN.out]; exact hlt
      have hR := HR.out
      rw [drop_one hkl] at hR
      obtain ⟨b1, o1, rfl, g1⟩ := h.int hlt
      have hbd := hl.at_ hkl
      generalize l.getD k 0 = x at g1 hbd hR
      have HRR := Lib.hid hR
      have hx0 := hbd.1
      have hx1 := hbd.2
      have hkne : ((k : Int) == (n : Int)) = false := by simp; omega
      clear hR HR hkl hbd
      by_cases h9 : k = 9 ∧ 1 < x
      · have hfin : rd l = (0, 0, 11) := by rw [← HRR.out, rdGo, if_pos h9]
        have HF := Lib.hid hfin
        obtain ⟨rfl, h9x⟩ := h9
        clear hfin HRR
        go_wp2
        go_ret3
        exact ⟨by rw [HF.out]; rfl, rfl⟩
      · by_cases h0 : x = 0 ∧ 0 < k
        · have hfin : rd l = (0, 0, 12) := by rw [← HRR.out, rdGo, if_neg h9, if_pos (by omega), if_pos h0]
          have HF := Lib.hid hfin
          obtain ⟨rfl, hk0⟩ := h0
          clear hfin HRR h9
          by_cases e9 : k = 9
          · subst e9
            go_wp2
            go_ret3
            exact ⟨by rw [HF.out]; rfl, rfl⟩
          · have e9' : ((k : Int) == 9) = false := by simp; omega
            go_wp2
            go_ret3
            exact ⟨by rw [HF.out]; rfl, rfl⟩
        · have ha9 : k = 9 → x ≤ 1 := fun e => by
            rcases Int.lt_or_le 1 x with h' | h'
            · exact (h9 ⟨e, h'⟩).elim
            · exact h'
          have ha0 : 0 < k → x ≠ 0 := fun e e' => h0 ⟨e', e⟩
          have HK := Lib.hid (And.intro h9 h0)
          have HA9 := Lib.hid ha9
          have HA0 := Lib.hid ha0
          clear h9 h0 ha9 ha0
          by_cases h128 : x < 128
          · have hfin : rd l = (acc + x * T, (k : Int) + 1, 0) := by rw [← HRR.out, rdGo, if_neg HK.out.1, if_pos h128, if_neg HK.out.2, HT.out]
            have HF := Lib.hid hfin
            have hb := mul_bd acc x T k HT.out hacc haT hx0 (by omega) hk9 HA9.out
            have hb1 := hb.1
            have hb2 := hb.2
            clear hfin HRR hb
            by_cases e9 : k = 9
            · subst e9
              have hx9 := HA9.out rfl
              by_cases ex : x = 0
              · exact (HA0.out (by omega) ex).elim
              · have ex' : (x == 0) = false := by simpa using ex
                go_wp2
                go_ret3
                exact ⟨by rw [HF.out]; rfl, rfl⟩
            · have e9' : ((k : Int) == 9) = false := by simp; omega
              by_cases ex : x = 0
              · have hk0 : k = 0 := by
                  rcases Nat.eq_zero_or_pos k with h' | h'
                  · exact h'
                  · exact (HA0.out h' ex).elim
                subst hk0 ex
                rw [Nat.add_zero] at g1
                go_wp2
                go_ret3
                exact ⟨by rw [HF.out]; simp, rfl⟩
              · have ex' : (x == 0) = false := by simpa using ex
                go_wp2
                go_ret3
                exact ⟨by rw [HF.out]; rfl, rfl⟩
          · have hk8 : k ≤ 8 := by
              rcases Nat.lt_or_ge k 9 with h' | h'
              · omega
              · have := HA9.out (by omega)
                omega
            have hfin : rdGo (l.drop (k + 1)) (k + 1) (acc + (x - 128) * T) = rd l := by rw [← HRR.out, rdGo, if_neg HK.out.1, if_neg h128, HT.out]
            have HF := Lib.hid hfin
            have hb := mul_bd acc (x - 128) T k HT.out hacc haT (by omega) (by omega) hk9 (fun e => by omega)
            have hb1 := hb.1
            have hb2 := hb.2
            have hT8 := pow_le8 k hk8
            rw [← HT.out] at hT8
            have hlt2 : acc + (x - 128) * T < T * 128 := by
              have : (x - 128) * T ≤ 127 * T := Int.mul_le_mul_of_nonneg_right (by omega) (by omega)
              omega
            have hTT : T * 128 = 128 ^ (k + 1) := by rw [Int.pow_succ, HT.out]
            have HTT := Lib.hid hTT
            have e9' : ((k : Int) == 9) = false := by simp; omega
            clear hfin HRR hb hTT
            go_wp2
            go_round
            case rel =>
              exact ⟨k + 1, acc + (x - 128) * T, T * 128, by go_num, by omega, by omega, rfl, rfl, by omega, hlt2, HTT.out, HF.out⟩
            case measure => simp [intOf]; omega
    · obtain rfl : k = n := by omega
      have hfin : rd l = (0, 0, 10) := by rw [← HR.out, List.drop_of_length_le (by rw [HLEN.out]; omega), rdGo]
      have HF := Lib.hid hfin
      clear hfin HR
      go_wp2
      go_ret3
      exact ⟨by rw [HF.out]; rfl, rfl⟩
end Go.Proofs.Ytgngeachgkappaa
