/- Walks: CursorCounts. -/
import Derived.Test.YtgngeachgkappaaProg
import Derived.Test.YtgngeachgkappaaWl
import Derived.Test.YtgngeachgkappaaWk
import Derived.Test.YtgngeachgkappaaQ8
namespace Go.Proofs.Ytgngeachgkappaa
open Go.RowKit
set_option linter.unusedVariables false

theorem zeros_bytes (m : Nat) : Bytes (List.replicate m 0) := fun y hy => by rw [List.eq_of_mem_replicate hy]; omega
theorem Bytes_lit {K : Int} (p n c at_ k : Nat) (hK : K = (k : Int)) (A : Option Addr) (bs : List Int) (w : World) (h : Rdr w p A n c bs at_) (hn : n ≤ 100000000) (hk : at_ + k ≤ n) :
    Calls Try.prog 29 #[.pointer (some ⟨p, 0, none⟩), .int .i64 K] w fun e w' => ∃ A' c', e = .returned (.tuple #[.slice A' k c', .int .i64 0]) ∧ w'.ownsRow w.heap.size 5 1 (.slice A' k c') k (((bs.drop at_).take k).map (Value.int .u8)) ∧ Did p n c (at_ + k) A bs w w' := by
  subst hK; exact Bytes_ok p n c at_ k A bs w h hn hk
theorem Number_to (p n c at_ q m : Nat) (most x : Int) (A : Option Addr) (bs : List Int) (w : World) (h : Rdr w p A n c bs at_) (hb : Bytes bs) (hn : n ≤ 100000000) (hx : rd (bs.drop at_) = (x, (m : Int), 0)) (hq : at_ + m = q) (hm : x ≤ most) :
    Calls Try.prog 23 #[.pointer (some ⟨p, 0, none⟩), .int .u64 most] w fun e w' => e = .returned (.tuple #[.int .u64 x, .int .i64 0]) ∧ Did p n c q A bs w w' := by
  subst hq; exact Number_ok p n c at_ most x m 0 A bs w h hb hn hx rfl hm
theorem mul_step {j x s left : Nat} (hj : j < x) (h : x ≤ left / s) (hs : 1 ≤ s) : j * s + s ≤ left := by
  have h1 : (j + 1) * s ≤ left / s * s := Nat.mul_le_mul_right _ (by omega)
  have h2 := Nat.div_mul_le_self left s
  rw [Nat.add_mul, Nat.one_mul] at h1
  omega

set_option maxRecDepth 20000 in
set_option maxHeartbeats 1600000 in
theorem CursorCounts_any (x a16 : Nat) (size : Int) (w : World) (hx : x < 18446744073709551616) (ha : a16 < 65536) (hs : -9223372036854775808 ≤ size ∧ size ≤ 9223372036854775807) :
    Calls Try.prog 8 #[.int .u64 (x : Int), .int .i64 size, .int .u16 (a16 : Int)] w fun e w' => e = .returned (.bool true) ∧ Below w.heap.size w w' := by
  obtain ⟨s, hsz, hs1, hs2⟩ : ∃ s : Nat, (if size < 1 then 1 else size) = (s : Int) ∧ 1 ≤ s ∧ s ≤ 9223372036854775807 := by
    by_cases h : size < 1
    · exact ⟨1, by rw [if_pos h]; rfl, by omega, by omega⟩
    · exact ⟨size.toNat, by rw [if_neg h]; omega, by omega, by omega⟩
  obtain ⟨left, hleft, hl4⟩ : ∃ left : Nat, (a16 : Int) % 401 = (left : Int) ∧ left ≤ 400 := ⟨a16 % 401, by omega, by omega⟩
  have HX := Lib.hid hx
  obtain ⟨N, hN⟩ : ∃ N, (enc x).length = N := ⟨_, rfl⟩
  have HL : Hid (N ≤ 10) := Lib.hid (by rw [← hN]; exact enc_len x)
  have HN := Lib.hid hN
  have HR : Hid (rd ((enc x ++ List.replicate left 0).drop 0) = ((x : Int), (N : Int), 0)) := Lib.hid (by rw [List.drop_zero, rd_enc hx, hN])
  have HBS : Hid (Bytes (enc x ++ List.replicate left 0)) := Lib.hid (fun y hy => by
    rcases List.mem_append.1 hy with h' | h'
    · exact enc_bytes x y h'
    · exact zeros_bytes _ y h')
  obtain ⟨bs, hbs⟩ : ∃ bs, enc x ++ List.replicate left 0 = bs := ⟨_, rfl⟩
  rw [hbs] at HR HBS
  have HB := Lib.hid hbs
  have HNL : Hid (N + left ≤ 100000000) := Lib.hid (by have := HL.out; omega)
  have HS := Lib.hid (And.intro hs1 (And.intro hs2 hl4))
  have hl2 : (left : Int) ≤ 400 := by omega
  have ha2 : (a16 : Int) ≤ 65535 := by omega
  have hss : (s : Int) ≤ 9223372036854775807 := by omega
  have hs0 : ¬ (s : Int) = 0 := by omega
  have hs3 : ¬ (s : Int) = -1 := by omega
  have hs4 : (1 : Int) ≤ (s : Int) := by omega
  obtain ⟨q, hq, hqs, hq4⟩ : ∃ q : Nat, (left : Int) / (s : Int) = (q : Int) ∧ left / s = q ∧ (q : Int) ≤ 400 := ⟨left / s, rfl, rfl, by have := Nat.div_le_self left s; omega⟩
  have HQS := Lib.hid hqs
  clear hqs
  have hx2 : (x : Int) ≤ 18446744073709551615 := by omega
  clear hx hN hs1 hs2 hl4 hs hbs
  by_cases h1 : 9223372036854775807 < x
  · have d1 : decide ((9223372036854775807 : Int) < (x : Int)) = true := by simp; omega
    have H1 := Lib.hid h1
    clear h1
    go_enter Try.func8, Try.ntmps8
    go_wp2_with (first
      | (go_at_call 18; refine (At_any _ _ _ _ _ _ _ h5.out).mono ?_; rintro e w6 ⟨rfl, k6⟩; have b6 := below_step b5 k6)
      | (go_at_call 32; refine (Count_fail _ _ _ _ _ _ 21 _ _ _ h4.out (by decide) (by decide) (by omega) (by decide) (fun w1 h1 => Number_most _ _ _ _ _ _ _ _ _ _ w1 h1 HBS.out HNL.out HR.out rfl (by have := H1.out; omega))).mono ?_; rintro e w5 ⟨rfl, h5⟩; have b5 := b4.trans (h5.below hp b4.size); have h5 := Lib.hid h5.1)
      | (go_at_call 16; refine (NewReader_any _ _ _ bs _ (sees_own o3.out) HNL.out).mono ?_; rintro e w4 ⟨p, A4, c4, rfl, h4, hp4, k4⟩; have h4 := Lib.hid h4; have hp : w.heap.size ≤ p := Nat.le_trans b3.size hp4; have b4 := below_step b3 k4)
      | (at_builtin; refine wpList_appZ E_u8 Try.underlying3 rfl _ _ rfl rfl o2.out (m := left) rfl rfl (by have := HL.out; have := HS.out; simp [maxLen]; omega) (by have := HL.out; have := HS.out; omega) k2.size ?_; intro A3 c3 w3 o3 k3; rw [HB.out] at o3; have o3 := Lib.hid o3; have b3 := b2.trans (k3.mono b1.size))
      | (go_at_call 22; refine (Write_any x HX.out _).mono ?_; rw [HN.out]; rintro e w2 ⟨v2, rfl, o2, k2⟩; obtain ⟨A1, c1, rfl⟩ := own_form o2; have o2 := Lib.hid o2; have b2 := below_step b1 k2)
      | (go_at_call 11; refine (awake_any _).mono ?_; rintro e w1 ⟨rfl, b1⟩))
    go_ret
    exact ⟨rfl, b6⟩
  · have d1 : decide ((9223372036854775807 : Int) < (x : Int)) = false := by simp; omega
    have hx3 : (x : Int) ≤ 9223372036854775807 := by omega
    clear h1 hx2
    by_cases h2 : x ≤ q
    · have hx4 : (x : Int) ≤ 400 := by have := HS.out; omega
      have d2 : decide ((q : Int) < (x : Int)) = false := by simp; omega
      have d2' : decide (q < x) = false := by simp; omega
      have H2 : Hid (x ≤ left / s) := Lib.hid (by rw [HQS.out]; exact h2)
      have H2N : Hid ((x : Int) ≤ ((N + left - N : Nat) : Int) / (s : Int)) := Lib.hid (by rw [show N + left - N = left by omega, hq]; omega)
      have HX4 := Lib.hid hx4
      have HX3 := Lib.hid hx3
      have HS5 : Hid ((s : Int) ≤ 9223372036854775807 ∧ 1 ≤ (s : Int)) := Lib.hid ⟨hss, hs4⟩
      clear h2
      go_enter Try.func8, Try.ntmps8
      go_wp2_with (first
        | (go_at_call 19; refine (Left_any _ _ _ _ _ _ _ h5.out HNL.out).mono ?_; rintro e w6 ⟨rfl, k6⟩; have b6 := below_step b5 k6; have h6 := Lib.hid (h5.out.below k6); have s6 := Lib.hid (s5.out.below k6 (Nat.le_refl _)))
        | (go_at_call 32; refine (Count_in _ _ _ _ N _ _ (x : Int) _ _ _ h4.out HNL.out (by decide) (by decide) HS5.out.2 HS5.out.1 (Int.natCast_nonneg _) HX3.out (fun w1 h1 => Number_to _ _ _ _ _ N _ _ _ _ w1 h1 HBS.out HNL.out HR.out (Nat.zero_add _) HX3.out)).mono ?_; rintro e w5 h5; rcases h5 with ⟨hbad, _⟩ | ⟨_, rfl, h5⟩; exact absurd hbad (Int.not_lt.2 H2N.out); have b5 := b4.trans (h5.below hp b4.size); have s5 := Lib.hid ((sees_own o4.out).keeps h5.2 (own_off' o3.out hp4)); have h5 := Lib.hid h5.1)
        | (go_at_call 16; refine (NewReader_any _ _ _ bs _ (sees_own o3.out) HNL.out).mono ?_; rintro e w4 ⟨p, A4, c4, rfl, h4, hp4, k4⟩; have h4 := Lib.hid h4; have hp : w.heap.size ≤ p := Nat.le_trans b3.size hp4; have b4 := below_step b3 k4; have o4 := Lib.hid (own_below o3.out k4 (Nat.le_refl _)))
        | (at_builtin; refine wpList_appZ E_u8 Try.underlying3 rfl _ _ rfl rfl o2.out (m := left) rfl rfl (by have := HL.out; have := HS.out; simp [maxLen]; omega) (by have := HL.out; have := HS.out; omega) k2.size ?_; intro A3 c3 w3 o3 k3; rw [HB.out] at o3; have o3 := Lib.hid o3; have b3 := b2.trans (k3.mono b1.size))
        | (go_at_call 22; refine (Write_any x HX.out _).mono ?_; rw [HN.out]; rintro e w2 ⟨v2, rfl, o2, k2⟩; obtain ⟨A1, c1, rfl⟩ := own_form o2; have o2 := Lib.hid o2; have b2 := below_step b1 k2)
        | (go_at_call 11; refine (awake_any _).mono ?_; rintro e w1 ⟨rfl, b1⟩))
      have HSL : Hid (1 ≤ s) := Lib.hid HS.out.1
      clear d2 d2'
      go_loopw [80] (fun i wr => ∃ j : Nat, i = .int .i64 (j : Int) ∧ j ≤ x ∧ Hid (Rdr wr p A4 (N + left) c4 bs (N + j * s)) ∧ Hid (Sees wr 1 A3 (N + left) c3 (bs.map (Value.int .u8))) ∧ Below w.heap.size w wr) (fun i _ => x - (intOf i).toNat)
      case atStart => exact ⟨0, rfl, Nat.zero_le _, by simpa using h6, s6, b6⟩
      case round =>
        obtain ⟨j, rfl, hj, hr, hse, hb⟩ := hrel
        by_cases hlt : j < x
        · have HJ : Hid (N + j * s + s ≤ N + left) := Lib.hid (by have := mul_step hlt H2.out HSL.out; omega)
          go_wp2_with (go_at_call 29; refine (Bytes_ok _ _ _ _ _ _ _ _ hr.out HNL.out HJ.out).mono ?_; rintro e w7 ⟨A7, c7, rfl, o7, h7⟩; have b7 := hb.trans (h7.below hp hb.size); have s7 := Lib.hid (hse.out.keeps h7.2 (own_off' o3.out hp4)); have h7 : Hid (Rdr w7 p A4 (N + left) c4 bs (N + (j + 1) * s)) := Lib.hid (by have := h7.1; rwa [Nat.add_assoc, ← Nat.succ_mul] at this))
          go_roundw
          case rel => exact ⟨j + 1, by go_num, by omega, h7, s7, b7⟩
          case measure => simp [intOf]; omega
        · obtain rfl : j = x := by omega
          clear hlt
          by_cases h0 : j = 0
          · have e0 : (j : Int) = 0 := by omega
            have HJ0 := Lib.hid h0
            clear h0
            go_wp2_with (first
              | (go_at_call 32; refine (Count_bad _ _ _ _ _ _ _ _ _ h8.out (Or.inl (by omega))).mono ?_; rintro e w9 ⟨rfl, h9⟩; have b9 := b8.trans (h9.below hp8 b8.size))
              | (go_at_call 16; refine (NewReader_any _ _ _ bs _ hse.out HNL.out).mono ?_; rintro e w8 ⟨p8, A8, c8, rfl, h8, hq8, k8⟩; have h8 := Lib.hid h8; have hp8 : w.heap.size ≤ p8 := Nat.le_trans hb.size hq8; have b8 := below_step hb k8))
            go_ret
            exact ⟨rfl, b9⟩
          · have e0 : (0 : Int) < (j : Int) := by omega
            have e1 : ((j : Int) == 0) = false := by simp; omega
            have HJ1 : Hid ((j : Int) - 1 < (j : Int) ∧ 0 ≤ (j : Int) - 1 ∧ (j : Int) - 1 ≤ 9223372036854775807) := Lib.hid ⟨by omega, by omega, by omega⟩
            clear h0
            go_wp2_with (first
              | (go_at_call 18; refine (At_any _ _ _ _ _ _ _ h9.out).mono ?_; rintro e w10 ⟨rfl, k10⟩; have b10 := below_step b9 k10)
              | (go_at_call 32; refine (Count_fail _ _ _ _ _ _ 21 _ _ _ h8.out HJ1.out.2.1 HJ1.out.2.2 HS5.out.2 (by decide) (fun w1 h1 => Number_most _ _ _ _ _ _ _ _ _ _ w1 h1 HBS.out HNL.out HR.out rfl HJ1.out.1)).mono ?_; rintro e w9 ⟨rfl, h9⟩; have b9 := b8.trans (h9.below hp8 b8.size); have h9 := Lib.hid h9.1)
              | (go_at_call 16; refine (NewReader_any _ _ _ bs _ hse.out HNL.out).mono ?_; rintro e w8 ⟨p8, A8, c8, rfl, h8, hq8, k8⟩; have h8 := Lib.hid h8; have hp8 : w.heap.size ≤ p8 := Nat.le_trans hb.size hq8; have b8 := below_step hb k8))
            go_ret
            exact ⟨rfl, b10⟩
    · have d2 : decide ((q : Int) < (x : Int)) = true := by simp; omega
      have d2' : decide (q < x) = true := by simp; omega
      have H2N : Hid (((N + left - N : Nat) : Int) / (s : Int) < (x : Int)) := Lib.hid (by rw [show N + left - N = left by omega, hq]; omega)
      have HX3 := Lib.hid hx3
      have HS5 : Hid ((s : Int) ≤ 9223372036854775807 ∧ 1 ≤ (s : Int)) := Lib.hid ⟨hss, hs4⟩
      clear h2
      go_enter Try.func8, Try.ntmps8
      go_wp2_with (first
        | (go_at_call 18; refine (At_any _ _ _ _ _ _ _ h5.out).mono ?_; rintro e w6 ⟨rfl, k6⟩; have b6 := below_step b5 k6)
        | (go_at_call 32; refine (Count_in _ _ _ _ N _ _ (x : Int) _ _ _ h4.out HNL.out (by decide) (by decide) HS5.out.2 HS5.out.1 (Int.natCast_nonneg _) HX3.out (fun w1 h1 => Number_to _ _ _ _ _ N _ _ _ _ w1 h1 HBS.out HNL.out HR.out (Nat.zero_add _) HX3.out)).mono ?_; rintro e w5 h5; rcases h5 with ⟨_, rfl, h5⟩ | ⟨hbad, _⟩; rotate_left; exact absurd H2N.out (Int.not_lt.2 hbad); have b5 := b4.trans (h5.below hp b4.size); have h5 := Lib.hid h5.1)
        | (go_at_call 16; refine (NewReader_any _ _ _ bs _ (sees_own o3.out) HNL.out).mono ?_; rintro e w4 ⟨p, A4, c4, rfl, h4, hp4, k4⟩; have h4 := Lib.hid h4; have hp : w.heap.size ≤ p := Nat.le_trans b3.size hp4; have b4 := below_step b3 k4)
        | (at_builtin; refine wpList_appZ E_u8 Try.underlying3 rfl _ _ rfl rfl o2.out (m := left) rfl rfl (by have := HL.out; have := HS.out; simp [maxLen]; omega) (by have := HL.out; have := HS.out; omega) k2.size ?_; intro A3 c3 w3 o3 k3; rw [HB.out] at o3; have o3 := Lib.hid o3; have b3 := b2.trans (k3.mono b1.size))
        | (go_at_call 22; refine (Write_any x HX.out _).mono ?_; rw [HN.out]; rintro e w2 ⟨v2, rfl, o2, k2⟩; obtain ⟨A1, c1, rfl⟩ := own_form o2; have o2 := Lib.hid o2; have b2 := below_step b1 k2)
        | (go_at_call 11; refine (awake_any _).mono ?_; rintro e w1 ⟨rfl, b1⟩))
      go_ret
      exact ⟨rfl, b6⟩
end Go.Proofs.Ytgngeachgkappaa
