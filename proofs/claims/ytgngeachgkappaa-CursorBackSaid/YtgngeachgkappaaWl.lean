/- Walks: CursorFixed. -/
import Derived.Test.YtgngeachgkappaaProg
import Derived.Test.YtgngeachgkappaaWj
namespace Go.Proofs.Ytgngeachgkappaa
open Go.RowKit
set_option linter.unusedVariables false

theorem FixedW_okB (base p n c lim k x : Nat) (A : Option Addr) (bs : List Int) (w : World) (h : Wtr w base p A n c bs lim) (h1 : 1 ≤ k) (h8 : k ≤ 8) (hx : x < 256 ^ k) (hx2 : x < 18446744073709551616) (hm : n + k ≤ lim) (hB : base ≤ w.heap.size) {m : Nat} {ys : List Int} (hm2 : n + k = m) (hy : bs ++ leB k x = ys) :
    Calls Try.prog 25 #[.pointer (some ⟨p, 0, none⟩), .int .u64 (x : Int), .int .i64 (k : Int)] w fun e w' => ∃ A' c', e = .returned (.int .i64 0) ∧ Wtr w' base p A' m c' ys lim ∧ Below base w w' := by
  subst hm2 hy
  exact (FixedW_ok base p n c lim k x A bs w h h1 h8 hx hx2 hm hB).mono fun e w' ⟨A', c', he, h2, k2, _⟩ => ⟨A', c', he, h2, h.both k2 hB⟩
theorem BytesW_okB (base p n c lim m cx : Nat) (A X : Option Addr) (bs xs : List Int) (w : World) (h : Wtr w base p A n c bs lim) (hx : Sees w 1 X m cx (xs.map (Value.int .u8))) (hm : n + m ≤ lim) (hB : base ≤ w.heap.size) :
    Calls Try.prog 26 #[.pointer (some ⟨p, 0, none⟩), .slice X m cx] w fun e w' => ∃ A' c', e = .returned (.int .i64 0) ∧ Wtr w' base p A' (n + m) c' (bs ++ xs) lim ∧ Below base w w' :=
  (BytesW_ok base p n c lim m cx A X bs xs w h hx hm hB).mono fun e w' ⟨A', c', he, h2, k2, _⟩ => ⟨A', c', he, h2, h.both k2 hB⟩
theorem NewWriter_of {K : Int} (N : Nat) (w : World) (hK : K = (N : Int)) (h : N ≤ 16777216) :
    Calls Try.prog 12 #[.int .i64 K] w fun e w' => ∃ p, e = .returned (.tuple #[.pointer (some ⟨p, 0, none⟩), .int .i64 0]) ∧ Wtr w' w.heap.size p none 0 0 [] N ∧ Below w.heap.size w w' := by
  subst hK; exact NewWriter_ok N w h

theorem wrap_pow {k : Nat} (h : k < 8) : IntKind.u64.wrap ((2 : Int) ^ (8 * k)) = ((256 ^ k : Nat) : Int) := by
  have e : (2 : Int) ^ (8 * k) = ((256 ^ k : Nat) : Int) := by
    rw [show (256 : Nat) ^ k = 2 ^ (8 * k) by rw [Nat.pow_mul], Int.natCast_pow]; rfl
  have h2 : 256 ^ k ≤ 256 ^ 7 := Nat.pow_le_pow_right (by decide) (by omega)
  have h2 : 256 ^ k ≤ 72057594037927936 := Nat.le_trans h2 (by decide)
  rw [e]
  generalize 256 ^ k = P at h2
  exact IntWalk.u64_in _ (by omega)
theorem wrap_big {k x : Nat} (h : k < 8) (hx : 256 ^ k ≤ x) : decide (IntKind.u64.wrap ((2 : Int) ^ (8 * k)) ≤ (x : Int)) = true := by
  rw [wrap_pow h]
  generalize 256 ^ k = P at hx
  simpa using hx
theorem wrap_small {k x : Nat} (h : k < 8) (hx : x < 256 ^ k) : decide (IntKind.u64.wrap ((2 : Int) ^ (8 * k)) ≤ (x : Int)) = false := by
  rw [wrap_pow h]
  generalize 256 ^ k = P at hx
  simpa using hx
theorem leB_at {k x j : Nat} (r : List Int) (h : j < k) : (leB k x ++ r).getD j 0 = ((x / 256 ^ j % 256 : Nat) : Int) := by
  rw [List.getD, List.getElem?_append_left (by rw [leB_len]; exact h)]
  simp [leB, h]

set_option maxRecDepth 20000 in
set_option maxHeartbeats 1600000 in
theorem CursorFixed_any (x n8 : Nat) (A : Option Addr) (m0 c : Nat) (l : List Int) (w : World) (hx : x < 18446744073709551616) (hn8 : n8 < 256) (h : Sees w 1 A m0 c (l.map (Value.int .u8))) (hl : Bytes l) :
    Calls Try.prog 6 #[.int .u64 (x : Int), .int .u8 (n8 : Int), .slice A m0 c] w fun e w' => e = .returned (.bool true) ∧ Below w.heap.size w w' := by
  obtain ⟨k, hk, hk1, hk8⟩ : ∃ k : Nat, 1 + (n8 : Int) % 8 = (k : Int) ∧ 1 ≤ k ∧ k ≤ 8 := ⟨1 + n8 % 8, by omega, by omega, by omega⟩
  obtain ⟨m, hm0, hm20, hmin, hmc⟩ := min_is m0 20
  have hmi : (if (20 : Int) < (m0 : Int) then (20 : Int) else (m0 : Int)) = (m : Int) := by split <;> omega
  have hmi' : (if 20 < m0 then (20 : Int) else (m0 : Int)) = (m : Int) := by split <;> omega
  have hcut := fun w => run_cutr E_u8 A m0 c m (Nat.le_trans hm0 h.cap) w
  have hs := h.pre hm0
  rw [Nat.mul_one, ← List.map_take] at hs
  have hb := (show Bytes (l.take m) from fun y hy => hl y (List.mem_of_mem_take hy))
  generalize l.take m = r at hs hb
  have HS := Lib.hid hs
  have HB := Lib.hid hb
  have HX := Lib.hid hx
  have HK := Lib.hid (And.intro hk1 (And.intro hk8 hm20))
  have hm2 : (m : Int) ≤ 20 := by omega
  have hk2 : (k : Int) ≤ 8 := by omega
  clear hs hb h hl hk1 hk8 hm0 hm20 hmin hmc hx
  by_cases hbig : k < 8 ∧ 256 ^ k ≤ x
  · have HBG := Lib.hid hbig
    have d1 : decide ((k : Int) < 8) = true := by have := hbig.1; simp; omega
    have d5 := wrap_big hbig.1 hbig.2
    clear hbig
    go_enter Try.func6, Try.ntmps6
    go_wp2_with (first
      | (go_at_call 14; refine (LenW_any _ _ _ _ _ _ _ _ h2.out).mono ?_; rintro e w4 ⟨rfl, rfl⟩)
      | (go_at_call 25; refine (FixedW_big _ _ _ _ _ _ _ _ _ _ h2.out HK.out.1 HBG.out.1 HBG.out.2 HX.out).mono ?_; rintro e w3 ⟨rfl, rfl⟩)
      | (go_at_call 12; refine (NewWriter_of (k + m) _ (by omega) (by have := HK.out; omega)).mono ?_; rintro e w2 ⟨p, rfl, h2, k2⟩; have h2 := Lib.hid h2; have b2 := below_step b1 k2)
      | (go_at_call 11; refine (awake_any _).mono ?_; rintro e w1 ⟨rfl, b1⟩))
    go_ret
    exact ⟨rfl, b2⟩
  · have hsm : x < 256 ^ k := by
      rcases Nat.lt_or_ge x (256 ^ k) with h' | h'
      · exact h'
      · have : ¬ k < 8 := fun e => hbig ⟨e, h'⟩
        have : k = 8 := by have := HK.out; omega
        subst this
        exact HX.out
    have HSM := Lib.hid hsm
    obtain ⟨t, ht, htk⟩ : ∃ t, decide ((k : Int) < 8) = t ∧ (t = true → k < 8) := ⟨_, rfl, fun h => by have := of_decide_eq_true h; omega⟩
    have d5 : t = true → decide (IntKind.u64.wrap ((2 : Int) ^ (8 * k)) ≤ (x : Int)) = false := fun h => wrap_small (htk h) hsm
    have HLB := Lib.hid (leB_len k x)
    have HT0 := Lib.hid (le_leB k x hsm)
    have HT1 : Hid (((leB k x ++ r).drop 0).take k = leB k x) := Lib.hid (by rw [List.drop_zero, List.take_append_of_le_length (by rw [leB_len]; exact Nat.le_refl _), List.take_of_length_le (by rw [leB_len]; exact Nat.le_refl _)])
    have HT2 : Hid (((leB k x ++ r).drop k).take m = r) := Lib.hid (by
      have e : (leB k x ++ r).drop k = r := by have := List.drop_left (l₁ := leB k x) (l₂ := r); rwa [leB_len] at this
      rw [e, List.take_of_length_le (by rw [HS.out.length]; exact Nat.le_refl _)])
    have HBS : Hid (Bytes (leB k x ++ r)) := Lib.hid (fun y hy => by
      rcases List.mem_append.1 hy with h' | h'
      · exact leB_bytes k x y h'
      · exact HB.out y h')
    clear hbig hsm htk
    cases t
    rotate_left
    have d6 := d5 rfl
    all_goals
      clear d5
      go_enter Try.func6, Try.ntmps6
      go_wp2_with (first
        | (go_at_call 15; refine (OutW_any _ _ _ _ _ _ _ _ h5.out).mono ?_; rintro e w6 ⟨A6, c6, rfl, o6, k6⟩; have s6 := Lib.hid (sees_own o6); have b6 := below_step b5 k6)
        | (go_at_call 27; refine (ByteW_full _ _ _ _ _ _ _ _ _ h4.out (by omega)).mono ?_; rintro e w5 ⟨rfl, k5⟩; have b5 := below_step b4 k5; have h5 := Lib.hid (h4.out.below k5))
        | (go_at_call 26; refine (BytesW_okB _ _ _ _ _ _ _ _ _ _ r _ h3.out (by exact HS.out.below b3 (Nat.le_refl _)) (by omega) (Nat.le_trans k2.size k3.size)).mono ?_; rintro e w4 ⟨A4, c4, rfl, h4, k4⟩; have b4 := b3.trans (k4.mono b1.size); have h4 := Lib.hid h4)
        | (go_at_call 25; refine (FixedW_okB _ _ _ _ _ _ _ _ _ _ h2.out HK.out.1 HK.out.2.1 HSM.out HX.out (by omega) k2.size (m := k) (ys := leB k x) (by omega) rfl).mono ?_; rintro e w3 ⟨A3, c3, rfl, h3, k3⟩; have b3 := b2.trans (k3.mono b1.size); have h3 := Lib.hid h3)
        | (go_at_call 12; refine (NewWriter_of (k + m) _ (by omega) (by have := HK.out; omega)).mono ?_; rintro e w2 ⟨p, rfl, h2, k2⟩; have h2 := Lib.hid h2; have b2 := below_step b1 k2)
        | (go_at_call 11; refine (awake_any _).mono ?_; rintro e w1 ⟨rfl, b1⟩))
      have HSL : Hid (Sees w6 1 A6 (k + m) c6 ((leB k x ++ r).map (Value.int .u8))) := Lib.hid (by have := s6.out; simpa using this)
      have HD := Lib.hid (Nat.div_one x)
      go_loop [11, 82] (fun y i => ∃ (j y0 : Nat), i = .int .i64 (j : Int) ∧ j ≤ k ∧ y = .int .u64 (y0 : Int) ∧ Hid (y0 = x / 256 ^ j) ∧ y0 < 18446744073709551616) (fun _ i => k - (intOf i).toNat)
      case atStart => exact ⟨0, x, rfl, Nat.zero_le _, rfl, Lib.hid (by simp), HX.out⟩
      case round =>
        obtain ⟨j, y0, rfl, hj, rfl, HY, hy0⟩ := hrel
        by_cases hlt : j < k
        · obtain ⟨q1, q2, qA, g6⟩ := HSL.out.int (k := j) (by omega)
          cases qA
          rw [leB_at r hlt, ← HY.out] at g6
          have hv : IntKind.u8.wrap (y0 : Int) = ((y0 % 256 : Nat) : Int) := by simp [IntKind.wrap, IntKind.bits, IntKind.signed]
          generalize ((y0 % 256 : Nat) : Int) = v at g6 hv
          go_wp2
          go_round
          case rel =>
            refine ⟨j + 1, y0 / 256, by go_num, by omega, ?_, Lib.hid ?_, by omega⟩
            · go_num
            · rw [HY.out, Nat.div_div_eq_div_mul, Nat.pow_succ]
          case measure => simp [intOf]; omega
        · obtain rfl : j = k := by omega
          clear hlt
          go_wp2_with (first
            | (go_at_call 30; refine (SameBytes_any _ _ _ _ _ _ r r _ (by exact sees_own o9.out) (by exact HS.out.below b9 (Nat.le_refl _))).mono ?_; rw [eqL_self]; rintro e w10 ⟨rfl, k10⟩; have b10 := below_step b9 k10)
            | (go_at_call 29; refine (Bytes_ok _ _ _ _ _ _ _ _ h8.out (by have := HK.out; omega) (Nat.le_refl _)).mono ?_; rintro e w9 ⟨A9, c9, rfl, o9, h9⟩; have b9 := b8.trans (h9.below hp b8.size); have o9 := Lib.hid (show w9.ownsRow w8.heap.size 5 1 (.slice A9 m c9) m (r.map (Value.int .u8)) from (by rw [HT2.out] at o9; exact o9)))
            | (go_at_call 28; refine (Fixed_ok _ _ _ _ _ _ _ _ h7.out HBS.out (by have := HK.out; omega) HK.out.1 HK.out.2.1 (by omega)).mono ?_; rw [HT1.out, HT0.out]; rintro e w8 ⟨rfl, h8⟩; have b8 := b7.trans (h8.below hp b7.size); have h8 : Hid (Rdr w8 p2 A7 (j + m) c7 (leB j x ++ r) j) := Lib.hid (by have := h8.1; simpa using this))
            | (go_at_call 16; refine (NewReader_any _ _ _ (leB j x ++ r) _ HSL.out (by have := HK.out; omega)).mono ?_; rintro e w7 ⟨p2, A7, c7, rfl, h7, hp7, k7⟩; have h7 := Lib.hid h7; have hp : w.heap.size ≤ p2 := Nat.le_trans b6.size hp7; have b7 := below_step b6 k7))
          go_ret
          exact ⟨rfl, b10⟩
end Go.Proofs.Ytgngeachgkappaa
