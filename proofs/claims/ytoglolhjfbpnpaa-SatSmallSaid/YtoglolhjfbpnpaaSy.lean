/- Walks: the reference's Number, Stopped, Times. -/
import Derived.Test.YtoglolhjfbpnpaaProg
import Derived.Test.YtoglolhjfbpnpaaSx
import Derived.Test.YtoglolhjfbpnpaaQ4
namespace Go.Proofs.Ytoglolhjfbpnpaa
open Go.RowKit
set_option linter.unusedVariables false

/-- The 64 bits from an index on, and what is beyond. -/
def low64 (V : Int) : Int := V % 18446744073709551616

theorem num_in (V : Int) (k : Nat) (h : k ≤ 63) : 0 ≤ V % 2 ^ k ∧ V % 2 ^ k < 9223372036854775808 := by
  have hp := pow_pos2 k
  have h3 : (2 : Int) ^ k ≤ 2 ^ 63 := by have := Nat.pow_le_pow_right (show 0 < 2 by decide) h; exact_mod_cast this
  have e : (2 : Int) ^ 63 = 9223372036854775808 := by decide
  have h1 := Int.emod_nonneg V (show (2 : Int) ^ k ≠ 0 by omega)
  have h2 := Int.emod_lt_of_pos V hp
  omega

set_option maxRecDepth 20000 in
set_option maxHeartbeats 800000 in
theorem Number_any (A : Option Addr) (n c : Nat) (l : List Int) (f : Nat) (w : World) (h : Sees w 1 A n c (l.map (Value.int .i64))) (bl : Bits l) (hn : n ≤ 100000) (hf : f ≤ 1000) (hfn : f ≤ n) :
    Calls Try.prog 26 #[.slice A n c, .int .i64 (f : Int)] w fun e w' => e = .returned (.tuple #[.int .u64 (val (l.drop f) % 18446744073709551616), .bool (decide (0 < val (l.drop (f + 64))))]) ∧ w = w' := by
  have hl := h.length
  have hn3 : (n : Int) ≤ 100000 := by omega
  have hf3 : (f : Int) ≤ 1000 := by omega
  have HB : Hid (n ≤ 100000 ∧ f ≤ 1000 ∧ l.length = n ∧ f ≤ n) := Lib.hid ⟨hn, hf, hl, hfn⟩
  clear hl hn hf hfn
  go_enter Try.func26, Try.ntmps26
  go_wp2
  go_loopw [6, 7, 8] (fun xv bv i wr => ∃ (j : Nat) (x : Int) (b : Bool), Hid (j ≤ n ∧ f ≤ j) ∧ xv = .int .u64 x ∧ bv = .bool b ∧ i = .int .i64 ((j : Int) - 1) ∧ Hid ((f + 64 ≤ j ∧ x = 0 ∧ b = decide (0 < val (l.drop j))) ∨ ∃ k, k ≤ 64 ∧ j + k = f + 64 ∧ x = val (l.drop j) % 2 ^ k ∧ b = decide (0 < val (l.drop (f + 64)))) ∧ w = wr) (fun _ _ i _ => ((intOf i) + 1 - (f : Int)).toNat)
  case atStart =>
    refine ⟨n, 0, false, Lib.hid ⟨Nat.le_refl _, HB.out.2.2.2⟩, rfl, rfl, rfl, Lib.hid ?_, rfl⟩
    have hl := HB.out.2.2.1
    have e1 : val (l.drop n) = 0 := by rw [List.drop_eq_nil_of_le (by omega)]; rfl
    by_cases hc : f + 64 ≤ n
    · exact .inl ⟨hc, rfl, by rw [e1]; rfl⟩
    · have e2 : val (l.drop (f + 64)) = 0 := by rw [List.drop_eq_nil_of_le (by omega)]; rfl
      exact .inr ⟨f + 64 - n, by have := HB.out.2.2.2; omega, by omega, by rw [e1]; simp, by rw [e2]; rfl⟩
  case round =>
    obtain ⟨j, x, b, HJ, rfl, rfl, rfl, HE, rfl⟩ := hrel
    by_cases hlt : f < j
    · obtain ⟨k, rfl⟩ : ∃ k, j = k + 1 := ⟨j - 1, by omega⟩
      have e0 : ((k + 1 : Nat) : Int) - 1 = (k : Int) := by omega
      rw [e0]
      have hkn : k < n := by have := HJ.out; omega
      obtain ⟨b1, o1, hA1, g1⟩ := h.int hkn
      cases hA1
      obtain ⟨y, hy⟩ : ∃ x, l.getD k 0 = x := ⟨_, rfl⟩
      have hyb := bl.at_ k
      rw [hy] at hyb g1
      have HKN := Lib.hid hkn
      have HFK : Hid (∃ d, k = f + d) := Lib.hid ⟨k - f, by omega⟩
      have hk3 : (k : Int) ≤ 100000 := by have := HB.out; omega
      have d1 : decide ((f : Int) ≤ (k : Int)) = true := by simp; omega
      have d1' : decide (f ≤ k) = true := by simp; omega
      have d3 : decide ((k : Int) < (n : Int)) = true := by simp; omega
      by_cases hge : f + 64 ≤ k
      · have d2 : decide ((f : Int) + 64 ≤ (k : Int)) = true := by simp; omega
        have d2' : decide (f + 64 ≤ k) = true := by simp; omega
        have hE : x = 0 ∧ b = decide (0 < val (l.drop (k + 1))) := by
          rcases HE.out with ⟨_, h1, h2⟩ | ⟨kk, h1, h2, _⟩
          · exact ⟨h1, h2⟩
          · omega
        have hV := drop_pos bl (k + 1)
        have hds := drop_step l k
        rw [hy] at hds
        obtain ⟨rfl, hb⟩ := hE
        have HS := Lib.hid (And.intro hge (And.intro hV (And.intro hds (And.intro hyb hb))))
        have HY2 := Lib.hid hyb
        clear hge hlt hb hV hds hy hyb
        have hy3 : 0 ≤ y ∧ y ≤ 1 := by have := HY2.out; omega
        cases b with
        | true =>
          go_wp2
          go_roundw
          case rel => exact ⟨k, 0, true, Lib.hid (by have := HKN.out; obtain ⟨d, hd⟩ := HFK.out; omega), rfl, rfl, by go_num, Lib.hid (.inl ⟨HS.out.1, rfl, by
              obtain ⟨h1, h2, h3, h4, h5⟩ := HS.out
              have h5 := of_decide_eq_true h5.symm
              rw [h3]; exact (decide_eq_true (by omega)).symm⟩), trivial⟩
          case measure => obtain ⟨d, hd⟩ := HFK.out; simp [intOf]; omega
        | false =>
          obtain ⟨y1, ey⟩ : ∃ y1 : Bool, (y == 1) = y1 := ⟨_, rfl⟩
          have EY := Lib.hid ey
          have ey2 : decide (y = 1) = y1 := ey
          clear ey
          go_wp2
          go_roundw
          case rel => exact ⟨k, 0, y1, Lib.hid (by have := HKN.out; obtain ⟨d, hd⟩ := HFK.out; omega), rfl, by first | rfl | (rw [EY.out]), by go_num, Lib.hid (.inl ⟨HS.out.1, rfl, by
              obtain ⟨h1, h2, h3, h4, h5⟩ := HS.out
              have h5 := of_decide_eq_false h5.symm
              rw [h3, ← EY.out]
              rcases h4 with rfl | rfl <;> simp <;> omega⟩), trivial⟩
          case measure => obtain ⟨d, hd⟩ := HFK.out; simp [intOf]; omega
      · have d2 : decide ((f : Int) + 64 ≤ (k : Int)) = false := by simp; omega
        have d2' : decide (f + 64 ≤ k) = false := by simp; omega
        obtain ⟨kk, hk1, hk2, hk4, hk5⟩ : ∃ kk, kk ≤ 63 ∧ k + 1 + kk = f + 64 ∧ x = val (l.drop (k + 1)) % 2 ^ kk ∧ b = decide (0 < val (l.drop (f + 64))) := by
          rcases HE.out with ⟨h0, h1, h2⟩ | ⟨kk, h1, h2, h3, h4⟩
          · have e : k + 1 = f + 64 := by omega
            exact ⟨0, by omega, by omega, by rw [h1]; simp, by rw [h2, e]⟩
          · exact ⟨kk, by omega, by omega, h3, h4⟩
        have hx3 := num_in (val (l.drop (k + 1))) kk hk1
        rw [← hk4] at hx3
        have hst := num_step (val (l.drop (k + 1))) y kk hyb (drop_pos bl (k + 1))
        have hds := drop_step l k
        rw [hy] at hds
        rw [← hds, ← hk4] at hst
        have HS := Lib.hid (And.intro hst (And.intro hk5 (And.intro hk1 (And.intro hk2 hge))))
        have hy3 : 0 ≤ y ∧ y ≤ 1 := by omega
        clear hst hk5 hk4 hk1 hk2 hge hlt hy hyb hds
        go_wp2
        go_roundw
        case rel => exact ⟨k, 2 * x + y, b, Lib.hid (by have := HKN.out; obtain ⟨d, hd⟩ := HFK.out; omega), by go_num, rfl, by go_num, Lib.hid (.inr ⟨kk + 1, by have := HS.out; omega, by have := HS.out; omega, HS.out.1.symm, HS.out.2.1⟩), trivial⟩
        case measure => obtain ⟨d, hd⟩ := HFK.out; simp [intOf]; omega
    · have hjf : j = f := by have := HJ.out; omega
      have d1 : decide ((f : Int) ≤ (j : Int) - 1) = false := by simp; omega
      have HJF := Lib.hid hjf
      clear hlt hjf
      have hj3 : (j : Int) ≤ 100000 := by have := HB.out; have := HJ.out; omega
      go_wp2
      go_ret2
      obtain rfl := HJF.out
      rcases HE.out with ⟨h0, _⟩ | ⟨kk, h1, h2, h3, h4⟩
      · omega
      · obtain rfl : kk = 64 := by omega
        have e : (2 : Int) ^ 64 = 18446744073709551616 := by decide
        rw [e] at h3
        rw [h3, h4]
        exact ⟨rfl, rfl⟩
end Go.Proofs.Ytoglolhjfbpnpaa
