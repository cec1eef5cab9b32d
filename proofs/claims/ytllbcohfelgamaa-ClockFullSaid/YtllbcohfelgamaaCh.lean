/- Walks: ClockFull. -/
import Derived.Test.YtllbcohfelgamaaProg
import Derived.Test.YtllbcohfelgamaaCg
namespace Go.Proofs.Ytllbcohfelgamaa
open Go.RowKit
set_option linter.unusedVariables false

theorem okT2 {a b : Int} (h : (0 ≤ a ∧ a ≤ 281474976710656) ∧ (0 ≤ b ∧ b ≤ 281474976710656)) : OkT [a, b] := by
  intro x hx; simp at hx; rcases hx with rfl | rfl <;> omega
theorem tick2_full {a b d : Int} (h : 281474976710656 - b < d) (hb : b ≤ 281474976710656) : tickF [a, b] 1 d = ([a, b], 0, 4) := by
  unfold tickF
  rw [if_neg (by simp), if_neg (by omega), if_pos (by simpa using h)]
theorem tick2_ok {a b d v : Int} (h : d ≤ 281474976710656 - b) (h0 : 0 ≤ d) (hv : b + d = v) : tickF [a, b] 1 d = ([a, v], v, 0) := by
  subst hv
  unfold tickF
  rw [if_neg (by simp), if_neg (by omega), if_neg (by simpa using h)]
  rfl
theorem until2_back {a b t : Int} (h : t < b) (h0 : 0 ≤ t) (hb : b ≤ 281474976710656) : untilF [a, b] 1 t = ([a, b], 0, 291) := by
  unfold untilF
  rw [if_neg (by simp), if_neg (by omega), if_pos (by simpa using h)]

set_option maxRecDepth 20000 in
set_option maxHeartbeats 1600000 in
theorem ClockFull_any (t : Nat) (d : Int) (w : World) (ht : t < 18446744073709551616) (hd : -9223372036854775808 ≤ d ∧ d ≤ 9223372036854775807) :
    Calls Try.prog 5 #[.int .u64 (t : Int), .int .i64 d] w fun e w' => e = .returned (.bool true) ∧ Below w.heap.size w w' := by
  obtain ⟨N, hN, hN2⟩ : ∃ N : Int, (t : Int) % 281474976710657 = N ∧ 0 ≤ N ∧ N ≤ 281474976710656 := ⟨_, rfl, by omega, by omega⟩
  obtain ⟨D1, hD1, hD1b⟩ : ∃ D : Int, (if d < 281474976710656 - N + 1 then 281474976710656 - N + 1 else d) = D ∧ 281474976710656 - N < D := ⟨_, rfl, by split <;> omega⟩
  obtain ⟨D2, hD2, hD2b⟩ : ∃ D : Int, (if d < 1 then 1 else d) = D ∧ 0 < D := ⟨_, rfl, by split <;> omega⟩
  obtain ⟨D3, hD3, hD3b⟩ : ∃ D : Int, (if 281474976710655 < N then 281474976710655 else N) = D ∧ 0 ≤ D ∧ D < 281474976710656 := ⟨_, rfl, by split <;> omega⟩
  have F1 := Lib.hid (tick2_full (a := 7) hD1b hN2.2)
  have F2 := Lib.hid (tick2_ok (a := 7) (b := N) (d := 281474976710656 - N) (v := 281474976710656) (by omega) (by omega) (by omega))
  have F3 := Lib.hid (tick2_ok (a := 7) (b := 281474976710656) (d := 0) (v := 281474976710656) (by omega) (by omega) (by omega))
  have F4 := Lib.hid (tick2_full (a := 7) (b := 281474976710656) (d := D2) (by omega) (by omega))
  have F5 := Lib.hid (until2_back (a := 7) (b := 281474976710656) (t := D3) hD3b.2 hD3b.1 (by omega))
  have HO := Lib.hid (okT2 (a := 7) (b := N) (by omega))
  have HT : Hid (OkT [7, 281474976710656]) := Lib.hid (okT2 (by omega))
  clear ht hd hD1b hD2b hD3b
  go_enter Try.func5, Try.ntmps5
  go_wp2_with (first
    | (go_at_call 11; refine (awake_any _).mono ?_; rintro e w1 ⟨rfl, b1⟩)
    | (go_at_call 16; refine (Load_any _ _ _ [7, N] _ (by exact sees_block (heap_alloc_new _ _) rfl (by decide) (by decide) ⟨[], rfl⟩) (by decide) HO.out).mono ?_; rintro e w2 ⟨p, g, c, rfl, h2, b2⟩; have hg : w1.heap.size ≤ g := (by have := h2.bg; simp at this; omega); have h2 := Lib.hid h2; have B2 := below_step (b1.alloc b1.size (.cells #[.int .i64 7, .int .i64 N] 3)) b2; have hwg := Nat.le_trans b1.size hg)
    | (go_at_call 14; refine (Tick_any _ _ _ _ _ _ _ _ _ h2.out (by decide) HO.out).mono ?_; rw [F1.out]; rintro e w3 ⟨rfl, h3, k3⟩; have h3 := Lib.hid h3; have B3 := B2.trans (k3.below hwg B2.size))
    | (go_at_call 14; refine (Tick_any _ _ _ _ _ _ _ _ _ h3.out (by decide) HO.out).mono ?_; rw [F2.out]; rintro e w4 ⟨rfl, h4, k4⟩; have h4 := Lib.hid h4; have B4 := B3.trans (k4.below hwg B3.size))
    | (go_at_call 14; refine (Tick_any _ _ _ _ _ _ _ _ _ h4.out (by decide) HT.out).mono ?_; rw [F3.out]; rintro e w5 ⟨rfl, h5, k5⟩; have h5 := Lib.hid h5; have B5 := B4.trans (k5.below hwg B4.size))
    | (go_at_call 14; refine (Tick_any _ _ _ _ _ _ _ _ _ h5.out (by decide) HT.out).mono ?_; rw [F4.out]; rintro e w6 ⟨rfl, h6, k6⟩; have h6 := Lib.hid h6; have B6 := B5.trans (k6.below hwg B5.size))
    | (go_at_call 17; refine (Until_any _ _ _ _ _ _ _ _ _ h6.out (by decide) HT.out).mono ?_; rw [F5.out]; rintro e w7 ⟨rfl, h7, k7⟩; have h7 := Lib.hid h7; have B7 := B6.trans (k7.below hwg B6.size))
    | (go_at_call 15; refine (All_any _ _ _ _ _ _ _ h7.out (by decide)).mono ?_; rintro e w8 ⟨A8, c8, rfl, o8, k8⟩; have o8 := Lib.hid (sees_own o8); have B8 := below_step B7 k8)
    | (go_at_call 18; refine (SameInts_any _ _ _ _ _ _ [7, 281474976710656] [7, 281474976710656] _ (by exact o8.out.below ((Below.refl _ _).alloc (Nat.le_refl _) _) (Nat.le_refl _)) (by exact sees_block (heap_alloc_new _ _) rfl (by decide) (by decide) ⟨[], rfl⟩)).mono ?_; rw [eqL_self]; rintro e w9 ⟨rfl, k9⟩; have B9 := below_step (B8.alloc B8.size (.cells #[.int .i64 7, .int .i64 281474976710656] 3)) k9))

  go_ret
  exact ⟨rfl, B9⟩
end Go.Proofs.Ytllbcohfelgamaa
