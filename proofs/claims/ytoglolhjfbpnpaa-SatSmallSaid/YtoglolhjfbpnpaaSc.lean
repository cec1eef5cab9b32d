/- Walks: halves, Wide. -/
import Derived.Test.YtoglolhjfbpnpaaProg
import Derived.Test.YtoglolhjfbpnpaaSb
import Derived.LoopN
import Derived.BigQuiet
namespace Go.Proofs.Ytoglolhjfbpnpaa
open Go.RowKit
set_option linter.unusedVariables false

theorem low32 (x : Nat) (h : x < 18446744073709551616) : bits .and .u64 (x : Int) 4294967295 = ((x % 4294967296 : Nat) : Int) := by
  have h1 := u64_and_nat x 4294967295 h (by omega)
  have h2 : x &&& 4294967295 = x % 4294967296 := Nat.and_two_pow_sub_one_eq_mod x 32
  rw [h2] at h1
  exact h1

set_option maxRecDepth 20000 in
theorem halves_any (x : Nat) (w : World) (h : x < 18446744073709551616) :
    Calls Try.prog 33 #[.int .u64 (x : Int)] w fun e w' => e = .returned (.agg #[.int .u64 ((x % 4294967296 : Nat) : Int), .int .u64 ((x / 4294967296 : Nat) : Int)]) ∧ Below w.heap.size w w' := by
  have hand := low32 x h
  go_enter Try.func33, Try.ntmps33
  go_wp2
  refine bodyPost_ret (results_cell_row rfl _ _ _ _ _ _ _ rfl (heap_alloc_new _ _) Try.underlying46 rfl (by kernel_rfl)) rfl ?_
  exact ⟨by simp, (Below.refl _ _).alloc (Nat.le_refl _) _⟩

/-- What lies in the blocks of Wide: the halves, the upper and the lower part of what has been added so far. -/
structure St (w : World) (g x0 x1 y0 y1 hi lo : Nat) : Prop where
  x : w.heap[g]? = some (.cells #[.int .u64 (x0 : Int), .int .u64 (x1 : Int)] 46 (0, 0))
  y : w.heap[g + 1]? = some (.cells #[.int .u64 (y0 : Int), .int .u64 (y1 : Int)] 46 (0, 0))
  high : w.heap[g + 1 + 1]? = some (.cells #[.int .u64 (hi : Int)] 22 (0, 0))
  low : w.heap[g + 1 + 1 + 1]? = some (.cells #[.int .u64 (lo : Int)] 22 (0, 0))
  small : lo < 18446744073709551616

theorem St.cells {w : World} {g x0 x1 y0 y1 hi lo : Nat} (S : St w g x0 x1 y0 y1 hi lo) :
    w.cell? ⟨g, 0, none⟩ = some (.int .u64 (x0 : Int)) ∧ w.cell? ⟨g, 1, none⟩ = some (.int .u64 (x1 : Int)) ∧ w.cell? ⟨g + 1, 0, none⟩ = some (.int .u64 (y0 : Int)) ∧ w.cell? ⟨g + 1, 1, none⟩ = some (.int .u64 (y1 : Int)) ∧
      w.cell? ⟨g + 1 + 1, 0, none⟩ = some (.int .u64 (hi : Int)) ∧ w.cell? ⟨g + 1 + 1 + 1, 0, none⟩ = some (.int .u64 (lo : Int)) :=
  ⟨cell_of_row _ _ _ _ _ _ S.x, cell_of_row _ _ _ _ _ _ S.x, cell_of_row _ _ _ _ _ _ S.y, cell_of_row _ _ _ _ _ _ S.y, cell_of_row _ _ _ _ _ _ S.high, cell_of_row _ _ _ _ _ _ S.low⟩
theorem St.drewN {w : World} {g x0 x1 y0 y1 hi lo : Nat} (S : St w g x0 x1 y0 y1 hi lo) (n : Nat) : St (w.drewN n) g x0 x1 y0 y1 hi lo := ⟨S.x, S.y, S.high, S.low, S.small⟩

theorem add_st (g x0 x1 y0 y1 hi lo h l : Nat) (w : World) (S : St w g x0 x1 y0 y1 hi lo) (q2 : l < 18446744073709551616)
    (q3 : hi * 18446744073709551616 + lo + h * 18446744073709551616 + l < 340282366920938463463374607431768211456) :
    Calls Try.prog 34 #[.int .u64 (h : Int), .int .u64 (l : Int), .pointer (some ⟨g + 1 + 1 + 1, 0, none⟩), .pointer (some ⟨g + 1 + 1, 0, none⟩)] w fun e w' => e = .returned (.tuple #[]) ∧
      ∃ hi' lo' : Nat, Hid (hi' * 18446744073709551616 + lo' = hi * 18446744073709551616 + lo + h * 18446744073709551616 + l) ∧ St w' g x0 x1 y0 y1 hi' lo' ∧ Below g w w' := by
  have q1 := S.small
  refine (add_any (g + 1 + 1 + 1) (g + 1 + 1) hi lo h l w (by omega) S.low S.high q1 q2 (by omega)).mono ?_
  rintro e w' ⟨rfl, h1, h2, h3⟩
  have hm : min (g + 1 + 1 + 1) (g + 1 + 1) = g + 1 + 1 := by omega
  rw [hm] at h3
  exact ⟨rfl, _, _, Lib.hid (by omega), ⟨(h3.block _ (by omega)).trans S.x, (h3.block _ (by omega)).trans S.y, h2, h1, Nat.mod_lt _ (by decide)⟩, h3.mono (by omega)⟩

theorem add_st2 (g x0 x1 y0 y1 hi lo h l V c V' : Nat) (H L : Int) (w : World) (hH : H = (h : Int)) (hL : L = (l : Int)) (S : St w g x0 x1 y0 y1 hi lo) (q2 : l < 18446744073709551616)
    (hV : Hid (hi * 18446744073709551616 + lo = V)) (hc : Hid (h * 18446744073709551616 + l = c)) (hv : Hid (V + c = V')) (q3 : V' < 340282366920938463463374607431768211456) :
    Calls Try.prog 34 #[.int .u64 H, .int .u64 L, .pointer (some ⟨g + 1 + 1 + 1, 0, none⟩), .pointer (some ⟨g + 1 + 1, 0, none⟩)] w fun e w' => e = .returned (.tuple #[]) ∧
      ∃ hi' lo' : Nat, Hid (hi' * 18446744073709551616 + lo' = V') ∧ St w' g x0 x1 y0 y1 hi' lo' ∧ Below g w w' := by
  subst hH hL
  have e1 := hV.out
  have e2 := hc.out
  have e3 := hv.out
  refine (add_st g x0 x1 y0 y1 hi lo h l w S q2 (by rw [e1, Nat.add_assoc, e2, e3]; exact q3)).mono ?_
  rintro e w' ⟨rfl, hi', lo', E, S', hb⟩
  exact ⟨rfl, hi', lo', Lib.hid (by rw [E.out, e1, Nat.add_assoc, e2, e3]), S', hb⟩

theorem mul_parts (x0 x1 y0 y1 : Nat) : (x1 * 4294967296 + x0) * (y1 * 4294967296 + y0) = x1 * y1 * 18446744073709551616 + x0 * y1 * 4294967296 + x1 * y0 * 4294967296 + x0 * y0 := by
  rw [Nat.add_mul, Nat.mul_add, Nat.mul_add]
  have e1 : x1 * 4294967296 * (y1 * 4294967296) = x1 * y1 * 18446744073709551616 := by
    rw [Nat.mul_mul_mul_comm]
  have e2 : x1 * 4294967296 * y0 = x1 * y0 * 4294967296 := Nat.mul_right_comm _ _ _
  have e3 : x0 * (y1 * 4294967296) = x0 * y1 * 4294967296 := (Nat.mul_assoc _ _ _).symm
  omega

/-- The halves of two numbers, and the parts of their product. -/
theorem parts (a b : Nat) : ∃ x0 x1 y0 y1 : Nat, a % 4294967296 = x0 ∧ a / 4294967296 = x1 ∧ b % 4294967296 = y0 ∧ b / 4294967296 = y1 := ⟨_, _, _, _, rfl, rfl, rfl, rfl⟩

theorem divmod_of (hi lo X : Nat) (h : hi * 18446744073709551616 + lo = X) (hl : lo < 18446744073709551616) : X / 18446744073709551616 = hi ∧ X % 18446744073709551616 = lo := by omega

theorem shifted (p : Nat) (hp : p ≤ 18446744065119617025) : ∃ d s : Nat, (p : Int) / 4294967296 = (d : Int) ∧ IntKind.u64.wrap ((p : Int) * 4294967296) = (s : Int) ∧ d * 18446744073709551616 + s = p * 4294967296 ∧ s < 18446744073709551616 ∧ d < 4294967296 := by
  refine ⟨p / 4294967296, p * 4294967296 % 18446744073709551616, rfl, ?_, by omega, by omega, by omega⟩
  simp [IntKind.wrap, IntKind.signed, IntKind.bits]

set_option maxRecDepth 20000 in
set_option maxHeartbeats 1600000 in
theorem Wide_any (a b : Nat) (w : World) (ha : a < 18446744073709551616) (hb : b < 18446744073709551616) :
    Calls Try.prog 15 #[.int .u64 (a : Int), .int .u64 (b : Int)] w fun e w' => e = .returned (.tuple #[.int .u64 ((a * b / 18446744073709551616 : Nat) : Int), .int .u64 ((a * b % 18446744073709551616 : Nat) : Int)]) ∧ Below w.heap.size w w' := by
  obtain ⟨x0, x1, y0, y1, e1, e2, e3, e4⟩ := parts a b
  have HA := Lib.hid (And.intro e1 e2)
  have HB := Lib.hid (And.intro e3 e4)
  clear e1 e2 e3 e4
  go_enter Try.func15, Try.ntmps15
  go_wp2_with (first
    | (go_at_call 33; refine (halves_any _ _ (by first | exact ha | exact hb)).mono ?_; (first
        | (rw [HA.out.1, HA.out.2]; rintro e w1 ⟨rfl, hb1⟩)
        | (rw [HB.out.1, HB.out.2]; rintro e w2 ⟨rfl, hb2⟩))))
  have hbx0 : x0 ≤ 4294967295 := by rw [← HA.out.1]; omega
  have hbx1 : x1 ≤ 4294967295 := by rw [← HA.out.2]; omega
  have hby0 : y0 ≤ 4294967295 := by rw [← HB.out.1]; omega
  have hby1 : y1 ≤ 4294967295 := by rw [← HB.out.2]; omega
  have hB0 : Below w.heap.size w ((((w2.alloc (.cells #[.int .u64 (x0 : Int), .int .u64 (x1 : Int)] 46)).alloc (.cells #[.int .u64 (y0 : Int), .int .u64 (y1 : Int)] 46)).alloc (.cells #[.int .u64 0] 22)).alloc (.cells #[.int .u64 0] 22)) :=
    (below_step hb1 hb2).trans ((objs_below [.cells #[.int .u64 (x0 : Int), .int .u64 (x1 : Int)] 46, .cells #[.int .u64 (y0 : Int), .int .u64 (y1 : Int)] 46, .cells #[.int .u64 0] 22, .cells #[.int .u64 0] 22] w2).mono (below_step hb1 hb2).size)
  have S0 : St ((((w2.alloc (.cells #[.int .u64 (x0 : Int), .int .u64 (x1 : Int)] 46)).alloc (.cells #[.int .u64 (y0 : Int), .int .u64 (y1 : Int)] 46)).alloc (.cells #[.int .u64 0] 22)).alloc (.cells #[.int .u64 0] 22)) w2.heap.size x0 x1 y0 y1 0 0 := by
    have H := objs_at [.cells #[.int .u64 (x0 : Int), .int .u64 (x1 : Int)] 46, .cells #[.int .u64 (y0 : Int), .int .u64 (y1 : Int)] 46, .cells #[.int .u64 0] 22, .cells #[.int .u64 0] 22] w2
    exact ⟨H 0 _ rfl, H 1 _ rfl, H 2 _ rfl, H 3 _ rfl, by decide⟩
  have hgw : w.heap.size ≤ w2.heap.size := (below_step hb1 hb2).size
  revert hB0 S0 hgw
  generalize ((((w2.alloc (.cells #[.int .u64 (x0 : Int), .int .u64 (x1 : Int)] 46)).alloc (.cells #[.int .u64 (y0 : Int), .int .u64 (y1 : Int)] 46)).alloc (.cells #[.int .u64 0] 22)).alloc (.cells #[.int .u64 0] 22)) = w3
  generalize w2.heap.size = g
  intro hB0 S0 hgw
  clear hb1 hb2
  obtain ⟨p00, hp00⟩ : ∃ p, x0 * y0 = p := ⟨_, rfl⟩
  obtain ⟨p01, hp01⟩ : ∃ p, x0 * y1 = p := ⟨_, rfl⟩
  obtain ⟨p10, hp10⟩ : ∃ p, x1 * y0 = p := ⟨_, rfl⟩
  obtain ⟨p11, hp11⟩ : ∃ p, x1 * y1 = p := ⟨_, rfl⟩
  have q00 : p00 ≤ 18446744065119617025 := hp00 ▸ Nat.mul_le_mul hbx0 hby0
  have q01 : p01 ≤ 18446744065119617025 := hp01 ▸ Nat.mul_le_mul hbx0 hby1
  have q10 : p10 ≤ 18446744065119617025 := hp10 ▸ Nat.mul_le_mul hbx1 hby0
  have q11 : p11 ≤ 18446744065119617025 := hp11 ▸ Nat.mul_le_mul hbx1 hby1
  have hab : a * b = p11 * 18446744073709551616 + p01 * 4294967296 + p10 * 4294967296 + p00 := by
    have h1 : a = x1 * 4294967296 + x0 := by rw [← HA.out.1, ← HA.out.2]; omega
    have h2 : b = y1 * 4294967296 + y0 := by rw [← HB.out.1, ← HB.out.2]; omega
    rw [h1, h2, mul_parts, hp00, hp01, hp10, hp11]
  have hlim : a * b < 340282366920938463463374607431768211456 := Nat.lt_of_le_of_lt (Nat.mul_le_mul (show a ≤ 18446744073709551615 by omega) (show b ≤ 18446744073709551615 by omega)) (by decide)
  rw [hab] at hlim
  have HAB := Lib.hid hab
  have B1 : p00 < 340282366920938463463374607431768211456 := by omega
  have B2 : p00 + p01 * 4294967296 < 340282366920938463463374607431768211456 := by omega
  have B3 : p00 + p01 * 4294967296 + p10 * 4294967296 < 340282366920938463463374607431768211456 := by omega
  have B4 : p00 + p01 * 4294967296 + p10 * 4294967296 + p11 * 18446744073709551616 < 340282366920938463463374607431768211456 := by omega
  have l00 : p00 < 18446744073709551616 := by omega
  have m00 : IntKind.u64.wrap ((x0 : Int) * (y0 : Int)) = (p00 : Int) := by rw [← hp00] at q00 ⊢; rw [IntWalk.u64_in _ (by have := Int.natCast_mul x0 y0; omega)]; exact (Int.natCast_mul x0 y0).symm
  have m01 : IntKind.u64.wrap ((x0 : Int) * (y1 : Int)) = (p01 : Int) := by rw [← hp01] at q01 ⊢; rw [IntWalk.u64_in _ (by have := Int.natCast_mul x0 y1; omega)]; exact (Int.natCast_mul x0 y1).symm
  have m10 : IntKind.u64.wrap ((x1 : Int) * (y0 : Int)) = (p10 : Int) := by rw [← hp10] at q10 ⊢; rw [IntWalk.u64_in _ (by have := Int.natCast_mul x1 y0; omega)]; exact (Int.natCast_mul x1 y0).symm
  have m11 : IntKind.u64.wrap ((x1 : Int) * (y1 : Int)) = (p11 : Int) := by rw [← hp11] at q11 ⊢; rw [IntWalk.u64_in _ (by have := Int.natCast_mul x1 y1; omega)]; exact (Int.natCast_mul x1 y1).symm
  clear hp00 hp01 hp10 hp11 hab
  obtain ⟨d01, s01, t1, t2, t3, t4, t5⟩ := shifted p01 q01
  obtain ⟨d10, s10, u1, u2, u3, u4, u5⟩ := shifted p10 q10
  have C1 := Lib.hid t3
  have C2 := Lib.hid u3
  clear t3 u3 q00 q01 q10 q11 hlim hbx0 hbx1 hby0 hby1
  refine wp_loop_rounds 3 ?_
  rw [rounds_succ]
  go_wp2
  refine wp_loop_rounds 3 ?_
  rw [rounds_succ]
  obtain ⟨cx0, cx1, cy0, cy1, -, -⟩ := S0.cells
  go_wp2
  go_quiet (fail)
  go_wp2_with (go_at_call 34; refine (add_st2 g x0 x1 y0 y1 0 0 0 p00 0 p00 p00 0 (p00 : Int) _ Int.natCast_zero.symm rfl (by exact S0.drewN _) l00 (Lib.hid (by simp)) (Lib.hid (by simp)) (Lib.hid (by simp)) B1).mono ?_; rintro e w4 ⟨rfl, hi1, lo1, E1, S1, hc1⟩)
  have hB1 := (below_drewN hB0 _).trans (hc1.mono hgw)
  clear cx0 cx1 cy0 cy1 hc1
  obtain ⟨cx0, cx1, cy0, cy1, ch, cl⟩ := S1.cells
  clear ch cl
  rw [rounds_succ]
  go_wp2
  go_quiet (fail)
  go_wp2_with (go_at_call 34; refine (add_st2 g x0 x1 y0 y1 hi1 lo1 d01 s01 p00 (p01 * 4294967296) (p00 + p01 * 4294967296) (d01 : Int) (s01 : Int) _ rfl rfl (by exact S1.drewN _) t4 E1 C1 (Lib.hid rfl) B2).mono ?_; rintro e w5 ⟨rfl, hi2, lo2, E2, S2, hc2⟩)
  have hB2 := (below_drewN hB1 _).trans (hc2.mono hgw)
  clear cx0 cx1 cy0 cy1 hc2
  obtain ⟨cx0, cx1, cy0, cy1, ch, cl⟩ := S2.cells
  clear ch cl
  rw [rounds_succ]
  go_wp2
  rw [rounds_succ]
  go_wp2
  refine wp_loop_rounds 3 ?_
  rw [rounds_succ]
  go_wp2
  go_quiet (fail)
  go_wp2_with (go_at_call 34; refine (add_st2 g x0 x1 y0 y1 hi2 lo2 d10 s10 (p00 + p01 * 4294967296) (p10 * 4294967296) (p00 + p01 * 4294967296 + p10 * 4294967296) (d10 : Int) (s10 : Int) _ rfl rfl (by exact S2.drewN _) u4 E2 C2 (Lib.hid rfl) B3).mono ?_; rintro e w6 ⟨rfl, hi3, lo3, E3, S3, hc3⟩)
  have hB3 := (below_drewN hB2 _).trans (hc3.mono hgw)
  clear cx0 cx1 cy0 cy1 hc3
  obtain ⟨cx0, cx1, cy0, cy1, ch, cl⟩ := S3.cells
  clear ch cl
  rw [rounds_succ]
  go_wp2
  go_quiet (fail)
  go_wp2_with (go_at_call 34; refine (add_st2 g x0 x1 y0 y1 hi3 lo3 p11 0 (p00 + p01 * 4294967296 + p10 * 4294967296) (p11 * 18446744073709551616) (p00 + p01 * 4294967296 + p10 * 4294967296 + p11 * 18446744073709551616) (p11 : Int) 0 _ rfl Int.natCast_zero.symm (by exact S3.drewN _) (by decide) E3 (Lib.hid (by simp)) (Lib.hid rfl) B4).mono ?_; rintro e w7 ⟨rfl, hi4, lo4, E4, S4, hc4⟩)
  have hB4 := (below_drewN hB3 _).trans (hc4.mono hgw)
  clear cx0 cx1 cy0 cy1 hc4
  obtain ⟨cx0, cx1, cy0, cy1, ch, cl⟩ := S4.cells
  rw [rounds_succ]
  go_wp2
  rw [rounds_succ]
  go_wp2
  go_quiet (fail)
  go_wp2
  go_ret2
  obtain ⟨f1, f2⟩ := divmod_of hi4 lo4 (a * b) (by rw [E4.out, HAB.out]; omega) S4.small
  rw [f1, f2]
  exact ⟨rfl, below_drewN hB4 _⟩
end Go.Proofs.Ytoglolhjfbpnpaa
