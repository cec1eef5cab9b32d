/- Walks: Right, has, Has, ones. -/
import Derived.Test.YtemhoaleeefhhaaProg
import Derived.Test.YtemhoaleeefhhaaBa
import Derived.Test.YtemhoaleeefhhaaQ4
namespace Go.Proofs.Ytemhoaleeefhhaa
open Go.RowKit
set_option linter.unusedVariables false

theorem E_u64 : Elem Try.prog 22 54 (.int .u64 0) 1 8 := elem_of Try.underlying22 (by kernel_rfl) rfl (by decide)
theorem E_i64 : Elem Try.prog 30 3 (.int .i64 0) 1 8 := elem_of Try.underlying30 (by kernel_rfl) rfl (by decide)
/-- A set as a value. -/
abbrev setv (N : Int) (A : Option Addr) (n c : Nat) : Value := .agg #[.int .i64 N, .slice A n c]

set_option maxRecDepth 20000 in
set_option maxHeartbeats 1600000 in
theorem Right_any (N : Int) (A : Option Addr) (n c : Nat) (l : List Int) (w : World) (hs : Sees w 1 A n c (l.map (Value.int .u64))) (hw : W64 l) :
    Calls Try.prog 34 #[setv N A n c] w fun e w' => e = .returned (.bool (decide (RightW N l))) ∧ Below w.heap.size w w' := by
  have hl := hs.length
  have hcm : n ≤ 9223372036854775807 := Nat.le_trans hs.cap hs.capm
  have HB := Lib.hid ((Below.refl w.heap.size w).alloc (Nat.le_refl _) (.cells #[.int .i64 N, .slice A n c] 24))
  by_cases h0 : N < 0
  · have hd : decide (RightW N l) = false := decide_eq_false fun h => by have := h.1; omega
    rw [hd]
    have d0 : decide (N < 0) = true := by simpa using h0
    clear hd h0 hs hw hl
    go_enter Try.func34, Try.ntmps34
    go_wp2
    go_ret
    exact ⟨rfl, HB.out⟩
  · by_cases h1 : 65536 < N
    · have hd : decide (RightW N l) = false := decide_eq_false fun h => by have := h.2.1; omega
      rw [hd]
      have d0 : decide (N < 0) = false := by simpa using h0
      have d1 : decide (65536 < N) = true := by simpa using h1
      clear hd h0 h1 hs hw hl
      go_enter Try.func34, Try.ntmps34
      go_wp2
      go_ret
      exact ⟨rfl, HB.out⟩
    · have d0 : decide (N < 0) = false := by simpa using h0
      have d1 : decide (65536 < N) = false := by simpa using h1
      have hN0 : 0 ≤ N := by omega
      have hN1 : N ≤ 65536 := by omega
      by_cases h2 : (n : Int) = (N + 63) / 64
      · have d2 : ((n : Int) != (N + 63) / 64) = false := by simpa using h2
        obtain ⟨r, hr, hr64⟩ : ∃ r : Nat, N % 64 = (r : Int) ∧ r < 64 := ⟨(N % 64).toNat, by omega, by omega⟩
        by_cases h3 : r = 0
        · have hd : decide (RightW N l) = true := decide_eq_true ⟨hN0, hN1, by rw [hl]; exact h2, .inl (by omega)⟩
          rw [hd]
          have d3 : ((r : Int) == 0) = true := by simpa using h3
          clear hd h0 h1 h2 h3 hs hw hl
          go_enter Try.func34, Try.ntmps34
          go_wp2
          go_quiet (fail)
          go_wp2
          go_ret
          exact ⟨rfl, below_drewN HB.out _⟩
        · obtain ⟨m, hm⟩ : ∃ m, n = m + 1 := ⟨n - 1, by omega⟩
          obtain ⟨b, o, hA, g1⟩ := (hs.below HB.out (Nat.le_refl _)).int (k := m) (by omega)
          subst hA
          have hx := hw.at_ m
          have hd : decide (RightW N l) = decide (l.getD m 0 / 2 ^ r = 0) := by
            congr 1
            refine propext ⟨fun h => ?_, fun h => ⟨hN0, hN1, by rw [hl]; exact h2, .inr ?_⟩⟩
            · rcases h.2.2.2 with h4 | h4
              · omega
              · rw [hl, hr, show n - 1 = m by omega, Int.toNat_natCast] at h4; exact h4
            · rw [hl, hr, show n - 1 = m by omega, Int.toNat_natCast]; exact h
          rw [hd]
          generalize l.getD m 0 = x at hx g1
          obtain ⟨hx0, hx1⟩ := hx
          have d3 : ((r : Int) == 0) = false := by simpa using h3
          have hm1 : (n : Int) - 1 = (m : Int) := by omega
          have hmn : (m : Int) < (n : Int) := by omega
          have hr64' : (r : Int) ≤ 63 := by omega
          have hr0 : (0 : Int) ≤ (r : Int) := by omega
          clear hd h0 h1 h2 h3 hs hw hl hm
          go_enter Try.func34, Try.ntmps34
          go_wp2
          go_quiet (fail)
          go_wp2
          go_ret
          exact ⟨ret_bool (by rw [Bool.eq_iff_iff]; simp), below_drewN HB.out _⟩
      · have hd : decide (RightW N l) = false := decide_eq_false fun h => h2 (by rw [← hl]; exact h.2.2.1)
        rw [hd]
        have d2 : ((n : Int) != (N + 63) / 64) = true := by simpa using h2
        clear hd h0 h1 h2 hs hw hl
        go_enter Try.func34, Try.ntmps34
        go_wp2
        go_ret
        exact ⟨rfl, HB.out⟩

theorem shr_bit {x : Int} (h : 0 ≤ x) (m : Nat) : x / 2 ^ m % 2 = if x.toNat.testBit m then 1 else 0 := by
  obtain ⟨n, rfl⟩ : ∃ n : Nat, x = (n : Int) := ⟨x.toNat, by omega⟩
  have e : ((n : Int) / 2 ^ m % 2) = ((n / 2 ^ m % 2 : Nat) : Int) := by push_cast; rfl
  rw [e, Int.toNat_natCast, Nat.testBit_eq_decide_div_mod_eq]
  by_cases h2 : n / 2 ^ m % 2 = 1
  · rw [h2]; simp
  · have : n / 2 ^ m % 2 = 0 := by omega
    rw [this]; simp

set_option maxRecDepth 20000 in
theorem has_any (N : Int) (A : Option Addr) (n c i : Nat) (l : List Int) (w : World) (hs : Sees w 1 A n c (l.map (Value.int .u64))) (hw : W64 l) (hi : i < 64 * n) :
    Calls Try.prog 54 #[setv N A n c, .int .i64 (i : Int)] w fun e w' => e = .returned (.bool (bt l i)) ∧ Below w.heap.size w w' := by
  have hcm : n ≤ 9223372036854775807 := Nat.le_trans hs.cap hs.capm
  have HB := Lib.hid ((Below.refl w.heap.size w).alloc (Nat.le_refl _) (.cells #[.int .i64 N, .slice A n c] 24))
  obtain ⟨q, hq⟩ : ∃ q : Nat, i / 64 = q := ⟨_, rfl⟩
  obtain ⟨r, hr⟩ : ∃ r : Nat, i % 64 = r := ⟨_, rfl⟩
  have hqn : q < n := by omega
  have hr64 : r < 64 := by omega
  obtain ⟨b, o, hA, g1⟩ := (hs.below HB.out (Nat.le_refl _)).int (k := q) hqn
  subst hA
  have hx := hw.at_ q
  have hbt : bt l i = (l.getD q 0).toNat.testBit r := by unfold bt; rw [hq, hr]
  rw [hbt]
  have hsh := shr_bit hx.1 r
  generalize l.getD q 0 = x at hx g1 hsh
  obtain ⟨hx0, hx1⟩ := hx
  have hq1 : (i : Int) / 64 = (q : Int) := by omega
  have hr1 : (i : Int) % 64 = (r : Int) := by omega
  have hq2 : (q : Int) < (n : Int) := by omega
  have hr2 : (r : Int) ≤ 63 := by omega
  have HSH := Lib.hid hsh
  clear hs hw hi hbt hq hr hqn hr64 hsh
  go_enter Try.func54, Try.ntmps54
  go_wp2
  go_ret
  refine ⟨ret_bool ?_, HB.out⟩
  have h2 : 0 ≤ x / 2 ^ r := Int.ediv_nonneg hx0 (Int.le_of_lt (Int.pow_pos (by decide)))
  have h3 : x / 2 ^ r ≤ x := Int.ediv_le_self _ hx0
  rw [u64_and _ 1 h2 (by omega) (by decide) (by decide)]
  have e1 : (x / 2 ^ r).toNat &&& (1 : Int).toNat = (x / 2 ^ r).toNat % 2 := nat_mask1 _
  rw [e1]
  have h4 := HSH.out
  generalize x / 2 ^ r = y at h2 h4
  split at h4
  · rename_i h5
    rw [h5]
    have : y.toNat % 2 = 1 := by omega
    rw [this]; rfl
  · rename_i h5
    have : y.toNat % 2 = 0 := by omega
    rw [this]
    simp at h5
    rw [h5]; rfl

set_option maxRecDepth 20000 in
theorem ones_any (x : Int) (w : World) (h0 : 0 ≤ x) (h1 : x < 18446744073709551616) :
    Calls Try.prog 53 #[.int .u64 x] w fun e w' => e = .returned (.int .i64 (pc x.toNat : Int)) ∧ w = w' := by
  have hp : pc x.toNat ≤ 64 := by
    have := pc_count 64 x.toNat
    rw [Nat.mod_eq_of_lt (by have e : (2 : Nat) ^ 64 = 18446744073709551616 := by decide
                             omega)] at this
    have h2 := List.countP_le_length (p := fun i => x.toNat.testBit i) (l := List.range 64)
    rw [List.length_range] at h2
    omega
  have HP := Lib.hid hp
  clear hp
  go_enter Try.func53, Try.ntmps53
  go_wp2
  go_loopw [0, 3] (fun xv nv wr => ∃ (y : Int) (k : Nat), Hid (0 ≤ y ∧ y < 18446744073709551616) ∧ xv = .int .u64 y ∧ nv = .int .i64 (k : Int) ∧ Hid (k + pc y.toNat = pc x.toNat) ∧ wr = w) (fun xv _ _ => pc (intOf xv).toNat)
  case atStart => exact ⟨x, 0, Lib.hid ⟨h0, h1⟩, rfl, rfl, Lib.hid (Nat.zero_add _), rfl⟩
  case round =>
    obtain ⟨y, k, HY, rfl, rfl, HK, rfl⟩ := hrel
    obtain ⟨hy0, hy1⟩ := HY.out
    have hk : (k : Int) ≤ 64 := by have := HP.out; have := HK.out; omega
    by_cases hz : y = 0
    · subst hz
      have hk2 : k = pc x.toNat := by have := HK.out; simp [pc_zero] at this; exact this
      clear hy0 hy1
      go_wp2
      go_ret
      exact ⟨ret_int (by have := hk2; omega), rfl⟩
    · have d1 : (y != 0) = true := by simpa using hz
      have hy2 : 1 ≤ y := by omega
      clear hz
      have hb : bits BinOp.and IntKind.u64 y (y - 1) = ((y.toNat &&& (y.toNat - 1) : Nat) : Int) := by
        rw [u64_and y (y - 1) hy0 hy1 (by omega) (by omega), show (y - 1).toNat = y.toNat - 1 by omega]
      have hlo := pc_low y.toNat (by omega)
      have hle : y.toNat &&& (y.toNat - 1) ≤ y.toNat := Nat.and_le_left
      have HLO := Lib.hid (And.intro hlo hle)
      generalize y.toNat &&& (y.toNat - 1) = z at hb hlo hle HLO
      clear hlo hle
      go_wp2
      go_roundw
      case rel => exact ⟨(z : Int), k + 1, Lib.hid ⟨by omega, by have := HLO.out; omega⟩, rfl, by go_num, Lib.hid (by have := HLO.out; have := HK.out; rw [Int.toNat_natCast]; omega), trivial⟩
      case measure => have := HLO.out; simp [intOf]; omega
end Go.Proofs.Ytemhoaleeefhhaa
