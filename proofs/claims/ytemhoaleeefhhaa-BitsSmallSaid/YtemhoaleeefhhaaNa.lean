/- Walks: the reference's bit, Right, Has, Members. -/
import Derived.Test.YtemhoaleeefhhaaProg
import Derived.Test.YtemhoaleeefhhaaMb
namespace Go.Proofs.Ytemhoaleeefhhaa
open Go.RowKit
set_option linter.unusedVariables false

abbrev rsv (N : Int) (A : Option Addr) (n c : Nat) : Value := .agg #[.int .i64 N, .slice A n c]
def b1 (b : Bool) : Int := if b then 1 else 0
theorem b1_eq1 (b : Bool) : (b1 b == 1) = b := by cases b <;> rfl
theorem b1_eq0 (b : Bool) : (b1 b == 0) = !b := by cases b <;> rfl
theorem b1_lo (b : Bool) : 0 ≤ b1 b := by cases b <;> decide

set_option maxRecDepth 20000 in
theorem refBit_any (A : Option Addr) (n c i : Nat) (l : List Int) (w : World) (hs : Sees w 1 A n c (l.map (Value.int .u64))) (hw : W64 l) (hi : i ≤ 1000000000) :
    Calls Try.prog 64 #[.slice A n c, .int .i64 (i : Int)] w fun e w' => e = .returned (.int .u64 (b1 (bt l i))) ∧ w = w' := by
  have hl := hs.length
  have d0 : decide ((i : Int) < 0) = false := by simp
  obtain ⟨q, hq⟩ : ∃ q : Nat, i / 64 = q := ⟨_, rfl⟩
  obtain ⟨r, hr⟩ : ∃ r : Nat, i % 64 = r := ⟨_, rfl⟩
  have hq1 : (i : Int) / 64 = (q : Int) := by omega
  have hr1 : (i : Int) % 64 = (r : Int) := by omega
  have htd : (i : Int).tdiv 64 = (q : Int) := by rw [Int.tdiv_eq_ediv_of_nonneg (by omega)]; exact hq1
  have htm : (i : Int).tmod 64 = (r : Int) := by rw [Int.tmod_eq_emod_of_nonneg (by omega)]; exact hr1
  have hr2 : (r : Int) ≤ 63 := by omega
  have hwq : IntKind.i64.wrap (q : Int) = (q : Int) := IntWalk.i64_in _ (by omega)
  have hwr : IntKind.i64.wrap (r : Int) = (r : Int) := IntWalk.i64_in _ (by omega)
  have hq5 : (q : Int) ≤ 1000000000 := by omega
  by_cases hqn : q < n
  · have d1 : decide ((n : Int) ≤ (q : Int)) = false := by simp; omega
    have d1' : decide (n ≤ q) = false := by simp; omega
    have hq2 : (q : Int) < (n : Int) := by omega
    obtain ⟨b, o, hA, g1⟩ := hs.int (k := q) hqn
    subst hA
    have hx := hw.at_ q
    have hbt : bt l i = (l.getD q 0).toNat.testBit r := by unfold bt; rw [hq, hr]
    have hsh := shr_bit hx.1 r
    rw [hbt]
    generalize l.getD q 0 = x at hx g1 hsh
    obtain ⟨hx0, hx1⟩ := hx
    have h2 : 0 ≤ x / 2 ^ r := Int.ediv_nonneg hx0 (Int.le_of_lt (Int.pow_pos (by decide)))
    have hfin : (x / 2 ^ r).tmod 2 = b1 (x.toNat.testBit r) := by
      rw [Int.tmod_eq_emod_of_nonneg h2, hsh]; rfl
    have hfin2 : x / 2 ^ r % 2 = b1 (x.toNat.testBit r) := by rw [hsh]; rfl
    have hb0 := b1_lo (x.toNat.testBit r)
    have hwb : IntKind.u64.wrap (b1 (x.toNat.testBit r)) = b1 (x.toNat.testBit r) := by cases x.toNat.testBit r <;> rfl
    clear hs hw hi hbt hq hr hqn hsh
    go_enter Try.func64, Try.ntmps64
    go_wp2
    go_ret
    exact ⟨ret_int (by first | rfl | exact hfin2 | exact hfin), rfl⟩
  · have d1 : decide ((n : Int) ≤ (q : Int)) = true := by simp; omega
    have d1' : decide (n ≤ q) = true := by simp; omega
    have hb : bt l i = false := bt_big (by omega)
    rw [hb]
    clear hs hw hi hb hq hr hqn hl
    go_enter Try.func64, Try.ntmps64
    go_wp2
    go_ret
    exact ⟨rfl, rfl⟩

/-- A set of the reference in a box. -/
def SetQ (w : World) (b : Nat) (N : Int) (A : Option Addr) (n c : Nat) : Prop := w.heap[b]? = some (.cells #[.int .i64 N, .slice A n c] 55 (0, 0))
theorem SetQ.new (w : World) (N : Int) (A : Option Addr) (n c : Nat) : SetQ (w.alloc (.cells #[.int .i64 N, .slice A n c] 55)) w.heap.size N A n c := heap_alloc_new _ _
theorem SetQ.lt {w : World} {b n c : Nat} {N : Int} {A : Option Addr} (h : SetQ w b N A n c) : b < w.heap.size := lt_of_heap h
theorem SetQ.c0 {w : World} {b n c : Nat} {N : Int} {A : Option Addr} (h : SetQ w b N A n c) : w.cell? ⟨b, 0, none⟩ = some (.int .i64 N) := by
  unfold SetQ at h; simp [World.cell?, h]
theorem SetQ.c1 {w : World} {b n c : Nat} {N : Int} {A : Option Addr} (h : SetQ w b N A n c) : w.cell? ⟨b, 1, none⟩ = some (.slice A n c) := by
  unfold SetQ at h; simp [World.cell?, h]
theorem SetQ.f {w : World} {b n c : Nat} {N : Int} {A : Option Addr} (h : SetQ w b N A n c) (k : Nat) : w.frozen? ⟨b, k, none⟩ = false := by
  unfold SetQ at h; simp [World.frozen?, h]
theorem SetQ.below {w w' : World} {b n c M : Nat} {N : Int} {A : Option Addr} (h : SetQ w b N A n c) (hb : Below M w w') (hM : w.heap.size ≤ M) : SetQ w' b N A n c := (hb.block b (Nat.lt_of_lt_of_le h.lt hM)).trans h
theorem SetQ.put {w : World} {b n c n' c' : Nat} {N N' : Int} {A A' : Option Addr} (h : SetQ w b N A n c) : SetQ ((w.setCell ⟨b, 0, none⟩ (.int .i64 N')).setCell ⟨b, 1, none⟩ (.slice A' n' c')) b N' A' n' c' := by
  have e := heap_setCell_same w b 0 _ _ (.int .i64 N') h
  have e2 := heap_setCell_same _ b 1 _ _ (.slice A' n' c') e
  unfold SetQ
  simpa using e2

theorem not_right_bit {N : Nat} {l : List Int} {i : Nat} (hw : W64 l) (hi : N ≤ i) (hb : bt l i = true) : ¬ RightW (N : Int) l := fun h => by
  rw [h.bits hw i (by omega)] at hb; cases hb

set_option maxRecDepth 20000 in
set_option maxHeartbeats 800000 in
theorem refRight_any (N : Int) (A : Option Addr) (n c : Nat) (l : List Int) (w : World) (hs : Sees w 1 A n c (l.map (Value.int .u64))) (hw : W64 l) :
    Calls Try.prog 40 #[rsv N A n c] w fun e w' => e = .returned (.bool (decide (RightW N l))) ∧ Below w.heap.size w w' := by
  have hl := hs.length
  have hcm : n ≤ 9223372036854775807 := Nat.le_trans hs.cap hs.capm
  have hbw := (Below.refl w.heap.size w).alloc (Nat.le_refl _) (.cells #[.int .i64 N, .slice A n c] 55)
  have HB := Lib.hid hbw
  have HS := Lib.hid (hs.below hbw (Nat.le_refl _))
  have HX := Lib.hid (SetQ.new w N A n c)
  clear hbw
  by_cases h0 : N < 0
  · have hd : decide (RightW N l) = false := decide_eq_false fun h => by have := h.1; omega
    rw [hd]
    have d0 : decide (N < 0) = true := by simpa using h0
    clear hd h0 hs hw hl
    go_enter Try.func40, Try.ntmps40
    go_wp2
    go_ret
    exact ⟨rfl, HB.out⟩
  · have d0 : decide (N < 0) = false := by simpa using h0
    by_cases h1 : 65536 < N
    · have hd : decide (RightW N l) = false := decide_eq_false fun h => by have := h.2.1; omega
      rw [hd]
      have d1 : decide (65536 < N) = true := by simpa using h1
      clear hd h0 h1 hs hw hl
      go_enter Try.func40, Try.ntmps40
      go_wp2
      go_ret
      exact ⟨rfl, HB.out⟩
    · have d1 : decide (65536 < N) = false := by simpa using h1
      obtain ⟨M, rfl⟩ : ∃ M : Nat, N = (M : Int) := ⟨N.toNat, by omega⟩
      have hM : M ≤ 65536 := by omega
      obtain ⟨q, hq⟩ : ∃ q : Nat, M / 64 = q := ⟨_, rfl⟩
      obtain ⟨r, hr⟩ : ∃ r : Nat, M % 64 = r := ⟨_, rfl⟩
      obtain ⟨k, hk⟩ : ∃ k : Nat, (M + 63) / 64 = k := ⟨_, rfl⟩
      have hq1 : (M : Int) / 64 = (q : Int) := by omega
      have hr1 : (M : Int) % 64 = (r : Int) := by omega
      have htd : (M : Int).tdiv 64 = (q : Int) := by rw [Int.tdiv_eq_ediv_of_nonneg (by omega)]; exact hq1
      have htm : (M : Int).tmod 64 = (r : Int) := by rw [Int.tmod_eq_emod_of_nonneg (by omega)]; exact hr1
      have hwq : IntKind.i64.wrap (q : Int) = (q : Int) := IntWalk.i64_in _ (by omega)
      have hwr : IntKind.i64.wrap (r : Int) = (r : Int) := IntWalk.i64_in _ (by omega)
      have hq5 : (q : Int) ≤ 1024 := by omega
      have hk5 : (k : Int) ≤ 1024 := by omega
      have HK := Lib.hid (show (M ≤ 65536 ∧ M ≤ 64 * k) ∧ (M + 63) / 64 = k by omega)
      have hkq : r = 0 ∧ k = q ∨ 0 < r ∧ k = q + 1 := by omega
      have hM5 : (M : Int) ≤ 65536 := by omega
      clear h0 h1 hM hq hr hk
      by_cases hnk : n = k
      · have d3 : ((n : Int) != (k : Int)) = false := by simp; omega
        have hstep : ∀ j, M ≤ j → j ≤ 64 * k → (∀ i, M ≤ i → i < j → bt l i = false) → (∀ i, M ≤ i → i < 64 * k → bt l i = false) → RightW (M : Int) l := fun _ _ _ _ h => RightW.of_bits hw (by omega) hM5 (by have := HK.out.2; omega) (fun i h1 h2 => h i (by omega) (by omega))
        have HNK := Lib.hid hnk
        clear hnk
        rcases hkq with ⟨hr0, hkq⟩ | ⟨hr0, hkq⟩
        · have d2 : decide ((0 : Int) < (r : Int)) = false := by simp; omega
          have d2' : decide (0 < r) = false := by simp; omega
          subst hkq
          clear hr0 hstep
          go_enter Try.func40, Try.ntmps40
          go_wp2
          go_loopw [4] (fun iv wr => ∃ j : Nat, Hid (M ≤ j ∧ j ≤ 64 * k ∧ ∀ i, M ≤ i → i < j → bt l i = false) ∧ iv = .int .i64 (j : Int) ∧ Below w.heap.size w wr ∧ Hid (Sees wr 1 A n c (l.map (Value.int .u64)) ∧ SetQ wr w.heap.size (M : Int) A n c)) (fun iv _ => 64 * k - (intOf iv).toNat)
          case atStart => exact ⟨M, Lib.hid ⟨Nat.le_refl _, HK.out.1.2, fun i h1 h2 => by omega⟩, rfl, HB.out, Lib.hid ⟨HS.out, HX.out⟩⟩
          case round =>
            obtain ⟨j, HJ, rfl, hbj, HSj⟩ := hrel
            have x0 := HSj.out.2.c0
            have x1 := HSj.out.2.c1
            have hj5 : (j : Int) ≤ 65600 := by have := HJ.out; have := HK.out; omega
            by_cases hlt : j < 64 * k
            · have d5 : decide ((j : Int) < 64 * (k : Int)) = true := by simp; omega
              have HLT := Lib.hid hlt
              have HJ9 := Lib.hid (show j ≤ 1000000000 by omega)
              clear hlt
              cases hb : bt l j with
              | true =>
                have hd : decide (RightW (M : Int) l) = false := decide_eq_false (not_right_bit hw HJ.out.1 hb)
                have HD := Lib.hid hd
                have HBT := Lib.hid hb
                clear hd hb
                go_wp2_with (go_at_call 64; refine (refBit_any A n c j l _ HSj.out.1 hw HJ9.out).mono ?_; rw [HBT.out]; rintro e w' ⟨rfl, rfl⟩)
                go_ret
                exact ⟨ret_bool HD.out.symm, hbj⟩
              | false =>
                have HBT := Lib.hid hb
                clear hb
                go_wp2_with (go_at_call 64; refine (refBit_any A n c j l _ HSj.out.1 hw HJ9.out).mono ?_; rw [HBT.out]; rintro e w' ⟨rfl, rfl⟩)
                go_roundw
                case rel => exact ⟨j + 1, Lib.hid ⟨by have := HJ.out.1; omega, HLT.out, fun i h1 h2 => by
                  by_cases h : i = j
                  · rw [h]; exact HBT.out
                  · exact HJ.out.2.2 i h1 (by omega)⟩, by go_num, hbj, HSj⟩
                case measure => have := HLT.out; simp [intOf]; omega
            · have d5 : decide ((j : Int) < 64 * (k : Int)) = false := by simp; omega
              have hd : decide (RightW (M : Int) l) = true := decide_eq_true (RightW.of_bits hw (by omega) (by omega) (by have := HK.out.2; have := HNK.out; omega) (fun i h1 h2 => HJ.out.2.2 i (by omega) (by have := HJ.out; have := HNK.out; omega)))
              have HD := Lib.hid hd
              clear hd hlt
              go_wp2
              go_ret
              exact ⟨ret_bool HD.out.symm, hbj⟩
        · have d2 : decide ((0 : Int) < (r : Int)) = true := by simp; omega
          have d2' : decide (0 < r) = true := by simp; omega
          have hkq1 : (q : Int) + 1 = (k : Int) := by omega
          clear hr0 hkq hstep
          go_enter Try.func40, Try.ntmps40
          go_wp2
          go_loopw [4] (fun iv wr => ∃ j : Nat, Hid (M ≤ j ∧ j ≤ 64 * k ∧ ∀ i, M ≤ i → i < j → bt l i = false) ∧ iv = .int .i64 (j : Int) ∧ Below w.heap.size w wr ∧ Hid (Sees wr 1 A n c (l.map (Value.int .u64)) ∧ SetQ wr w.heap.size (M : Int) A n c)) (fun iv _ => 64 * k - (intOf iv).toNat)
          case atStart => exact ⟨M, Lib.hid ⟨Nat.le_refl _, HK.out.1.2, fun i h1 h2 => by omega⟩, rfl, HB.out, Lib.hid ⟨HS.out, HX.out⟩⟩
          case round =>
            obtain ⟨j, HJ, rfl, hbj, HSj⟩ := hrel
            have x0 := HSj.out.2.c0
            have x1 := HSj.out.2.c1
            have hj5 : (j : Int) ≤ 65600 := by have := HJ.out; have := HK.out; omega
            by_cases hlt : j < 64 * k
            · have d5 : decide ((j : Int) < 64 * (k : Int)) = true := by simp; omega
              have HLT := Lib.hid hlt
              have HJ9 := Lib.hid (show j ≤ 1000000000 by omega)
              clear hlt
              cases hb : bt l j with
              | true =>
                have hd : decide (RightW (M : Int) l) = false := decide_eq_false (not_right_bit hw HJ.out.1 hb)
                have HD := Lib.hid hd
                have HBT := Lib.hid hb
                clear hd hb
                go_wp2_with (go_at_call 64; refine (refBit_any A n c j l _ HSj.out.1 hw HJ9.out).mono ?_; rw [HBT.out]; rintro e w' ⟨rfl, rfl⟩)
                go_ret
                exact ⟨ret_bool HD.out.symm, hbj⟩
              | false =>
                have HBT := Lib.hid hb
                clear hb
                go_wp2_with (go_at_call 64; refine (refBit_any A n c j l _ HSj.out.1 hw HJ9.out).mono ?_; rw [HBT.out]; rintro e w' ⟨rfl, rfl⟩)
                go_roundw
                case rel => exact ⟨j + 1, Lib.hid ⟨by have := HJ.out.1; omega, HLT.out, fun i h1 h2 => by
                  by_cases h : i = j
                  · rw [h]; exact HBT.out
                  · exact HJ.out.2.2 i h1 (by omega)⟩, by go_num, hbj, HSj⟩
                case measure => have := HLT.out; simp [intOf]; omega
            · have d5 : decide ((j : Int) < 64 * (k : Int)) = false := by simp; omega
              have hd : decide (RightW (M : Int) l) = true := decide_eq_true (RightW.of_bits hw (by omega) (by omega) (by have := HK.out.2; have := HNK.out; omega) (fun i h1 h2 => HJ.out.2.2 i (by omega) (by have := HJ.out; have := HNK.out; omega)))
              have HD := Lib.hid hd
              clear hd hlt
              go_wp2
              go_ret
              exact ⟨ret_bool HD.out.symm, hbj⟩
      · have d3 : ((n : Int) != (k : Int)) = true := by simp; omega
        have hd : decide (RightW (M : Int) l) = false := decide_eq_false fun h => hnk (by have := h.2.2.1; have := HK.out.2; omega)
        rw [hd]
        clear hnk hd
        rcases hkq with ⟨hr0, hkq⟩ | ⟨hr0, hkq⟩
        · have d2 : decide ((0 : Int) < (r : Int)) = false := by simp; omega
          have d2' : decide (0 < r) = false := by simp; omega
          subst hkq
          clear hr0
          go_enter Try.func40, Try.ntmps40
          go_wp2
          go_ret
          exact ⟨rfl, HB.out⟩
        · have d2 : decide ((0 : Int) < (r : Int)) = true := by simp; omega
          have d2' : decide (0 < r) = true := by simp; omega
          have hkq1 : (q : Int) + 1 = (k : Int) := by omega
          clear hr0 hkq
          go_enter Try.func40, Try.ntmps40
          go_wp2
          go_ret
          exact ⟨rfl, HB.out⟩
end Go.Proofs.Ytemhoaleeefhhaa
