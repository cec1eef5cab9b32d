/- Walks: LentNums, KeptNums. -/
import Derived.Test.YtemhoaleeefhhaaProg
import Derived.Test.YtemhoaleeefhhaaSb64
import Derived.Test.YtemhoaleeefhhaaBb
namespace Go.Proofs.Ytemhoaleeefhhaa
open Go.RowKit
set_option linter.unusedVariables false

set_option maxHeartbeats 400000 in
theorem mark_any (k i : Int) (w : World) (h0 : 0 ≤ k) (h1 : k ≤ 1000) (h2 : 0 ≤ i) (h3 : i ≤ 1000000000) :
    Calls Try.prog 70 #[.int .i64 k, .int .i64 i] w fun e w' => e = .returned (.int .i64 (1000003 * (k + 7) + i)) ∧ w = w' := by
  go_enter Try.func70, Try.ntmps70
  go_wp2
  go_ret
  exact ⟨rfl, rfl⟩

/-- The marks of quantumkit, as numbers of 64 and of 8 bits. -/
def mkN (k i : Int) : Int := IntKind.u64.wrap ((1000003 * (k + 7) + i) * 11400714819323198485)

set_option maxRecDepth 20000 in
theorem markNum_any (k i : Int) (w : World) (h0 : 0 ≤ k) (h1 : k ≤ 1000) (h2 : 0 ≤ i) (h3 : i ≤ 1000000000) :
    Calls Try.prog 65 #[.int .i64 k, .int .i64 i] w fun e w' => e = .returned (.int .u64 (mkN k i)) ∧ w' = w := by
  go_enter Try.func65, Try.ntmps65
  go_wp2_with (go_at_call 70; refine (mark_any _ _ _ h0 h1 h2 h3).mono ?_; rintro e w' ⟨rfl, rfl⟩)
  go_ret
  exact ⟨rfl, rfl⟩

/-- The first k marks of a lent slice. -/
def mksN (k : Nat) : List Int := (List.range k).map fun i : Nat => mkN 1 i
theorem mksN_succ (k : Nat) : mksN (k + 1) = mksN k ++ [mkN 1 k] := by simp [mksN, List.range_succ]
theorem mksN_len (k : Nat) : (mksN k).length = k := by simp [mksN]

set_option maxRecDepth 20000 in
set_option maxHeartbeats 800000 in
theorem LentNums_any (A : Option Addr) (n c : Nat) (l : List Int) (w : World) (h : Sees w 1 A n c (l.map (Value.int .u64))) (hn : n ≤ 1000000) :
    Calls Try.prog 38 #[.slice A n c] w fun e w' => ∃ A' c', e = .returned (.slice A' n c') ∧ w'.ownsRow w.heap.size 54 1 (.slice A' (n + 12) c') (n + 12) ((l ++ mksN 12).map (Value.int .u64)) ∧ Below w.heap.size w w' := by
  go_enter Try.func38, Try.ntmps38
  go_wp2_with (first
    | (at_make; refine wpList_mk0 E_u64 rfl _ _ rfl (n + 12) _ rfl rfl (by omega) (by omega) (by simp [maxLen]; omega) ?_; intro w1 hown1 hg1 hb1)
    | (at_builtin; refine wpList_app E_u64 rfl _ _ rfl rfl hown1 rfl (h.below hb1 (Nat.le_refl _)) (ints1 _ _) (by simp [maxLen]; omega) (by omega) hb1.size ?_; intro A2 c2 w2 hown2 hg2 hb2))
  go_loopw [3, 4] (fun v i wr => ∃ (k : Nat) (A' : Option Addr) (c' : Nat), k ≤ 12 ∧ i = .int .i64 k ∧ v = .slice A' (n + k) c' ∧ wr.ownsRow w.heap.size 54 1 (.slice A' (n + k) c') (n + k) ((l ++ mksN k).map (Value.int .u64)) ∧ Below w.heap.size w wr)
    (fun _ i _ => 12 - (intOf i).toNat)
  case atStart => exact ⟨0, A2, c2, by omega, rfl, by simp, by simpa [mksN] using hown2, hb1.trans hb2⟩
  case round =>
    obtain ⟨k, A3, c3, hk, rfl, rfl, ho, hb⟩ := hrel
    by_cases hlt : k < 12
    · have hs := mksN_succ k
      generalize hys : l ++ mksN k = ys at ho
      have hnew : l ++ mksN (k + 1) = ys ++ [mkN 1 k] := by rw [hs, ← List.append_assoc, hys]
      have HN := Lib.hid hnew
      clear hs hys hnew
      go_wp2_with (first
        | (go_at_call 65; refine (markNum_any _ _ _ (by omega) (by omega) (by omega) (by omega)).mono ?_; rintro e w' ⟨rfl, rfl⟩)
        | (at_builtin; refine wpList_app E_u64 rfl _ _ rfl rfl (ho.alloc _) rfl (Sees.one _ _ _) (ints1 _ [mkN 1 k]) (by simp [maxLen]; omega) (by omega) (by have := hb.size; simp; omega) ?_; intro A4 c4 w4 hown4 hg4 hb4))
      go_roundw
      case rel =>
        refine ⟨k + 1, A4, c4, by omega, by go_num, rfl, ?_, (hb.alloc hb.size _).trans hb4⟩
        rw [HN.out]
        simpa [Nat.add_assoc] using hown4
      case measure => simp [intOf]; omega
    · obtain rfl : k = 12 := by omega
      have hcap := (sees_own ho).cap
      go_wp2
      go_ret
      exact ⟨_, _, rfl, ho, hb⟩
theorem mksN_at (l : List Int) (n k : Nat) (hl : l.length = n) (h1 : n ≤ k) (h2 : k < n + 12) : (l ++ mksN 12).getD k 0 = mkN 1 ((k : Int) - (n : Int)) := by
  have e : ((k : Int) - (n : Int)) = ((k - n : Nat) : Int) := by omega
  rw [e, List.getD, List.getElem?_append_right (by omega), hl]
  have : k - n < 12 := by omega
  simp [mksN, this]
theorem mksN_lo (l : List Int) (n k : Nat) (hl : l.length = n) (h1 : k < n) : (l ++ mksN 12).getD k 0 = l.getD k 0 := by
  rw [List.getD, List.getElem?_append_left (by omega), List.getD]

set_option maxRecDepth 20000 in
set_option maxHeartbeats 400000 in
theorem KeptNums_any (A A2 : Option Addr) (n c c2 : Nat) (l : List Int) (w : World) (h : Sees w 1 A (n + 12) c ((l ++ mksN 12).map (Value.int .u64))) (h2 : Sees w 1 A2 n c2 (l.map (Value.int .u64))) (hn : n ≤ 1000000) :
    Calls Try.prog 39 #[.slice A n c, .slice A2 n c2] w fun e w' => e = .returned (.bool true) ∧ Below w.heap.size w w' := by
  have hcap := h.cap
  have hl := h2.length
  have HL := Lib.hid hl
  clear hl
  go_enter Try.func39, Try.ntmps39
  go_wp2
  go_loopw [6] (fun i wr => ∃ k : Nat, k ≤ n + 12 ∧ i = .int .i64 k ∧ Below w.heap.size w wr) (fun i _ => n + 12 - (intOf i).toNat)
  case atStart => exact ⟨0, by omega, rfl, Below.refl _ _⟩
  case round =>
    obtain ⟨k, hk, rfl, hb⟩ := hrel
    by_cases hlt : k < n + 12
    · by_cases hkn : k < n
      · obtain ⟨b1, o1, rfl, g1⟩ := (h.below hb (Nat.le_refl _)).int hlt
        obtain ⟨b2, o2, rfl, g2⟩ := (h2.below hb (Nat.le_refl _)).int hkn
        rw [mksN_lo l n k HL.out hkn] at g1
        generalize l.getD k 0 = x at g1 g2
        have hd : decide (n ≤ k) = false := by simp; omega
        have hd1 : decide ((k : Int) < (n : Int)) = true := by simp; omega
        have hd2 : (k : Int) < (n : Int) := by omega
        go_wp2_with fail
        go_quiet (fail)
        go_wp2
        go_roundw
        case rel => exact ⟨k + 1, by omega, by go_num, below_drewN hb _⟩
        case measure => simp [intOf]; omega
      · obtain ⟨b1, o1, rfl, g1⟩ := (h.below hb (Nat.le_refl _)).int hlt
        rw [mksN_at l n k HL.out (by omega) hlt] at g1
        have hd : decide ((k : Int) < (n : Int)) = false := by simp; omega
        have hd2 : decide ((n : Int) ≤ (k : Int)) = true := by simp; omega
        have hd3 : (n : Int) ≤ (k : Int) := by omega
        have hd1 : 0 ≤ (k : Int) - (n : Int) := by omega
        go_wp2_with fail
        go_quiet ((go_at_call 65; exact Calls.quiet_of_same (markNum_any _ _ _ (by omega) (by omega) (by omega) (by omega))))
        go_wp2
        go_roundw
        case rel => exact ⟨k + 1, by omega, by go_num, below_drewN hb _⟩
        case measure => simp [intOf]; omega
    · obtain rfl : k = n + 12 := by omega
      go_wp2
      go_ret
      exact ⟨rfl, hb⟩
end Go.Proofs.Ytemhoaleeefhhaa
