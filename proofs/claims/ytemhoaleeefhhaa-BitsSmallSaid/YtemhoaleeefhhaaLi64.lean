/- Walks: LentInts, KeptInts. (Turned from chapter 29's text.) -/
import Derived.Test.YtemhoaleeefhhaaProg
import Derived.Test.YtemhoaleeefhhaaLb64
namespace Go.Proofs.Ytemhoaleeefhhaa
open Go.RowKit
set_option linter.unusedVariables false

theorem E_int : Elem Try.prog 30 3 (.int .i64 0) 1 8 := elem_of Try.underlying30 (by kernel_rfl) rfl (by decide)
def mkI (i : Int) : Int := 1000003 * (1 + 7) + i
theorem mark_is (i : Int) (w : World) (h2 : 0 ≤ i) (h3 : i ≤ 1000000000) :
    Calls Try.prog 70 #[.int .i64 1, .int .i64 i] w fun e w' => e = .returned (.int .i64 (mkI i)) ∧ w' = w :=
  (mark_any 1 i w (by omega) (by omega) h2 h3).mono fun e w' h => ⟨h.1, h.2.symm⟩
def mksI (k : Nat) : List Int := (List.range k).map fun i : Nat => mkI i
theorem mksI_succ (k : Nat) : mksI (k + 1) = mksI k ++ [mkI k] := by simp [mksI, List.range_succ]
theorem mksI_len (k : Nat) : (mksI k).length = k := by simp [mksI]

set_option maxRecDepth 20000 in
set_option maxHeartbeats 800000 in
theorem LentInts_any (A : Option Addr) (n c : Nat) (l : List Int) (w : World) (h : Sees w 1 A n c (l.map (Value.int .i64))) (hn : n ≤ 1000000) :
    Calls Try.prog 58 #[.slice A n c] w fun e w' => ∃ A' c', e = .returned (.slice A' n c') ∧ w'.ownsRow w.heap.size 3 1 (.slice A' (n + 12) c') (n + 12) ((l ++ mksI 12).map (Value.int .i64)) ∧ Below w.heap.size w w' := by
  go_enter Try.func58, Try.ntmps58
  go_wp2_with (first
    | (at_make; refine wpList_mk0 E_int rfl _ _ rfl (n + 12) _ rfl rfl (by omega) (by omega) (by simp [maxLen]; omega) ?_; intro w1 hown1 hg1 hb1)
    | (at_builtin; refine wpList_app E_int rfl _ _ rfl rfl hown1 rfl (h.below hb1 (Nat.le_refl _)) (ints1 _ _) (by simp [maxLen]; omega) (by omega) hb1.size ?_; intro A2 c2 w2 hown2 hg2 hb2))
  go_loopw [3, 4] (fun v i wr => ∃ (k : Nat) (A' : Option Addr) (c' : Nat), k ≤ 12 ∧ i = .int .i64 k ∧ v = .slice A' (n + k) c' ∧ wr.ownsRow w.heap.size 3 1 (.slice A' (n + k) c') (n + k) ((l ++ mksI k).map (Value.int .i64)) ∧ Below w.heap.size w wr)
    (fun _ i _ => 12 - (intOf i).toNat)
  case atStart => exact ⟨0, A2, c2, by omega, rfl, by simp, by simpa [mksI] using hown2, hb1.trans hb2⟩
  case round =>
    obtain ⟨k, A3, c3, hk, rfl, rfl, ho, hb⟩ := hrel
    by_cases hlt : k < 12
    · have hs := mksI_succ k
      generalize hys : l ++ mksI k = ys at ho
      have hnew : l ++ mksI (k + 1) = ys ++ [mkI k] := by rw [hs, ← List.append_assoc, hys]
      have HN := Lib.hid hnew
      clear hs hys hnew
      go_wp2_with (first
        | (go_at_call 70; refine (mark_is _ _ (by omega) (by omega)).mono ?_; rintro e w' ⟨rfl, rfl⟩)
        | (at_builtin; refine wpList_app E_int rfl _ _ rfl rfl (ho.alloc _) rfl (Sees.one _ _ _) (ints1 _ [mkI k]) (by simp [maxLen]; omega) (by omega) (by have := hb.size; simp; omega) ?_; intro A4 c4 w4 hown4 hg4 hb4))
      go_roundw
      case rel =>
        refine ⟨k + 1, A4, c4, by omega, by go_num, rfl, ?_, (hb.alloc hb.size _).trans hb4⟩
        rw [HN.out]
        simpa [Nat.add_assoc] using hown4
      case measure => simp [intOf]; omega
    · obtain rfl : k = 12 := by omega
      have hcap := (sees_own ho).cap
      go_wp2
      go_ret
      exact ⟨_, _, rfl, ho, hb⟩
theorem mksI_at (l : List Int) (n k : Nat) (hl : l.length = n) (h1 : n ≤ k) (h2 : k < n + 12) : (l ++ mksI 12).getD k 0 = mkI ((k : Int) - (n : Int)) := by
  have e : ((k : Int) - (n : Int)) = ((k - n : Nat) : Int) := by omega
  rw [e, List.getD, List.getElem?_append_right (by omega), hl]
  have : k - n < 12 := by omega
  simp [mksI, this]
theorem mksI_lo (l : List Int) (n k : Nat) (hl : l.length = n) (h1 : k < n) : (l ++ mksI 12).getD k 0 = l.getD k 0 := by
  rw [List.getD, List.getElem?_append_left (by omega), List.getD]

set_option maxRecDepth 20000 in
set_option maxHeartbeats 400000 in
theorem KeptInts_any (A A2 : Option Addr) (n c c2 : Nat) (l : List Int) (w : World) (h : Sees w 1 A (n + 12) c ((l ++ mksI 12).map (Value.int .i64))) (h2 : Sees w 1 A2 n c2 (l.map (Value.int .i64))) (hn : n ≤ 1000000) :
    Calls Try.prog 59 #[.slice A n c, .slice A2 n c2] w fun e w' => e = .returned (.bool true) ∧ Below w.heap.size w w' := by
  have hcap := h.cap
  have hl := h2.length
  have HL := Lib.hid hl
  clear hl
  go_enter Try.func59, Try.ntmps59
  go_wp2
  go_loopw [6] (fun i wr => ∃ k : Nat, k ≤ n + 12 ∧ i = .int .i64 k ∧ Below w.heap.size w wr) (fun i _ => n + 12 - (intOf i).toNat)
  case atStart => exact ⟨0, by omega, rfl, Below.refl _ _⟩
  case round =>
    obtain ⟨k, hk, rfl, hb⟩ := hrel
    by_cases hlt : k < n + 12
    · by_cases hkn : k < n
      · obtain ⟨b1, o1, rfl, g1⟩ := (h.below hb (Nat.le_refl _)).int hlt
        obtain ⟨b2, o2, rfl, g2⟩ := (h2.below hb (Nat.le_refl _)).int hkn
        rw [mksI_lo l n k HL.out hkn] at g1
        generalize l.getD k 0 = x at g1 g2
        have hd : decide (n ≤ k) = false := by simp; omega
        have hd1 : decide ((k : Int) < (n : Int)) = true := by simp; omega
        have hd2 : (k : Int) < (n : Int) := by omega
        go_wp2_with fail
        go_quiet (fail)
        go_wp2
        go_roundw
        case rel => exact ⟨k + 1, by omega, by go_num, below_drewN hb _⟩
        case measure => simp [intOf]; omega
      · obtain ⟨b1, o1, rfl, g1⟩ := (h.below hb (Nat.le_refl _)).int hlt
        rw [mksI_at l n k HL.out (by omega) hlt] at g1
        have hd : decide ((k : Int) < (n : Int)) = false := by simp; omega
        have hd2 : decide ((n : Int) ≤ (k : Int)) = true := by simp; omega
        have hd3 : (n : Int) ≤ (k : Int) := by omega
        have hd1 : 0 ≤ (k : Int) - (n : Int) := by omega
        go_wp2_with fail
        go_quiet ((go_at_call 70; exact Calls.quiet_of_same (mark_is _ _ (by omega) (by omega))))
        go_wp2
        go_roundw
        case rel => exact ⟨k + 1, by omega, by go_num, below_drewN hb _⟩
        case measure => simp [intOf]; omega
    · obtain rfl : k = n + 12 := by omega
      go_wp2
      go_ret
      exact ⟨rfl, hb⟩
end Go.Proofs.Ytemhoaleeefhhaa
