/- Walks: LentBytes, KeptBytes, OverBytes. -/
import Derived.Test.YtgngeachgkappaaProg
import Derived.Test.YtgngeachgkappaaSb8
import Derived.Test.YtgngeachgkappaaQ7
import Derived.Test.YtgngeachgkappaaWa
namespace Go.Proofs.Ytgngeachgkappaa
open Go.RowKit
set_option linter.unusedVariables false

set_option maxHeartbeats 400000 in
theorem mark_any (k i : Int) (w : World) (h0 : 0 ≤ k) (h1 : k ≤ 1000) (h2 : 0 ≤ i) (h3 : i ≤ 1000000000) :
    Calls Try.prog 61 #[.int .i64 k, .int .i64 i] w fun e w' => e = .returned (.int .i64 (1000003 * (k + 7) + i)) ∧ w = w' := by
  go_enter Try.func61, Try.ntmps61
  go_wp2
  go_ret
  exact ⟨rfl, rfl⟩

/-- The marks of quantumkit, as numbers of 64 and of 8 bits. -/
def mkB (k i : Int) : Int := IntKind.u8.wrap (IntKind.u64.wrap ((1000003 * (k + 7) + i) * 11400714819323198485) / 72057594037927936)

set_option maxRecDepth 20000 in
theorem markByte_any (k i : Int) (w : World) (h0 : 0 ≤ k) (h1 : k ≤ 1000) (h2 : 0 ≤ i) (h3 : i ≤ 1000000000) :
    Calls Try.prog 54 #[.int .i64 k, .int .i64 i] w fun e w' => e = .returned (.int .u8 (mkB k i)) ∧ w' = w := by
  go_enter Try.func54, Try.ntmps54
  go_wp2_with (go_at_call 61; refine (mark_any _ _ _ h0 h1 h2 h3).mono ?_; rintro e w' ⟨rfl, rfl⟩)
  go_ret
  exact ⟨rfl, rfl⟩

/-- The first k marks of a lent slice. -/
def mksB (k : Nat) : List Int := (List.range k).map fun i : Nat => mkB 1 i
theorem mksB_succ (k : Nat) : mksB (k + 1) = mksB k ++ [mkB 1 k] := by simp [mksB, List.range_succ]
theorem mksB_len (k : Nat) : (mksB k).length = k := by simp [mksB]

set_option maxRecDepth 20000 in
set_option maxHeartbeats 800000 in
theorem LentBytes_any (A : Option Addr) (n c : Nat) (l : List Int) (w : World) (h : Sees w 1 A n c (l.map (Value.int .u8))) (hn : n ≤ 1000000) :
    Calls Try.prog 42 #[.slice A n c] w fun e w' => ∃ A' c', e = .returned (.slice A' n c') ∧ w'.ownsRow w.heap.size 5 1 (.slice A' (n + 12) c') (n + 12) ((l ++ mksB 12).map (Value.int .u8)) ∧ Below w.heap.size w w' := by
  go_enter Try.func42, Try.ntmps42
  go_wp2_with (first
    | (at_make; refine wpList_mk0 E_u8 rfl _ _ rfl (n + 12) _ rfl rfl (by omega) (by omega) (by simp [maxLen]; omega) ?_; intro w1 hown1 hg1 hb1)
    | (at_builtin; refine wpList_app E_u8 rfl _ _ rfl rfl hown1 rfl (h.below hb1 (Nat.le_refl _)) (ints1 _ _) (by simp [maxLen]; omega) (by omega) hb1.size ?_; intro A2 c2 w2 hown2 hg2 hb2))
  go_loopw [3, 4] (fun v i wr => ∃ (k : Nat) (A' : Option Addr) (c' : Nat), k ≤ 12 ∧ i = .int .i64 k ∧ v = .slice A' (n + k) c' ∧ wr.ownsRow w.heap.size 5 1 (.slice A' (n + k) c') (n + k) ((l ++ mksB k).map (Value.int .u8)) ∧ Below w.heap.size w wr)
    (fun _ i _ => 12 - (intOf i).toNat)
  case atStart => exact ⟨0, A2, c2, by omega, rfl, by simp, by simpa [mksB] using hown2, hb1.trans hb2⟩
  case round =>
    obtain ⟨k, A3, c3, hk, rfl, rfl, ho, hb⟩ := hrel
    by_cases hlt : k < 12
    · have hs := mksB_succ k
      generalize hys : l ++ mksB k = ys at ho
      have hnew : l ++ mksB (k + 1) = ys ++ [mkB 1 k] := by rw [hs, ← List.append_assoc, hys]
      have HN := Lib.hid hnew
      clear hs hys hnew
      go_wp2_with (first
        | (go_at_call 54; refine (markByte_any _ _ _ (by omega) (by omega) (by omega) (by omega)).mono ?_; rintro e w' ⟨rfl, rfl⟩)
        | (at_builtin; refine wpList_app E_u8 rfl _ _ rfl rfl (ho.alloc _) rfl (Sees.one _ _ _) (ints1 _ [mkB 1 k]) (by simp [maxLen]; omega) (by omega) (by have := hb.size; simp; omega) ?_; intro A4 c4 w4 hown4 hg4 hb4))
      go_roundw
      case rel =>
        refine ⟨k + 1, A4, c4, by omega, by go_num, rfl, ?_, (hb.alloc hb.size _).trans hb4⟩
        rw [HN.out]
        simpa [Nat.add_assoc] using hown4
      case measure => simp [intOf]; omega
    · obtain rfl : k = 12 := by omega
      have hcap := (sees_own ho).cap
      go_wp2
      go_ret
      exact ⟨_, _, rfl, ho, hb⟩
theorem mksB_at (l : List Int) (n k : Nat) (hl : l.length = n) (h1 : n ≤ k) (h2 : k < n + 12) : (l ++ mksB 12).getD k 0 = mkB 1 ((k : Int) - (n : Int)) := by
  have e : ((k : Int) - (n : Int)) = ((k - n : Nat) : Int) := by omega
  rw [e, List.getD, List.getElem?_append_right (by omega), hl]
  have : k - n < 12 := by omega
  simp [mksB, this]
theorem mksB_lo (l : List Int) (n k : Nat) (hl : l.length = n) (h1 : k < n) : (l ++ mksB 12).getD k 0 = l.getD k 0 := by
  rw [List.getD, List.getElem?_append_left (by omega), List.getD]

set_option maxRecDepth 20000 in
set_option maxHeartbeats 400000 in
theorem KeptBytes_any (A A2 : Option Addr) (n c c2 : Nat) (l : List Int) (w : World) (h : Sees w 1 A (n + 12) c ((l ++ mksB 12).map (Value.int .u8))) (h2 : Sees w 1 A2 n c2 (l.map (Value.int .u8))) (hn : n ≤ 1000000) :
    Calls Try.prog 43 #[.slice A n c, .slice A2 n c2] w fun e w' => e = .returned (.bool true) ∧ Below w.heap.size w w' := by
  have hcap := h.cap
  have hl := h2.length
  have HL := Lib.hid hl
  clear hl
  go_enter Try.func43, Try.ntmps43
  go_wp2
  go_loopw [6] (fun i wr => ∃ k : Nat, k ≤ n + 12 ∧ i = .int .i64 k ∧ Below w.heap.size w wr) (fun i _ => n + 12 - (intOf i).toNat)
  case atStart => exact ⟨0, by omega, rfl, Below.refl _ _⟩
  case round =>
    obtain ⟨k, hk, rfl, hb⟩ := hrel
    by_cases hlt : k < n + 12
    · by_cases hkn : k < n
      · obtain ⟨b1, o1, rfl, g1⟩ := (h.below hb (Nat.le_refl _)).int hlt
        obtain ⟨b2, o2, rfl, g2⟩ := (h2.below hb (Nat.le_refl _)).int hkn
        rw [mksB_lo l n k HL.out hkn] at g1
        generalize l.getD k 0 = x at g1 g2
        have hd : decide (n ≤ k) = false := by simp; omega
        have hd1 : decide ((k : Int) < (n : Int)) = true := by simp; omega
        have hd2 : (k : Int) < (n : Int) := by omega
        go_wp2_with fail
        go_quiet (fail)
        go_wp2
        go_roundw
        case rel => exact ⟨k + 1, by omega, by go_num, below_drewN hb _⟩
        case measure => simp [intOf]; omega
      · obtain ⟨b1, o1, rfl, g1⟩ := (h.below hb (Nat.le_refl _)).int hlt
        rw [mksB_at l n k HL.out (by omega) hlt] at g1
        have hd : decide ((k : Int) < (n : Int)) = false := by simp; omega
        have hd2 : decide ((n : Int) ≤ (k : Int)) = true := by simp; omega
        have hd3 : (n : Int) ≤ (k : Int) := by omega
        have hd1 : 0 ≤ (k : Int) - (n : Int) := by omega
        go_wp2_with fail
        go_quiet ((go_at_call 54; exact Calls.quiet_of_same (markByte_any _ _ _ (by omega) (by omega) (by omega) (by omega))))
        go_wp2
        go_roundw
        case rel => exact ⟨k + 1, by omega, by go_num, below_drewN hb _⟩
        case measure => simp [intOf]; omega
    · obtain rfl : k = n + 12 := by omega
      go_wp2
      go_ret
      exact ⟨rfl, hb⟩

set_option maxRecDepth 20000 in
set_option maxHeartbeats 800000 in
theorem OverBytes_any (B g c n : Nat) (xs : List Int) (w : World) (h : w.ownsRow B 5 1 (.slice (some ⟨g, 0, none⟩) (n + 12) c) (n + 12) (xs.map (Value.int .u8))) (hn : n ≤ 100000) :
    Calls Try.prog 44 #[.slice (some ⟨g, 0, none⟩) n c] w fun e w' => e = .returned (.tuple #[]) ∧ Keeps g w w' := by
  have hc := (sees_own h).cap
  have hm : (if (n : Int) + 12 < (c : Int) then (n : Int) + 12 else (c : Int)) = ((n + 12 : Nat) : Int) := by split <;> omega
  have hm' : (if n + 12 < c then (n : Int) + 12 else (c : Int)) = ((n + 12 : Nat) : Int) := by split <;> omega
  have hcut := fun w => run_cutr E_u8 (some ⟨g, 0, none⟩) n c (n + 12) hc w
  have hn2 : (n : Int) ≤ 100000 := by omega
  have HN := Lib.hid hn
  clear hc hn
  obtain ⟨m, hmn⟩ : ∃ m, n + 12 = m := ⟨_, rfl⟩
  rw [hmn] at h hm hm' hcut
  have hm2 : (m : Int) ≤ 100012 := by omega
  have HMN := Lib.hid hmn
  clear hmn
  go_enter Try.func44, Try.ntmps44
  go_wp2
  go_loopw [3] (fun i wr => ∃ (k : Nat) (ys : List Int), Hid (k ≤ m) ∧ i = .int .i64 (k : Int) ∧ wr.ownsRow B 5 1 (.slice (some ⟨g, 0, none⟩) m c) m (ys.map (Value.int .u8)) ∧ Keeps g w wr) (fun i _ => m - (intOf i).toNat)
  case atStart => exact ⟨0, xs, Lib.hid (Nat.zero_le _), rfl, h, Keeps.refl _ _⟩
  case round =>
    obtain ⟨k, ys, HK, rfl, ho, hkp⟩ := hrel
    by_cases hlt : k < m
    · obtain ⟨g1, g2⟩ := own_cellK ho hlt
      have d1 : decide ((k : Int) < (m : Int)) = true := by simp; omega
      have hk2 : (k : Int) < (m : Int) := by omega
      have HLT := Lib.hid hlt
      obtain ⟨v, hv⟩ : ∃ v : Int, mkB 2 (k : Int) = v := ⟨_, rfl⟩
      have HV := Lib.hid hv
      have hset := own_setK ho k v
      clear hlt hv
      go_wp2_with (go_at_call 54; refine (markByte_any _ _ _ (by omega) (by omega) (by omega) (by omega)).mono ?_; rw [HV.out]; rintro e w1 ⟨rfl, rfl⟩)
      go_roundw
      case rel => exact ⟨k + 1, ys.set k v, Lib.hid HLT.out, by go_num, hset, hkp.trans (Keeps.set _ _ _ _)⟩
      case measure => have := HLT.out; simp [intOf]; omega
    · have d1 : decide ((k : Int) < (m : Int)) = false := by simp; omega
      have d1' : decide (k < m) = false := by simp; omega
      clear hlt
      go_wp2
      go_end0
      exact ⟨rfl, hkp⟩

end Go.Proofs.Ytgngeachgkappaa
