/- Walks: the reference's Runs. -/
import Derived.Test.YtemhoaleeefhhaaProg
import Derived.Test.YtemhoaleeefhhaaNb
namespace Go.Proofs.Ytemhoaleeefhhaa
open Go.RowKit
set_option linter.unusedVariables false

theorem rn_len (l : List Int) (j : Nat) : (rn l j).length ≤ j := Nat.le_trans (runsL_len _) (mem_le l j)
theorem runC_one (a b : Nat) : [Value.int .i64 (a : Int), Value.int .i64 (b : Int)] = flatR [(a, b)] := rfl
/-- No run ends where a member is that begins one. -/
def Hd (l : List Int) (M j : Nat) : Prop := j = M ∨ bt l j = false ∨ ∀ r, (rn l j).getLast? = some r → r.2 ≠ j

set_option maxRecDepth 20000 in
set_option maxHeartbeats 1600000 in
theorem refRuns_any (N : Int) (A : Option Addr) (n c : Nat) (l : List Int) (w : World) (hs : Sees w 1 A n c (l.map (Value.int .u64))) (hw : W64 l) :
    Calls Try.prog 51 #[rsv N A n c] w fun e w' => ∃ A' c', e = .returned (.slice A' (runsF l N).length c') ∧ w'.ownsRow w.heap.size 47 2 (.slice A' (runsF l N).length c') (runsF l N).length (flatR (runsF l N)) ∧ Below w.heap.size w w' := by
  obtain ⟨W1, hW1⟩ : ∃ W1, w.alloc (.cells #[.int .i64 N, .slice A n c] 55) = W1 := ⟨_, rfl⟩
  have hbw : Below w.heap.size w W1 := by rw [← hW1]; exact (Below.refl w.heap.size w).alloc (Nat.le_refl _) _
  have hz : W1.heap.size = w.heap.size + 1 := by rw [← hW1]; simp
  have HB := Lib.hid (And.intro hbw hz)
  have HS := Lib.hid (hs.below hbw (Nat.le_refl _))
  have HX : Hid (SetQ W1 w.heap.size N A n c) := Lib.hid (by rw [← hW1]; exact SetQ.new w N A n c)
  have HW := Lib.hid hW1
  clear hbw hs hz hW1
  unfold runsF
  by_cases hr : RightW N l
  · rw [if_pos hr]
    have HR := Lib.hid (decide_eq_true hr)
    obtain ⟨M, rfl⟩ : ∃ M : Nat, N = (M : Int) := ⟨N.toNat, by have := hr.1; omega⟩
    rw [Int.toNat_natCast]
    have HM := Lib.hid (show M ≤ 65536 by have := hr.2.1; omega)
    have hM5 : (M : Int) ≤ 65536 := by have := HM.out; omega
    clear hr
    go_enter Try.func51, Try.ntmps51
    go_wp2_with (go_at_call 40; rw [HW.out]; refine (refRight_any (M : Int) A n c l _ HS.out hw).mono ?_; rw [HR.out]; rintro e w1 ⟨rfl, k1⟩; have R1 := Lib.hid k1; clear k1)
    go_loopw [3, 4] (fun ov iv wr => ∃ (j : Nat) (Ao : Option Addr) (co : Nat), Hid (j ≤ M ∧ Hd l M j) ∧ iv = .int .i64 (j : Int) ∧ ov = .slice Ao (rn l j).length co ∧ wr.ownsRow W1.heap.size 47 2 (.slice Ao (rn l j).length co) (rn l j).length (flatR (rn l j)) ∧ Below W1.heap.size W1 wr) (fun _ iv _ => M - (intOf iv).toNat)
    case atStart => exact ⟨0, none, 0, Lib.hid ⟨Nat.zero_le _, .inr (.inr (fun r h => by simp [rn_zero] at h))⟩, rfl, rfl, World.ownsRow_nil _ _ _ _, R1.out⟩
    case round =>
      obtain ⟨j, Ao, co, HJ, rfl, rfl, ho, hbj⟩ := hrel
      have HSj := Lib.hid (HS.out.below hbj (Nat.le_refl _))
      have hxj := HX.out.below hbj (Nat.le_refl _)
      have x0 := hxj.c0
      have x1 := hxj.c1
      obtain ⟨L, hL⟩ : ∃ L, rn l j = L := ⟨_, rfl⟩
      obtain ⟨t, htt⟩ : ∃ t, L.length = t := ⟨_, rfl⟩
      have htj := rn_len l j
      rw [hL] at ho htj ⊢
      rw [htt] at ho htj ⊢
      have HTT := Lib.hid (And.intro hL htt)
      by_cases hlt : j < M
      · have d5 : decide ((j : Int) < (M : Int)) = true := by simp; omega
        have HLT := Lib.hid hlt
        have HJ9 := Lib.hid (show j ≤ 1000000000 by have := HM.out; omega)
        have HT6 := Lib.hid (show t ≤ 65536 by have := HM.out; omega)
        have hj5 : (j : Int) ≤ 65536 := by have := HM.out; omega
        clear hlt hL htt htj hxj
        cases hb : bt l j with
        | false =>
          have hmm := rn_none hb
          rw [HTT.out.1] at hmm
          have HMM := Lib.hid hmm
          have HBT := Lib.hid hb
          clear hb hmm
          go_wp2_with (go_at_call 64; refine (refBit_any A n c j l _ HSj.out hw HJ9.out).mono ?_; rw [HBT.out, show b1 false = 0 from rfl]; rintro e w' ⟨rfl, rfl⟩)
          go_roundw
          case rel => exact ⟨j + 1, Ao, co, Lib.hid ⟨HLT.out, .inr (.inr (fun r h => by have := rn_last l j r (by rw [HTT.out.1, ← HMM.out]; exact h); omega))⟩, by go_num, by rw [HMM.out, HTT.out.2], by rw [HMM.out, HTT.out.2]; exact ho, hbj⟩
          case measure => have := HLT.out; simp [intOf]; omega
        | true =>
          have HHD : Hid (∀ r, (rn l j).getLast? = some r → r.2 ≠ j) := Lib.hid (by
            rcases HJ.out.2 with h | h | h
            · have := HLT.out; omega
            · rw [hb] at h; cases h
            · exact h)
          have HBT := Lib.hid hb
          clear hb
          go_wp2_with (go_at_call 64; refine (refBit_any A n c j l _ HSj.out hw HJ9.out).mono ?_; rw [HBT.out, show b1 true = 1 from rfl]; rintro e w' ⟨rfl, rfl⟩)
          go_loopw [4] (fun iv wq => ∃ p : Nat, Hid (j ≤ p ∧ p ≤ M ∧ ∀ i, j ≤ i → i < p → bt l i = true) ∧ iv = .int .i64 (p : Int) ∧ wq = wr) (fun iv _ => M - (intOf iv).toNat)
          case atStart => exact ⟨j, Lib.hid ⟨Nat.le_refl _, Nat.le_of_lt HLT.out, fun i h1 h2 => by omega⟩, rfl, rfl⟩
          case round =>
            obtain ⟨p, HP, rfl, rfl⟩ := hrel
            have hp5 : (p : Int) ≤ 65536 := by have := HP.out; have := HM.out; omega
            by_cases hpM : p < M
            · have d6 : decide ((p : Int) < (M : Int)) = true := by simp; omega
              have HPL := Lib.hid hpM
              have HP9 := Lib.hid (show p ≤ 1000000000 by have := HM.out; omega)
              clear hpM
              cases hb : bt l p with
              | true =>
                have HBP := Lib.hid hb
                clear hb
                go_wp2_with (go_at_call 64; refine (refBit_any A n c p l _ HSj.out hw HP9.out).mono ?_; rw [HBP.out, show b1 true = 1 from rfl]; rintro e w' ⟨rfl, rfl⟩)
                go_roundw
                case rel => exact ⟨p + 1, Lib.hid ⟨by have := HP.out.1; omega, HPL.out, fun i h1 h2 => by
                  by_cases h : i = p
                  · rw [h]; exact HBP.out
                  · exact HP.out.2.2 i h1 (by omega)⟩, by go_num, trivial⟩
                case measure => have := HPL.out; simp [intOf]; omega
              | false =>
                have HBP := Lib.hid hb
                have hjp : j < p := by
                  rcases Nat.lt_or_ge j p with h | h
                  · exact h
                  · have : j = p := by have := HP.out.1; omega
                    rw [← this, HBT.out] at hb; cases hb
                have HJP := Lib.hid hjp
                have hrun := rn_run HHD.out hjp HP.out.2.2
                rw [HTT.out.1] at hrun
                have HRUN := Lib.hid hrun
                clear hb hjp hrun
                go_wp2_with (first
                  | (at_builtin; refine wpList_app E_run rfl _ _ rfl rfl (ho.alloc _) rfl (sees_run (heap_alloc_new _ _)) (oneI ((j : Int), (p : Int))) (by have := HT6.out; simp [maxLen]; omega) (by have := HT6.out; omega) (by have := hbj.size; simp; omega) ?_; intro A4 c4 w4 hown4 hg4 hb4)
                  | (go_at_call 64; refine (refBit_any A n c p l _ HSj.out hw HP9.out).mono ?_; rw [HBP.out, show b1 false = 0 from rfl]; rintro e w' ⟨rfl, rfl⟩))
                go_roundw
                case rel =>
                  have e2 : (L ++ [(j, p)]).length = t + 1 := by rw [List.length_append, HTT.out.2]; rfl
                  exact ⟨p, A4, c4, Lib.hid ⟨HP.out.2.1, .inr (.inl HBP.out)⟩, rfl, by rw [HRUN.out, e2], by rw [HRUN.out, e2, flatR_app]; exact hown4, (hbj.alloc hbj.size _).trans hb4⟩
                case measure => have := HJP.out; have := HPL.out; simp [intOf]; omega
            · have d6 : decide ((p : Int) < (M : Int)) = false := by simp; omega
              have d6' : decide (p < M) = false := by simp; omega
              have hpm : p = M := by have := HP.out.2.1; omega
              have HPM := Lib.hid hpm
              have hjp : j < p := by have := HLT.out; omega
              have HJP := Lib.hid hjp
              have hrun := rn_run HHD.out hjp HP.out.2.2
              rw [HTT.out.1] at hrun
              have HRUN := Lib.hid hrun
              clear hpM hpm hjp hrun
              go_wp2_with (at_builtin; refine wpList_app E_run rfl _ _ rfl rfl (ho.alloc _) rfl (sees_run (heap_alloc_new _ _)) (oneI ((j : Int), (p : Int))) (by have := HT6.out; simp [maxLen]; omega) (by have := HT6.out; omega) (by have := hbj.size; simp; omega) ?_; intro A4 c4 w4 hown4 hg4 hb4)
              go_roundw
              case rel =>
                have e2 : (L ++ [(j, p)]).length = t + 1 := by rw [List.length_append, HTT.out.2]; rfl
                exact ⟨p, A4, c4, Lib.hid ⟨HP.out.2.1, .inl HPM.out⟩, rfl, by rw [HRUN.out, e2], by rw [HRUN.out, e2, flatR_app]; exact hown4, (hbj.alloc hbj.size _).trans hb4⟩
              case measure => have := HJP.out; have := HPM.out; simp [intOf]; omega
      · have d5 : decide ((j : Int) < (M : Int)) = false := by simp; omega
        have d5' : decide (j < M) = false := by simp; omega
        have hjM : j = M := by have := HJ.out.1; omega
        have HMM : Hid (runsL (mem l M) = L) := Lib.hid (by rw [← hjM]; exact hL)
        clear hlt hL htt htj hxj hjM
        go_wp2
        go_ret
        exact ⟨Ao, co, by rw [HMM.out, HTT.out.2]; rfl, by rw [HMM.out, HTT.out.2]; exact own_base ho (by have := HB.out.2; omega), HB.out.1.trans (hbj.mono HB.out.1.size)⟩
  · rw [if_neg hr]
    have HR := Lib.hid (decide_eq_false hr)
    clear hr
    go_enter Try.func51, Try.ntmps51
    go_wp2_with (go_at_call 40; rw [HW.out]; refine (refRight_any N A n c l _ HS.out hw).mono ?_; rw [HR.out]; rintro e w1 ⟨rfl, k1⟩; have R1 := Lib.hid k1; clear k1)
    go_ret
    exact ⟨none, 0, rfl, World.ownsRow_nil _ _ _ _, below_step HB.out.1 R1.out⟩
end Go.Proofs.Ytemhoaleeefhhaa
