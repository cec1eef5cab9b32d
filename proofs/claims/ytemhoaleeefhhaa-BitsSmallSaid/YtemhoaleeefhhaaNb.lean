/- Walks: the reference's Has, Members, Rank, Next, Before. -/
import Derived.Test.YtemhoaleeefhhaaProg
import Derived.Test.YtemhoaleeefhhaaNa
namespace Go.Proofs.Ytemhoaleeefhhaa
open Go.RowKit
set_option linter.unusedVariables false

theorem mem_lt {l : List Int} {N j k x y : Nat} (hx : (mem l N)[j]? = some x) (hy : (mem l N)[k]? = some y) (h : j < k) : x < y := by
  rcases Nat.lt_or_ge x y with h1 | h1
  · exact h1
  · have := cnt_mono (l := l) h1
    rw [rank_at hx, rank_at hy] at this
    omega
theorem rank_stop {l : List Int} {N n : Nat} {i : Int} (hr : RightW (N : Int) l) (hn : n ≤ (mem l N).length) (hlo : ∀ k x, k < n → (mem l N)[k]? = some x → (x : Int) < i) (hhi : ∀ x, (mem l N)[n]? = some x → i ≤ (x : Int)) : rankF l N i = n := by
  unfold rankF
  rw [if_pos hr]
  obtain ⟨f, hf⟩ : ∃ f, (min i (N : Int)).toNat = f := ⟨_, rfl⟩
  rw [hf]
  have hfN : f ≤ N := by omega
  have h1 : n ≤ cnt l f := by
    cases n with
    | zero => exact Nat.zero_le _
    | succ n =>
      obtain ⟨x, hx⟩ : ∃ x, (mem l N)[n]? = some x := ⟨_, List.getElem?_eq_getElem (by omega)⟩
      have h2 := hlo n x (by omega) hx
      have h3 := (mem_at hx).1
      rw [← rank_at1 hx]
      exact cnt_mono (by omega)
  rcases Nat.lt_or_ge n (mem l N).length with h2 | h2
  · obtain ⟨x, hx⟩ : ∃ x, (mem l N)[n]? = some x := ⟨_, List.getElem?_eq_getElem h2⟩
    have h3 := hhi x hx
    have h4 := cnt_mono (l := l) (show f ≤ x by omega)
    rw [rank_at hx] at h4
    omega
  · have := cnt_top l N f hfN
    omega
theorem nextF_rank {l : List Int} {N : Nat} {i : Int} (hr : RightW (N : Int) l) : nextF l N i = (mem l N)[rankF l N i]? := by
  by_cases h : i ≤ (N : Int)
  · have e : nextF l N i = nextF l N ((max i 0).toNat : Nat) := by
      unfold nextF
      rw [if_pos hr, if_pos hr, show (max (((max i 0).toNat : Nat) : Int) 0).toNat = (max i 0).toNat by omega]
    rw [e, nextF_at hr (by omega)]
    unfold rankF
    rw [if_pos hr, show (min i (N : Int)).toNat = (max i 0).toNat by omega]
  · rw [rankF_top hr (by omega), List.getElem?_eq_none (Nat.le_refl _)]
    unfold nextF
    rw [if_pos hr, memF_low _ _ _ (by omega)]; rfl

set_option maxRecDepth 20000 in
theorem refHas_any (N i : Int) (A : Option Addr) (n c : Nat) (l : List Int) (w : World) (hs : Sees w 1 A n c (l.map (Value.int .u64))) (hw : W64 l) :
    Calls Try.prog 45 #[rsv N A n c, .int .i64 i] w fun e w' => e = .returned (.bool (hasF l N i)) ∧ Below w.heap.size w w' := by
  have hbw := (Below.refl w.heap.size w).alloc (Nat.le_refl _) (.cells #[.int .i64 N, .slice A n c] 55)
  have HB := Lib.hid hbw
  have HS := Lib.hid (hs.below hbw (Nat.le_refl _))
  have HX := Lib.hid (SetQ.new w N A n c)
  clear hbw hs
  unfold hasF
  by_cases hr : RightW N l
  · have hR : decide (RightW N l) = true := decide_eq_true hr
    rw [hR]
    have HR := Lib.hid hR
    by_cases h0 : 0 ≤ i
    · have d0 : decide (0 ≤ i) = true := by simpa using h0
      rw [d0]
      by_cases h1 : i < N
      · have d1 : decide (i < N) = true := by simpa using h1
        rw [d1]
        obtain ⟨k, rfl⟩ : ∃ k : Nat, i = (k : Int) := ⟨i.toNat, by omega⟩
        have HK := Lib.hid (show k ≤ 1000000000 by have := hr.2.1; omega)
        rw [Int.toNat_natCast]
        obtain ⟨b, hb⟩ : ∃ b, bt l k = b := ⟨_, rfl⟩
        rw [hb]
        have HBT := Lib.hid hb
        have e1 := b1_eq1 b
        clear hr hR h0 h1 hb
        go_enter Try.func45, Try.ntmps45
        go_wp2_with (first
          | (go_at_call 64; refine (refBit_any A n c k l _ (HS.out.below R1.out (Nat.le_refl _)) hw HK.out).mono ?_; rw [HBT.out]; rintro e w' ⟨rfl, rfl⟩)
          | (go_at_call 40; refine (refRight_any N A n c l _ HS.out hw).mono ?_; rw [HR.out]; rintro e w1 ⟨rfl, k1⟩; have X1 := HX.out.below k1 (Nat.le_refl _); have x0 := X1.c0; have x1 := X1.c1; have R1 := Lib.hid k1; clear k1 X1))
        go_ret
        exact ⟨ret_bool (by simp), below_step HB.out R1.out⟩
      · have d1 : decide (i < N) = false := by simpa using h1
        rw [d1]
        clear hr hR h0 h1
        go_enter Try.func45, Try.ntmps45
        go_wp2_with (go_at_call 40; refine (refRight_any N A n c l _ HS.out hw).mono ?_; rw [HR.out]; rintro e w1 ⟨rfl, k1⟩; have X1 := HX.out.below k1 (Nat.le_refl _); have x0 := X1.c0; have x1 := X1.c1; have R1 := Lib.hid k1; clear k1 X1)
        go_ret
        exact ⟨rfl, below_step HB.out R1.out⟩
    · have d0 : decide (0 ≤ i) = false := by simpa using h0
      rw [d0]
      clear hr hR h0
      go_enter Try.func45, Try.ntmps45
      go_wp2_with (go_at_call 40; refine (refRight_any N A n c l _ HS.out hw).mono ?_; rw [HR.out]; rintro e w1 ⟨rfl, k1⟩; have R1 := Lib.hid k1; clear k1)
      go_ret
      exact ⟨rfl, below_step HB.out R1.out⟩
  · have hR : decide (RightW N l) = false := decide_eq_false hr
    rw [hR]
    have HR := Lib.hid hR
    clear hr hR
    go_enter Try.func45, Try.ntmps45
    go_wp2_with (go_at_call 40; refine (refRight_any N A n c l _ HS.out hw).mono ?_; rw [HR.out]; rintro e w1 ⟨rfl, k1⟩; have R1 := Lib.hid k1; clear k1)
    go_ret
    exact ⟨rfl, below_step HB.out R1.out⟩

set_option maxRecDepth 20000 in
set_option maxHeartbeats 800000 in
theorem refMembers_any (N : Int) (A : Option Addr) (n c : Nat) (l : List Int) (w : World) (hs : Sees w 1 A n c (l.map (Value.int .u64))) (hw : W64 l) :
    Calls Try.prog 44 #[rsv N A n c] w fun e w' => ∃ A' c', e = .returned (.slice A' (membersF l N).length c') ∧ w'.ownsRow w.heap.size 3 1 (.slice A' (membersF l N).length c') (membersF l N).length ((castN (membersF l N)).map (Value.int .i64)) ∧ Below w.heap.size w w' := by
  obtain ⟨W1, hW1⟩ : ∃ W1, w.alloc (.cells #[.int .i64 N, .slice A n c] 55) = W1 := ⟨_, rfl⟩
  have hbw : Below w.heap.size w W1 := by rw [← hW1]; exact (Below.refl w.heap.size w).alloc (Nat.le_refl _) _
  have hz : W1.heap.size = w.heap.size + 1 := by rw [← hW1]; simp
  have HB := Lib.hid (And.intro hbw hz)
  have HS := Lib.hid (hs.below hbw (Nat.le_refl _))
  have HX : Hid (SetQ W1 w.heap.size N A n c) := Lib.hid (by rw [← hW1]; exact SetQ.new w N A n c)
  have HW := Lib.hid hW1
  clear hbw hs hz hW1
  unfold membersF
  by_cases hr : RightW N l
  · rw [if_pos hr]
    have HR := Lib.hid (decide_eq_true hr)
    obtain ⟨M, rfl⟩ : ∃ M : Nat, N = (M : Int) := ⟨N.toNat, by have := hr.1; omega⟩
    rw [Int.toNat_natCast]
    have HM := Lib.hid (show M ≤ 65536 by have := hr.2.1; omega)
    have hM5 : (M : Int) ≤ 65536 := by have := HM.out; omega
    clear hr
    go_enter Try.func44, Try.ntmps44
    go_wp2_with (go_at_call 40; rw [HW.out]; refine (refRight_any (M : Int) A n c l _ HS.out hw).mono ?_; rw [HR.out]; rintro e w1 ⟨rfl, k1⟩; have R1 := Lib.hid k1; clear k1)
    go_loopw [3, 4] (fun ov iv wr => ∃ (j : Nat) (Ao : Option Addr) (co : Nat), Hid (j ≤ M) ∧ iv = .int .i64 (j : Int) ∧ ov = .slice Ao (mem l j).length co ∧ wr.ownsRow W1.heap.size 3 1 (.slice Ao (mem l j).length co) (mem l j).length ((castN (mem l j)).map (Value.int .i64)) ∧ Below W1.heap.size W1 wr) (fun _ iv _ => M - (intOf iv).toNat)
    case atStart => exact ⟨0, none, 0, Lib.hid (Nat.zero_le _), rfl, rfl, World.ownsRow_nil _ _ _ _, R1.out⟩
    case round =>
      obtain ⟨j, Ao, co, HJ, rfl, rfl, ho, hbj⟩ := hrel
      have HSj := Lib.hid (HS.out.below hbj (Nat.le_refl _))
      have hxj := HX.out.below hbj (Nat.le_refl _)
      have x0 := hxj.c0
      have x1 := hxj.c1
      obtain ⟨L, hL⟩ : ∃ L, mem l j = L := ⟨_, rfl⟩
      obtain ⟨t, htt⟩ : ∃ t, L.length = t := ⟨_, rfl⟩
      have htj := mem_le l j
      rw [hL] at ho htj ⊢
      rw [htt] at ho htj ⊢
      have HTT := Lib.hid (And.intro hL htt)
      by_cases hlt : j < M
      · have d5 : decide ((j : Int) < (M : Int)) = true := by simp; omega
        have HLT := Lib.hid hlt
        have HJ9 := Lib.hid (show j ≤ 1000000000 by have := HM.out; omega)
        have HT6 := Lib.hid (show t ≤ 65536 by have := HM.out; omega)
        have hj5 : (j : Int) ≤ 65536 := by have := HM.out; omega
        clear hlt hL htt htj hxj
        cases hb : bt l j with
        | true =>
          have hmm : mem l (j + 1) = mem l j ++ [j] := memF_one (Nat.zero_le _) hb
          rw [HTT.out.1] at hmm
          have HMM := Lib.hid hmm
          have HBT := Lib.hid hb
          clear hb hmm
          go_wp2_with (first
            | (at_builtin; refine wpList_app E_i64 rfl _ _ rfl rfl (ho.alloc _) rfl (Sees.one _ _ _) (one1 (u := .int .i64 (j : Int)) rfl) (by have := HT6.out; simp [maxLen]; omega) (by have := HT6.out; omega) (by have := hbj.size; simp; omega) ?_; intro A4 c4 w4 hown4 hg4 hb4)
            | (go_at_call 64; refine (refBit_any A n c j l _ HSj.out hw HJ9.out).mono ?_; rw [HBT.out, show b1 true = 1 from rfl]; rintro e w' ⟨rfl, rfl⟩))
          go_roundw
          case rel =>
            have e2 : (L ++ [j]).length = t + 1 := by rw [List.length_append, HTT.out.2]; rfl
            refine ⟨j + 1, A4, c4, Lib.hid HLT.out, by go_num, by rw [HMM.out, e2], ?_, (hbj.alloc hbj.size _).trans hb4⟩
            rw [HMM.out, e2]
            show w4.ownsRow _ _ _ _ _ (((L ++ [j]).map fun i : Nat => (i : Int)).map (Value.int .i64))
            rw [List.map_append, List.map_append]
            exact hown4
          case measure => have := HLT.out; simp [intOf]; omega
        | false =>
          have hmm : mem l (j + 1) = mem l j := memF_none hb
          rw [HTT.out.1] at hmm
          have HMM := Lib.hid hmm
          have HBT := Lib.hid hb
          clear hb hmm
          go_wp2_with (go_at_call 64; refine (refBit_any A n c j l _ HSj.out hw HJ9.out).mono ?_; rw [HBT.out, show b1 false = 0 from rfl]; rintro e w' ⟨rfl, rfl⟩)
          go_roundw
          case rel => exact ⟨j + 1, Ao, co, Lib.hid HLT.out, by go_num, by rw [HMM.out, HTT.out.2], by rw [HMM.out, HTT.out.2]; exact ho, hbj⟩
          case measure => have := HLT.out; simp [intOf]; omega
      · have d5 : decide ((j : Int) < (M : Int)) = false := by simp; omega
        have d5' : decide (j < M) = false := by simp; omega
        have hjM : j = M := by have := HJ.out; omega
        have HMM : Hid (mem l M = L) := Lib.hid (by rw [← hjM]; exact hL)
        clear hlt hL htt htj hxj hjM
        go_wp2
        go_ret
        exact ⟨Ao, co, by rw [HMM.out, HTT.out.2]; rfl, by rw [HMM.out, HTT.out.2]; exact own_base ho (by have := HB.out.2; omega), HB.out.1.trans (hbj.mono HB.out.1.size)⟩
  · rw [if_neg hr]
    have HR := Lib.hid (decide_eq_false hr)
    clear hr
    go_enter Try.func44, Try.ntmps44
    go_wp2_with (go_at_call 40; rw [HW.out]; refine (refRight_any N A n c l _ HS.out hw).mono ?_; rw [HR.out]; rintro e w1 ⟨rfl, k1⟩; have R1 := Lib.hid k1; clear k1)
    go_ret
    exact ⟨none, 0, rfl, World.ownsRow_nil _ _ _ _, below_step HB.out.1 R1.out⟩

theorem membersF_right {l : List Int} {M : Nat} (hr : RightW (M : Int) l) : membersF l M = mem l M := by unfold membersF; rw [if_pos hr, Int.toNat_natCast]
theorem rankF_no {l : List Int} {N i : Int} (hr : ¬ RightW N l) : rankF l N i = 0 := by unfold rankF; rw [if_neg hr]
theorem nextF_no {l : List Int} {N i : Int} (hr : ¬ RightW N l) : nextF l N i = none := by unfold nextF; rw [if_neg hr]
theorem beforeF_no {l : List Int} {N i : Int} (hr : ¬ RightW N l) : beforeF l N i = none := by unfold beforeF selF; rw [if_neg (fun h => hr h.1)]
/-- Where a search for a number among the members stops. -/
theorem rank_stopF {l : List Int} {N i : Int} {n : Nat} (hn : n ≤ (membersF l N).length) (hlo : ∀ k x, k < n → (membersF l N)[k]? = some x → (x : Int) < i) (hhi : ∀ x, (membersF l N)[n]? = some x → i ≤ (x : Int)) : rankF l N i = n := by
  by_cases hr : RightW N l
  · obtain ⟨M, rfl⟩ : ∃ M : Nat, N = (M : Int) := ⟨N.toNat, by have := hr.1; omega⟩
    rw [membersF_right hr] at hn hlo hhi
    exact rank_stop hr hn hlo hhi
  · rw [rankF_no hr]
    unfold membersF at hn
    rw [if_neg hr] at hn
    simp at hn
    omega
theorem next_stopF {l : List Int} {N i : Int} : nextF l N i = (membersF l N)[rankF l N i]? := by
  by_cases hr : RightW N l
  · obtain ⟨M, rfl⟩ : ∃ M : Nat, N = (M : Int) := ⟨N.toNat, by have := hr.1; omega⟩
    rw [membersF_right hr, nextF_rank hr]
  · rw [nextF_no hr]
    unfold membersF
    rw [if_neg hr]; rfl
theorem before_stopF {l : List Int} {N i : Int} {n : Nat} (h : rankF l N i = n + 1) : beforeF l N i = (membersF l N)[n]? := by
  by_cases hr : RightW N l
  · obtain ⟨M, rfl⟩ : ∃ M : Nat, N = (M : Int) := ⟨N.toNat, by have := hr.1; omega⟩
    rw [membersF_right hr]
    unfold beforeF
    rw [h, show ((n + 1 : Nat) : Int) - 1 = (n : Int) by omega, selF_at hr]
  · rw [rankF_no hr] at h; omega
theorem before_none {l : List Int} {N i : Int} (h : rankF l N i = 0) : beforeF l N i = none := by
  unfold beforeF
  rw [h]
  exact selF_neg (by decide)
theorem membersF_lt {l : List Int} {N : Int} {j k x y : Nat} (hx : (membersF l N)[j]? = some x) (hy : (membersF l N)[k]? = some y) (h : j < k) : x < y := by
  by_cases hr : RightW N l
  · obtain ⟨M, rfl⟩ : ∃ M : Nat, N = (M : Int) := ⟨N.toNat, by have := hr.1; omega⟩
    rw [membersF_right hr] at hx hy
    exact mem_lt hx hy h
  · unfold membersF at hx
    rw [if_neg hr] at hx
    simp at hx
theorem membersF_le (l : List Int) (N : Int) : (membersF l N).length ≤ 65536 := by
  unfold membersF
  split
  · rename_i h
    have := mem_le l N.toNat
    have := h.2.1
    omega
  · simp

set_option maxRecDepth 20000 in
set_option maxHeartbeats 800000 in
theorem refRank_any (N i : Int) (A : Option Addr) (n c : Nat) (l : List Int) (w : World) (hs : Sees w 1 A n c (l.map (Value.int .u64))) (hw : W64 l) :
    Calls Try.prog 47 #[rsv N A n c, .int .i64 i] w fun e w' => e = .returned (.int .i64 (rankF l N i : Int)) ∧ Below w.heap.size w w' := by
  have hbw := (Below.refl w.heap.size w).alloc (Nat.le_refl _) (.cells #[.int .i64 N, .slice A n c] 55)
  have HB := Lib.hid hbw
  have HS := Lib.hid (hs.below hbw (Nat.le_refl _))
  clear hbw hs
  obtain ⟨L, hL⟩ : ∃ L, membersF l N = L := ⟨_, rfl⟩
  obtain ⟨t, ht⟩ : ∃ t, L.length = t := ⟨_, rfl⟩
  have HL := Lib.hid (And.intro hL ht)
  have ht5 : (t : Int) ≤ 65536 := by have := membersF_le l N; rw [hL] at this; omega
  clear hL ht
  go_enter Try.func47, Try.ntmps47
  go_wp2_with (go_at_call 44; refine (refMembers_any N A n c l _ HS.out hw).mono ?_; rw [HL.out.1, HL.out.2]; rintro e w1 ⟨A1, c1, rfl, o1, k1⟩; have O1 := Lib.hid (sees_own o1); have B1 := Lib.hid (below_step HB.out k1); clear o1 k1)
  go_loopw [6] (fun iv wr => ∃ k : Nat, Hid (k ≤ t ∧ ∀ j x, j < k → L[j]? = some x → (x : Int) < i) ∧ iv = .int .i64 (k : Int) ∧ wr = w1) (fun iv _ => t - (intOf iv).toNat)
  case atStart => exact ⟨0, Lib.hid ⟨Nat.zero_le _, fun j x h => by omega⟩, rfl, rfl⟩
  case round =>
    obtain ⟨k, HK, rfl, rfl⟩ := hrel
    by_cases hlt : k < t
    · have d5 : decide ((k : Int) < (t : Int)) = true := by simp; omega
      have hk2 : (k : Int) < (t : Int) := by omega
      obtain ⟨x, hx⟩ : ∃ x, L[k]? = some x := ⟨_, List.getElem?_eq_getElem (by rw [HL.out.2]; exact hlt)⟩
      obtain ⟨ba, oa, rfl, g1⟩ := O1.out.int hlt
      rw [castN_at hx] at g1
      have HLT := Lib.hid hlt
      have HXX := Lib.hid hx
      clear hlt hx
      by_cases hxi : (x : Int) < i
      · have d6 : decide ((x : Int) < i) = true := by simpa using hxi
        have HXI := Lib.hid hxi
        clear hxi
        go_wp2
        go_roundw
        case rel => exact ⟨k + 1, Lib.hid ⟨HLT.out, fun j y h hy => by
          by_cases h2 : j = k
          · rw [h2, HXX.out] at hy; cases hy; exact HXI.out
          · exact HK.out.2 j y (by omega) hy⟩, by go_num, trivial⟩
        case measure => have := HLT.out; simp [intOf]; omega
      · have d6 : decide ((x : Int) < i) = false := by simpa using hxi
        have hfin : rankF l N i = k := rank_stopF (by rw [HL.out.1, HL.out.2]; exact HK.out.1) (by rw [HL.out.1]; exact HK.out.2) (by rw [HL.out.1, HXX.out]; intro y hy; cases hy; omega)
        have HF := Lib.hid hfin
        clear hxi hfin
        go_wp2
        go_ret
        exact ⟨ret_int (by rw [HF.out]), B1.out⟩
    · have hkt : k = t := by have := HK.out.1; omega
      have d5 : decide ((k : Int) < (t : Int)) = false := by simp; omega
      have d5' : decide (k < t) = false := by simp; omega
      have hfin : rankF l N i = k := rank_stopF (by rw [HL.out.1, HL.out.2]; exact HK.out.1) (by rw [HL.out.1]; exact HK.out.2) (by rw [HL.out.1, List.getElem?_eq_none (by rw [HL.out.2, hkt]; exact Nat.le_refl _)]; intro y hy; cases hy)
      have HF := Lib.hid hfin
      clear hlt hkt hfin
      go_wp2
      go_ret
      exact ⟨ret_int (by rw [HF.out]), B1.out⟩

set_option maxRecDepth 20000 in
set_option maxHeartbeats 800000 in
theorem refNext_any (N i : Int) (A : Option Addr) (n c : Nat) (l : List Int) (w : World) (hs : Sees w 1 A n c (l.map (Value.int .u64))) (hw : W64 l) :
    Calls Try.prog 49 #[rsv N A n c, .int .i64 i] w fun e w' => e = .returned (.int .i64 (wantV (nextF l N i))) ∧ Below w.heap.size w w' := by
  have hbw := (Below.refl w.heap.size w).alloc (Nat.le_refl _) (.cells #[.int .i64 N, .slice A n c] 55)
  have HB := Lib.hid hbw
  have HS := Lib.hid (hs.below hbw (Nat.le_refl _))
  clear hbw hs
  obtain ⟨L, hL⟩ : ∃ L, membersF l N = L := ⟨_, rfl⟩
  obtain ⟨t, ht⟩ : ∃ t, L.length = t := ⟨_, rfl⟩
  have HL := Lib.hid (And.intro hL ht)
  have ht5 : (t : Int) ≤ 65536 := by have := membersF_le l N; rw [hL] at this; omega
  clear hL ht
  go_enter Try.func49, Try.ntmps49
  go_wp2_with (go_at_call 44; refine (refMembers_any N A n c l _ HS.out hw).mono ?_; rw [HL.out.1, HL.out.2]; rintro e w1 ⟨A1, c1, rfl, o1, k1⟩; have O1 := Lib.hid (sees_own o1); have B1 := Lib.hid (below_step HB.out k1); clear o1 k1)
  go_loopw [6] (fun iv wr => ∃ k : Nat, Hid (k ≤ t ∧ ∀ j x, j < k → L[j]? = some x → (x : Int) < i) ∧ iv = .int .i64 (k : Int) ∧ wr = w1) (fun iv _ => t - (intOf iv).toNat)
  case atStart => exact ⟨0, Lib.hid ⟨Nat.zero_le _, fun j x h => by omega⟩, rfl, rfl⟩
  case round =>
    obtain ⟨k, HK, rfl, rfl⟩ := hrel
    by_cases hlt : k < t
    · have d5 : decide ((k : Int) < (t : Int)) = true := by simp; omega
      have hk2 : (k : Int) < (t : Int) := by omega
      obtain ⟨x, hx⟩ : ∃ x, L[k]? = some x := ⟨_, List.getElem?_eq_getElem (by rw [HL.out.2]; exact hlt)⟩
      obtain ⟨ba, oa, rfl, g1⟩ := O1.out.int hlt
      rw [castN_at hx] at g1
      have HLT := Lib.hid hlt
      have HXX := Lib.hid hx
      clear hlt hx
      by_cases hxi : (x : Int) < i
      · have d6 : decide (i ≤ (x : Int)) = false := by simp; omega
        have HXI := Lib.hid hxi
        clear hxi
        go_wp2
        go_roundw
        case rel => exact ⟨k + 1, Lib.hid ⟨HLT.out, fun j y h hy => by
          by_cases h2 : j = k
          · rw [h2, HXX.out] at hy; cases hy; exact HXI.out
          · exact HK.out.2 j y (by omega) hy⟩, by go_num, trivial⟩
        case measure => have := HLT.out; simp [intOf]; omega
      · have d6 : decide (i ≤ (x : Int)) = true := by simp; omega
        have hfin : rankF l N i = k := rank_stopF (by rw [HL.out.1, HL.out.2]; exact HK.out.1) (by rw [HL.out.1]; exact HK.out.2) (by rw [HL.out.1, HXX.out]; intro y hy; cases hy; omega)
        have HF : Hid (nextF l N i = some x) := Lib.hid (by rw [next_stopF, hfin, HL.out.1, HXX.out])
        clear hxi hfin
        go_wp2
        go_ret
        exact ⟨ret_int (by rw [HF.out]; rfl), B1.out⟩
    · have hkt : k = t := by have := HK.out.1; omega
      have d5 : decide ((k : Int) < (t : Int)) = false := by simp; omega
      have d5' : decide (k < t) = false := by simp; omega
      have hnone : L[k]? = none := List.getElem?_eq_none (by rw [HL.out.2, hkt]; exact Nat.le_refl _)
      have hfin : rankF l N i = k := rank_stopF (by rw [HL.out.1, HL.out.2]; exact HK.out.1) (by rw [HL.out.1]; exact HK.out.2) (by rw [HL.out.1, hnone]; intro y hy; cases hy)
      have HF : Hid (nextF l N i = none) := Lib.hid (by rw [next_stopF, hfin, HL.out.1, hnone])
      clear hlt hkt hfin hnone
      go_wp2
      go_ret
      exact ⟨ret_int (by rw [HF.out]; rfl), B1.out⟩

set_option maxRecDepth 20000 in
set_option maxHeartbeats 800000 in
theorem refBefore_any (N i : Int) (A : Option Addr) (n c : Nat) (l : List Int) (w : World) (hs : Sees w 1 A n c (l.map (Value.int .u64))) (hw : W64 l) :
    Calls Try.prog 50 #[rsv N A n c, .int .i64 i] w fun e w' => e = .returned (.int .i64 (wantV (beforeF l N i))) ∧ Below w.heap.size w w' := by
  have hbw := (Below.refl w.heap.size w).alloc (Nat.le_refl _) (.cells #[.int .i64 N, .slice A n c] 55)
  have HB := Lib.hid hbw
  have HS := Lib.hid (hs.below hbw (Nat.le_refl _))
  clear hbw hs
  obtain ⟨L, hL⟩ : ∃ L, membersF l N = L := ⟨_, rfl⟩
  obtain ⟨t, ht⟩ : ∃ t, L.length = t := ⟨_, rfl⟩
  have HL := Lib.hid (And.intro hL ht)
  have ht5 : (t : Int) ≤ 65536 := by have := membersF_le l N; rw [hL] at this; omega
  clear hL ht
  go_enter Try.func50, Try.ntmps50
  go_wp2_with (go_at_call 44; refine (refMembers_any N A n c l _ HS.out hw).mono ?_; rw [HL.out.1, HL.out.2]; rintro e w1 ⟨A1, c1, rfl, o1, k1⟩; have O1 := Lib.hid (sees_own o1); have B1 := Lib.hid (below_step HB.out k1); clear o1 k1)
  go_loopw [6] (fun iv wr => ∃ k : Nat, Hid (k ≤ t ∧ ∀ j x, k ≤ j → L[j]? = some x → i ≤ (x : Int)) ∧ iv = .int .i64 ((k : Int) - 1) ∧ wr = w1) (fun iv _ => (intOf iv + 1).toNat)
  case atStart => exact ⟨t, Lib.hid ⟨Nat.le_refl _, fun j x h hx => by
      rw [List.getElem?_eq_none (by rw [HL.out.2]; exact h)] at hx; cases hx⟩, rfl, rfl⟩
  case round =>
    obtain ⟨k, HK, rfl, rfl⟩ := hrel
    by_cases hlt : 0 < k
    · obtain ⟨j, hj⟩ : ∃ j, k = j + 1 := ⟨k - 1, by omega⟩
      have hj1 : (k : Int) - 1 = (j : Int) := by omega
      have hjt : j < t := by have := HK.out.1; omega
      have d5 : decide ((0 : Int) ≤ (j : Int)) = true := by simp
      have hj2 : (j : Int) < (t : Int) := by omega
      obtain ⟨x, hx⟩ : ∃ x, L[j]? = some x := ⟨_, List.getElem?_eq_getElem (by rw [HL.out.2]; exact hjt)⟩
      obtain ⟨ba, oa, rfl, g1⟩ := O1.out.int hjt
      rw [castN_at hx] at g1
      have HLT := Lib.hid (And.intro hjt hj)
      have HXX := Lib.hid hx
      clear hlt hx hjt hj
      by_cases hxi : (x : Int) < i
      · have d6 : decide ((x : Int) < i) = true := by simpa using hxi
        have hfin : rankF l N i = j + 1 := rank_stopF (by rw [HL.out.1, HL.out.2]; have := HLT.out; omega) (by
            rw [HL.out.1]
            intro p y hp hy
            by_cases h2 : p = j
            · rw [h2, HXX.out] at hy; cases hy; exact hxi
            · have := membersF_lt (l := l) (N := N) (j := p) (k := j) (x := y) (y := x) (by rw [HL.out.1]; exact hy) (by rw [HL.out.1]; exact HXX.out) (by omega)
              omega) (by rw [HL.out.1]; intro y hy; exact HK.out.2 (j + 1) y (by have := HLT.out; omega) hy)
        have HF : Hid (beforeF l N i = some x) := Lib.hid (by rw [before_stopF hfin, HL.out.1, HXX.out])
        clear hxi hfin
        go_wp2
        go_ret
        exact ⟨ret_int (by rw [HF.out]; rfl), B1.out⟩
      · have d6 : decide ((x : Int) < i) = false := by simpa using hxi
        have HXI := Lib.hid hxi
        clear hxi
        go_wp2
        go_roundw
        case rel => exact ⟨j, Lib.hid ⟨by have := HLT.out; omega, fun p y h hy => by
          by_cases h2 : p = j
          · rw [h2, HXX.out] at hy; cases hy; have := HXI.out; omega
          · exact HK.out.2 p y (by have := HLT.out; omega) hy⟩, by go_num, trivial⟩
        case measure => simp [intOf]; omega
    · have hk0 : k = 0 := by omega
      have d5 : decide ((0 : Int) ≤ (k : Int) - 1) = false := by simp; omega
      have hfin : rankF l N i = 0 := rank_stopF (Nat.zero_le _) (fun p y hp => by omega) (by rw [HL.out.1]; intro y hy; exact HK.out.2 0 y (by omega) hy)
      have HF := Lib.hid (before_none hfin)
      have hkk : (k : Int) ≤ 0 := by omega
      clear hlt hk0 hfin
      go_wp2
      go_ret
      exact ⟨ret_int (by rw [HF.out]; rfl), B1.out⟩
end Go.Proofs.Ytemhoaleeefhhaa
