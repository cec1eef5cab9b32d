/- Walks: the law's awake. -/
import Derived.Test.YtemhoaleeefhhaaProg
import Derived.Test.YtemhoaleeefhhaaBs
namespace Go.Proofs.Ytemhoaleeefhhaa
open Go.RowKit
set_option linter.unusedVariables false

theorem w64_lit2 {a b : Int} (h : (0 ≤ a ∧ a ≤ 18446744073709551615) ∧ (0 ≤ b ∧ b ≤ 18446744073709551615)) : W64 [a, b] := by
  intro x hx; simp at hx; rcases hx with rfl | rfl
  · exact h.1
  · exact h.2
theorem w103 : W64 [10, 3] := w64_lit2 (by decide)
theorem ex_of : ofW 70 [1, 64, 65, 3] = [10, 3] := by decide +kernel
theorem ex_ok : okAll 70 [1, 64, 65, 3] := by unfold okAll; decide
theorem ex_right : RightW (70 : Int) [10, 3] := by decide
theorem ex_r65536 : rankF [10, 3] (70 : Int) 65536 = 4 := by decide +kernel
theorem ex_r64 : rankF [10, 3] (70 : Int) 64 = 2 := by decide +kernel
theorem ex_r1000 : rankF [10, 3] (70 : Int) 1000 = 4 := by decide +kernel
theorem ex_sel : selF [10, 3] (70 : Int) 3 = some 65 := by decide +kernel
theorem ex_next : nextF [10, 3] (70 : Int) 4 = some 64 := by decide +kernel
theorem ex_bef : beforeF [10, 3] (70 : Int) 64 = some 3 := by decide +kernel
theorem ex_runs : runsF [10, 3] (70 : Int) = [(1, 2), (3, 4), (64, 66)] := by decide +kernel
theorem ex_off : offB [10, 3] 64 = [10, 2] := by decide +kernel
theorem ex_both : bothE (70 : Int) (71 : Int) [10, 3] [0, 0] = 51 := by decide +kernel
theorem ex_bad : decide (RightW (70 : Int) [0, 64]) = false := by decide

theorem sees_flat {w : World} {g n : Nat} {cs : Array Value} {e : TypeId} {rs : List (Nat × Nat)} (h : w.heap[g]? = some (.cells cs e)) (hn : rs.length = n) (hc : n ≤ maxLen) (hx : cs = (flatR rs).toArray) : Sees w 2 (some ⟨g, 0, none⟩) n n (flatR rs) :=
  ⟨by rw [flatR_len, hn], Nat.le_refl _, hc, (fun h => by cases h), fun k u hu => ⟨g, 0, rfl, by subst hx; simp [World.cell?, h, hu]⟩⟩
/-- The set of the example, in a box. -/
def AW (w W : World) (b : Nat) (A : Option Addr) (n c : Nat) : Prop := Below w.heap.size w W ∧ SetB W b (70 : Int) A n c ∧ Sees W 1 A n c (([10, 3] : List Int).map (Value.int .u64))
theorem AW.step {w W W' : World} {b n c : Nat} {A : Option Addr} (h : AW w W b A n c) (k : Below W.heap.size W W') : AW w W' b A n c := ⟨below_step h.1 k, h.2.1.below k (Nat.le_refl _), h.2.2.below k (Nat.le_refl _)⟩
theorem AW.alloc {w W : World} {b n c : Nat} {A : Option Addr} (h : AW w W b A n c) (o : Obj) : AW w (W.alloc o) b A n c := h.step ((Below.refl _ _).alloc (Nat.le_refl _) _)

theorem Without_lit {N I : Int} (n0 i : Nat) (hN : N = (n0 : Int)) (hI : I = (i : Int)) (A : Option Addr) (n c : Nat) (l : List Int) (w : World) (hs : Sees w 1 A n c (l.map (Value.int .u64))) (hw : W64 l) (hr : RightW N l) (hi : i < n0) :
    Calls Try.prog 27 #[setv N A n c, .int .i64 I] w fun e w' => ∃ v, e = .returned (.tuple #[v, .int .i64 0]) ∧ Made w w' N v (offB l i) ∧ Below w.heap.size w w' := by
  subst hN hI; exact Without_ok n0 i A n c l w hs hw hr hi
theorem New_lit {N : Int} (n : Nat) (hN : N = (n : Int)) (w : World) (h : n ≤ 65536) :
    Calls Try.prog 37 #[.int .i64 N] w fun e w' => ∃ v, e = .returned (.tuple #[v, .int .i64 0]) ∧ Made w w' N v (List.replicate ((n + 63) / 64) 0) ∧ Below w.heap.size w w' := by
  subst hN; exact New_ok n w h

set_option maxRecDepth 20000 in
set_option maxHeartbeats 3200000 in
theorem awake_any (w : World) : Calls Try.prog 13 #[] w fun e w' => e = .returned (.bool true) ∧ Below w.heap.size w w' := by
  have HOF := fun W (h : Sees W 1 (some ⟨w.heap.size, 0, none⟩) 4 4 (([1, 64, 65, 3] : List Int).map (Value.int .i64))) => Of_in 70 (some ⟨w.heap.size, 0, none⟩) 4 4 [1, 64, 65, 3] W (by decide) h
  go_enter Try.func13, Try.ntmps13
  go_wp2_with (first
    | (go_at_call 34; have _q := B14; refine (Right_any 70 _ 2 2 [0, 64] _ (by exact sees_block (heap_alloc_new _ _) rfl (by decide) (by decide) ⟨[], rfl⟩) (w64_lit2 (by decide))).mono ?_; rw [ex_bad]; rintro e w15 ⟨rfl, k15⟩; have B15 := Lib.hid (below_step (B14.out.alloc B14.out.size (.cells #[.int .u64 0, .int .u64 64] 54)) k15); clear k15)
    | (go_at_call 25; have _q := S13; refine (SameNums_any _ _ _ _ _ _ [10, 2] [10, 2] _ (by exact T13.out.2.below ((Below.refl _ _).alloc (Nat.le_refl _) _) (Nat.le_refl _)) (by exact sees_block (lit_newB (by simp)) rfl (by decide) (by decide) ⟨[], rfl⟩)).mono ?_; rw [eqL_self]; rintro e w14 ⟨rfl, k14⟩; have B14 := Lib.hid ((S13.out.alloc (.cells #[.int .u64 10, .int .u64 2] 54)).step k14).1; clear k14)
    | (go_at_call 31; refine (Or_bad 70 71 A1 A12 n1 c1 n12 c12 [10, 3] [0, 0] _ (by exact S12.out.2.2) (by exact O12.out) w103 (w64_lit2 (by decide)) (by rw [ex_both]; decide)).mono ?_; rw [ex_both]; rintro e w13 ⟨rfl, k13⟩; have S13 := Lib.hid ((S12.out.step k13).alloc (.cells #[.int .i64 0, .slice none 0 0] 24)); have T13 := Lib.hid (show SetB (w13.alloc (.cells #[.int .i64 0, .slice none 0 0] 24)) w11.heap.size 70 A11 n11 c11 ∧ Sees (w13.alloc (.cells #[.int .i64 0, .slice none 0 0] 24)) 1 A11 n11 c11 (([10, 2] : List Int).map (Value.int .u64)) from ⟨(T12.out.1.below k13 (Nat.le_refl _)).alloc _, (T12.out.2.below k13 (Nat.le_refl _)).below ((Below.refl _ _).alloc (Nat.le_refl _) _) (Nat.le_refl _)⟩); have z130 := T13.out.1.c0; have z131 := T13.out.1.c1; clear k13 y120 y121)
    | (go_at_call 37; refine (New_lit 71 (by rfl) _ (by decide)).mono ?_; rintro e w12 ⟨v, rfl, ⟨A12, n12, c12, rfl, o12⟩, k12⟩; have O12 := Lib.hid ((sees_own o12).below ((Below.refl w12.heap.size w12).alloc (Nat.le_refl _) (.cells #[.int .i64 71, .slice A12 n12 c12] 24)) (Nat.le_refl _)); have S12 := Lib.hid ((S11.out.step k12).alloc (.cells #[.int .i64 71, .slice A12 n12 c12] 24)); have T12 := Lib.hid (show SetB (w12.alloc (.cells #[.int .i64 71, .slice A12 n12 c12] 24)) w11.heap.size 70 A11 n11 c11 ∧ Sees (w12.alloc (.cells #[.int .i64 71, .slice A12 n12 c12] 24)) 1 A11 n11 c11 (([10, 2] : List Int).map (Value.int .u64)) from ⟨(T11.out.1.below k12 (Nat.le_refl _)).alloc _, (T11.out.2.below k12 (Nat.le_refl _)).below ((Below.refl _ _).alloc (Nat.le_refl _) _) (Nat.le_refl _)⟩); have y120 := S12.out.2.1.c0; have y121 := S12.out.2.1.c1; clear k12 o12)
    | (go_at_call 27; refine (Without_lit 70 64 (by rfl) (by rfl) A1 n1 c1 [10, 3] _ S10.out.2.2 w103 ex_right (by decide)).mono ?_; rw [ex_off]; rintro e w11 ⟨v, rfl, ⟨A11, n11, c11, rfl, o11⟩, k11⟩; have S11 := Lib.hid ((S10.out.step k11).alloc (.cells #[.int .i64 70, .slice A11 n11 c11] 24)); have T11 := Lib.hid (show SetB (w11.alloc (.cells #[.int .i64 70, .slice A11 n11 c11] 24)) w11.heap.size 70 A11 n11 c11 ∧ Sees (w11.alloc (.cells #[.int .i64 70, .slice A11 n11 c11] 24)) 1 A11 n11 c11 (([10, 2] : List Int).map (Value.int .u64)) from ⟨SetB.new _ _ _ _ _, (sees_own o11).below ((Below.refl _ _).alloc (Nat.le_refl _) _) (Nat.le_refl _)⟩); clear k11 o11 y100 y101)
    | (go_at_call 43; refine (sameRuns_same _ _ 3 _ _ [(1, 2), (3, 4), (64, 66)] _ (by exact O9.out.below ((Below.refl _ _).alloc (Nat.le_refl _) _) (Nat.le_refl _)) (by exact sees_flat (heap_alloc_new _ _) rfl (by decide) rfl) (by decide)).mono ?_; rintro e w10 ⟨rfl, k10⟩; have S10 := Lib.hid ((S9.out.alloc _).step k10); have y100 := S10.out.2.1.c0; have y101 := S10.out.2.1.c1; clear k10 y90 y91)
    | (go_at_call 29; refine (Runs_any 70 A1 n1 c1 [10, 3] _ S8.out.2.2 w103).mono ?_; rw [ex_runs]; rintro e w9 ⟨A9, c9, rfl, o9, k9⟩; have O9 := Lib.hid (sees_own o9); have S9 := Lib.hid (S8.out.step k9); have y90 := S9.out.2.1.c0; have y91 := S9.out.2.1.c1; clear k9 o9 y80 y81)
    | (go_at_call 21; refine (Before_any 70 64 A1 n1 c1 [10, 3] _ S7.out.2.2 w103).mono ?_; rw [ex_bef]; simp only [optV]; rintro e w8 ⟨rfl, k8⟩; have S8 := Lib.hid (S7.out.step k8); have y80 := S8.out.2.1.c0; have y81 := S8.out.2.1.c1; clear k8 y70 y71)
    | (go_at_call 20; refine (Next_any 70 4 A1 n1 c1 [10, 3] _ S6.out.2.2 w103).mono ?_; rw [ex_next]; simp only [optV]; rintro e w7 ⟨rfl, k7⟩; have S7 := Lib.hid (S6.out.step k7); have y70 := S7.out.2.1.c0; have y71 := S7.out.2.1.c1; clear k7 y60 y61)
    | (go_at_call 19; refine (Select_any 70 3 A1 n1 c1 [10, 3] _ S5.out.2.2 w103 (by decide)).mono ?_; rw [ex_sel]; simp only [optV]; rintro e w6 ⟨rfl, k6⟩; have S6 := Lib.hid (S5.out.step k6); have y60 := S6.out.2.1.c0; have y61 := S6.out.2.1.c1; clear k6 y50 y51)
    | (go_at_call 18; have _q := S4; refine (Rank_any 70 1000 A1 n1 c1 [10, 3] _ S4.out.2.2 w103).mono ?_; rw [ex_r1000]; rintro e w5 ⟨rfl, k5⟩; have S5 := Lib.hid (S4.out.step k5); have y50 := S5.out.2.1.c0; have y51 := S5.out.2.1.c1; clear k5 y40 y41)
    | (go_at_call 18; refine (Rank_any 70 64 A1 n1 c1 [10, 3] _ S3.out.2.2 w103).mono ?_; rw [ex_r64]; rintro e w4 ⟨rfl, k4⟩; have S4 := Lib.hid (S3.out.step k4); have y40 := S4.out.2.1.c0; have y41 := S4.out.2.1.c1; clear k4 y30 y31)
    | (go_at_call 17; refine (Count_any 70 A1 n1 c1 [10, 3] _ S2.out.2.2 w103).mono ?_; rw [ex_r65536]; rintro e w3 ⟨rfl, k3⟩; have S3 := Lib.hid (S2.out.step k3); have y30 := S3.out.2.1.c0; have y31 := S3.out.2.1.c1; clear k3 y20 y21)
    | (go_at_call 25; refine (SameNums_any _ _ _ _ _ _ [10, 3] [10, 3] _ (by exact (S0.out.alloc _).2.2) (by exact sees_block (lit_newB (by simp)) rfl (by decide) (by decide) ⟨[], rfl⟩)).mono ?_; rw [eqL_self]; rintro e w2 ⟨rfl, k2⟩; have S2 := Lib.hid ((S0.out.alloc _).step k2); have y20 := S2.out.2.1.c0; have y21 := S2.out.2.1.c1; clear k2)
    | (go_at_call 24; refine (HOF _ (by exact sees_block (heap_alloc_new _ _) rfl (by decide) (by decide) ⟨[], rfl⟩)).mono ?_; rintro e w1 ⟨h1, k1⟩; rcases h1 with ⟨_, v, rfl, A1, n1, c1, rfl, o1⟩ | ⟨hbad, _⟩; rotate_left; exact absurd ex_ok hbad; rw [ex_of] at o1; have o1 := Lib.hid (sees_own o1); have b1 := Lib.hid (below_step ((Below.refl w.heap.size w).alloc (Nat.le_refl _) (.cells #[.int .i64 1, .int .i64 64, .int .i64 65, .int .i64 3] 3)) k1); clear k1; have S0 := Lib.hid (show AW w (w1.alloc (.cells #[.int .i64 70, .slice A1 n1 c1] 24)) w1.heap.size A1 n1 c1 from ⟨b1.out.alloc b1.out.size _, SetB.new _ _ _ _ _, o1.out.below ((Below.refl _ _).alloc (Nat.le_refl _) _) (Nat.le_refl _)⟩)))
  go_ret
  exact ⟨rfl, B15.out⟩
end Go.Proofs.Ytemhoaleeefhhaa
