/- Walks: slices.Clone of words, changed, With, Without. -/
import Derived.Test.YtemhoaleeefhhaaProg
import Derived.Test.YtemhoaleeefhhaaBl
import Derived.Deep.RegionWith
import Derived.WalkLawsBesides
namespace Go.Proofs.Ytemhoaleeefhhaa
open Go.RowKit
set_option linter.unusedVariables false

theorem eql_nil64 (w : World) (A : Option Addr) (n c : Nat) : (binOp .eql 22 (.slice A n c) (.slice none 0 0)).run Try.prog w = .ok (.bool A.isNone) w := Lib.run_eql_slice_nil w 22 54 A n c 0 0 Try.underlying22

set_option maxRecDepth 20000 in
theorem Clone64_any (A : Option Addr) (n c : Nat) (l : List Int) (w : World) (h : Sees w 1 A n c (l.map (Value.int .u64))) (hn : n ≤ 100000) :
    Calls Try.prog 69 #[.slice A n c] w fun e w' => ∃ A' c', e = .returned (.slice A' n c') ∧ w'.ownsRow w.heap.size 54 1 (.slice A' n c') n (l.map (Value.int .u64)) ∧ Below w.heap.size w w' := by
  have hE := eql_nil64
  cases A with
  | none =>
    have hc := h.nil_ rfl
    have hn0 : n = 0 := by have := h.cap; omega
    subst hn0 hc
    obtain rfl : l = [] := by have := h.length; exact List.eq_nil_of_length_eq_zero this
    go_enter Try.func69, Try.ntmps69
    go_wp2
    go_ret
    exact ⟨none, 0, rfl, World.ownsRow_nil _ _ _ _, Below.refl _ _⟩
  | some a =>
    go_enter Try.func69, Try.ntmps69
    go_wp2_with (at_builtin; refine wpList_app E_u64 rfl _ _ rfl rfl (World.ownsRow_lit (base := w.heap.size) (e := 54) (size := 1) w #[] 0 (Nat.le_refl _) (by decide) rfl) rfl (h.below ((Below.refl _ _).alloc (Nat.le_refl _) _) (Nat.le_refl _)) (ints1 _ _) (by simp [maxLen]; omega) (by omega) (by simp) ?_; intro A2 c2 w2 hown2 hg2 hb2)
    go_ret
    have hb := ((Below.refl w.heap.size w).alloc (Nat.le_refl _) (.cells #[] 54)).trans hb2
    rw [Nat.zero_add] at hown2
    exact ⟨A2, c2, by simp, by simpa using hown2, hb⟩

theorem step_wpX {P : Program} {ops : Array Oper} {o : Oper} {a : Act} {K : Act → World → Prop} {Q : Exit → Act → World → Prop} {w : World} {F : Prop} (hgd : o.guard = none) (h : o.wp P a w K Q) :
    if Region.wanted o (yielded ops a.tmps) = true then Oper.wp P o a w K Q else F := by
  rw [if_pos (by simp [Region.wanted, hgd])]; exact h

theorem off_p64 {x : Int} (h0 : 0 ≤ x) (h1 : x ≤ 18446744073709551615) {r : Nat} (hr : r < 64) : IntKind.u64.wrap ((2 : Int) ^ r) = 2 ^ r ∧ bits BinOp.andNot IntKind.u64 x (2 ^ r) = ((fMin x.toNat (2 ^ r) : Nat) : Int) := by
  have hp : (2 : Nat) ^ r < 2 ^ 64 := Nat.pow_lt_pow_right (by decide) hr
  rw [e64] at hp
  have e : ((2 : Int) ^ r) = ((2 ^ r : Nat) : Int) := by push_cast; rfl
  rw [e]
  generalize 2 ^ r = p at hp
  refine ⟨IntWalk.u64_in _ (by omega), ?_⟩
  rw [u64_andNot x _ h0 (by omega) (by omega) (by omega), Int.toNat_natCast, fMin_eq (by omega) hp]

set_option maxRecDepth 20000 in
theorem With1_any (r z : Nat) (x : Int) (w : World) (h : bits BinOp.or IntKind.u64 x (2 ^ r) = (z : Int)) :
    Calls Try.prog 56 #[.int .u64 x, .int .u64 (2 ^ r)] w fun e w' => e = .returned (.int .u64 (z : Int)) ∧ w' = w := by
  go_enter Try.func56, Try.ntmps56
  go_wp2
  go_ret
  exact ⟨rfl, rfl⟩
set_option maxRecDepth 20000 in
theorem Without1_any (r z : Nat) (x : Int) (w : World) (h : bits BinOp.andNot IntKind.u64 x (2 ^ r) = (z : Int)) :
    Calls Try.prog 57 #[.int .u64 x, .int .u64 (2 ^ r)] w fun e w' => e = .returned (.int .u64 (z : Int)) ∧ w' = w := by
  go_enter Try.func57, Try.ntmps57
  go_wp2
  go_ret
  exact ⟨rfl, rfl⟩

set_option maxRecDepth 20000 in
set_option maxHeartbeats 1600000 in
theorem With_changed_bad (N i : Int) (A : Option Addr) (n c : Nat) (l : List Int) (w : World) (hs : Sees w 1 A n c (l.map (Value.int .u64))) (hw : W64 l) (h : ¬ RightW N l ∨ (i < 0 ∨ N ≤ i)) :
    Calls Try.prog 55 #[setv N A n c, .int .i64 i, .func (.func 56) #[] #[]] w fun e w' => e = .returned (.tuple #[setv 0 none 0 0, .int .i64 (if RightW N l then 2 else 50)]) ∧ Below w.heap.size w w' := by
  obtain ⟨W, hW⟩ : ∃ W, (w.alloc (.cells #[.int .i64 N, .slice A n c] 24)).alloc (.cells #[.int .i64 0, .slice none 0 0] 24) = W := ⟨_, rfl⟩
  have hB : Below w.heap.size w W := by rw [← hW]; exact ((Below.refl _ _).alloc (Nat.le_refl _) _).alloc (by simp) _
  have X0 : SetB W w.heap.size N A n c := by rw [← hW]; exact (SetB.new w N A n c).alloc _
  have Y0 : SetB W (w.heap.size + 1) 0 none 0 0 := by rw [← hW]; exact lit_newB (by simp)
  have HS := Lib.hid (hs.below hB (Nat.le_refl _))
  have HB := Lib.hid hB
  have HX := Lib.hid X0
  have HY := Lib.hid Y0
  have HW := Lib.hid hW
  clear hs hB X0 Y0 hW
  by_cases hr : RightW N l
  · rw [if_pos hr]
    have HR := Lib.hid (decide_eq_true hr)
    have hin : i < 0 ∨ N ≤ i := by
      rcases h with h | h
      · exact absurd hr h
      · exact h
    by_cases h0 : i < 0
    · have d0 : decide (i < 0) = true := by simpa using h0
      clear h hr hin h0
      go_enter Try.func55, Try.ntmps55
      go_wp2_with (go_at_call 34; rw [HW.out]; refine (Right_any N A n c l _ HS.out hw).mono ?_; rw [HR.out]; rintro e w1 ⟨rfl, k1⟩; have K1 := Lib.hid k1; have x1 := HX.out.below k1 (Nat.le_refl _); have y1 := HY.out.below k1 (Nat.le_refl _); have x10 := x1.c0; have x11 := x1.c1; have y10 := y1.c0; have y11 := y1.c1; have f0 : w1.frozen? ⟨w.heap.size + 1, 0, none⟩ = false := y1.f 0; have f1 : w1.frozen? ⟨w.heap.size + 1, 1, none⟩ = false := y1.f 1; have Y1 := Lib.hid y1; clear k1 x1 y1)
      have P9 := Y1.out.put (N' := 0) (A' := none) (n' := 0) (c' := 0)
      have z0 := P9.c0
      have z1 := P9.c1
      exact bodyPost_ret (v := .tuple #[setv 0 none 0 0, .int .i64 2]) (by simp [results, Try.results55, go_sem, z0, z1]) rfl ⟨rfl, below_put (below_step HB.out K1.out) (Nat.le_succ _) _ _⟩
    · have d0 : decide (i < 0) = false := by simpa using h0
      have d1 : decide (N ≤ i) = true := by simp; omega
      clear h hr hin h0
      go_enter Try.func55, Try.ntmps55
      go_wp2_with (go_at_call 34; rw [HW.out]; refine (Right_any N A n c l _ HS.out hw).mono ?_; rw [HR.out]; rintro e w1 ⟨rfl, k1⟩; have K1 := Lib.hid k1; have x1 := HX.out.below k1 (Nat.le_refl _); have y1 := HY.out.below k1 (Nat.le_refl _); have x10 := x1.c0; have x11 := x1.c1; have y10 := y1.c0; have y11 := y1.c1; have f0 : w1.frozen? ⟨w.heap.size + 1, 0, none⟩ = false := y1.f 0; have f1 : w1.frozen? ⟨w.heap.size + 1, 1, none⟩ = false := y1.f 1; have Y1 := Lib.hid y1; clear k1 x1 y1)
      have P9 := Y1.out.put (N' := 0) (A' := none) (n' := 0) (c' := 0)
      have z0 := P9.c0
      have z1 := P9.c1
      exact bodyPost_ret (v := .tuple #[setv 0 none 0 0, .int .i64 2]) (by simp [results, Try.results55, go_sem, z0, z1]) rfl ⟨rfl, below_put (below_step HB.out K1.out) (Nat.le_succ _) _ _⟩
  · rw [if_neg hr]
    have HR := Lib.hid (decide_eq_false hr)
    clear h hr
    go_enter Try.func55, Try.ntmps55
    go_wp2_with (go_at_call 34; rw [HW.out]; refine (Right_any N A n c l _ HS.out hw).mono ?_; rw [HR.out]; rintro e w1 ⟨rfl, k1⟩; have K1 := Lib.hid k1; have x1 := HX.out.below k1 (Nat.le_refl _); have y1 := HY.out.below k1 (Nat.le_refl _); have x10 := x1.c0; have x11 := x1.c1; have y10 := y1.c0; have y11 := y1.c1; have f0 : w1.frozen? ⟨w.heap.size + 1, 0, none⟩ = false := y1.f 0; have f1 : w1.frozen? ⟨w.heap.size + 1, 1, none⟩ = false := y1.f 1; have Y1 := Lib.hid y1; clear k1 x1 y1)
    have P9 := Y1.out.put (N' := 0) (A' := none) (n' := 0) (c' := 0)
    have z0 := P9.c0
    have z1 := P9.c1
    exact bodyPost_ret (v := .tuple #[setv 0 none 0 0, .int .i64 50]) (by simp [results, Try.results55, go_sem, z0, z1]) rfl ⟨rfl, below_put (below_step HB.out K1.out) (Nat.le_succ _) _ _⟩
set_option maxRecDepth 20000 in
set_option maxHeartbeats 1600000 in
theorem Without_changed_bad (N i : Int) (A : Option Addr) (n c : Nat) (l : List Int) (w : World) (hs : Sees w 1 A n c (l.map (Value.int .u64))) (hw : W64 l) (h : ¬ RightW N l ∨ (i < 0 ∨ N ≤ i)) :
    Calls Try.prog 55 #[setv N A n c, .int .i64 i, .func (.func 57) #[] #[]] w fun e w' => e = .returned (.tuple #[setv 0 none 0 0, .int .i64 (if RightW N l then 2 else 50)]) ∧ Below w.heap.size w w' := by
  obtain ⟨W, hW⟩ : ∃ W, (w.alloc (.cells #[.int .i64 N, .slice A n c] 24)).alloc (.cells #[.int .i64 0, .slice none 0 0] 24) = W := ⟨_, rfl⟩
  have hB : Below w.heap.size w W := by rw [← hW]; exact ((Below.refl _ _).alloc (Nat.le_refl _) _).alloc (by simp) _
  have X0 : SetB W w.heap.size N A n c := by rw [← hW]; exact (SetB.new w N A n c).alloc _
  have Y0 : SetB W (w.heap.size + 1) 0 none 0 0 := by rw [← hW]; exact lit_newB (by simp)
  have HS := Lib.hid (hs.below hB (Nat.le_refl _))
  have HB := Lib.hid hB
  have HX := Lib.hid X0
  have HY := Lib.hid Y0
  have HW := Lib.hid hW
  clear hs hB X0 Y0 hW
  by_cases hr : RightW N l
  · rw [if_pos hr]
    have HR := Lib.hid (decide_eq_true hr)
    have hin : i < 0 ∨ N ≤ i := by
      rcases h with h | h
      · exact absurd hr h
      · exact h
    by_cases h0 : i < 0
    · have d0 : decide (i < 0) = true := by simpa using h0
      clear h hr hin h0
      go_enter Try.func55, Try.ntmps55
      go_wp2_with (go_at_call 34; rw [HW.out]; refine (Right_any N A n c l _ HS.out hw).mono ?_; rw [HR.out]; rintro e w1 ⟨rfl, k1⟩; have K1 := Lib.hid k1; have x1 := HX.out.below k1 (Nat.le_refl _); have y1 := HY.out.below k1 (Nat.le_refl _); have x10 := x1.c0; have x11 := x1.c1; have y10 := y1.c0; have y11 := y1.c1; have f0 : w1.frozen? ⟨w.heap.size + 1, 0, none⟩ = false := y1.f 0; have f1 : w1.frozen? ⟨w.heap.size + 1, 1, none⟩ = false := y1.f 1; have Y1 := Lib.hid y1; clear k1 x1 y1)
      have P9 := Y1.out.put (N' := 0) (A' := none) (n' := 0) (c' := 0)
      have z0 := P9.c0
      have z1 := P9.c1
      exact bodyPost_ret (v := .tuple #[setv 0 none 0 0, .int .i64 2]) (by simp [results, Try.results55, go_sem, z0, z1]) rfl ⟨rfl, below_put (below_step HB.out K1.out) (Nat.le_succ _) _ _⟩
    · have d0 : decide (i < 0) = false := by simpa using h0
      have d1 : decide (N ≤ i) = true := by simp; omega
      clear h hr hin h0
      go_enter Try.func55, Try.ntmps55
      go_wp2_with (go_at_call 34; rw [HW.out]; refine (Right_any N A n c l _ HS.out hw).mono ?_; rw [HR.out]; rintro e w1 ⟨rfl, k1⟩; have K1 := Lib.hid k1; have x1 := HX.out.below k1 (Nat.le_refl _); have y1 := HY.out.below k1 (Nat.le_refl _); have x10 := x1.c0; have x11 := x1.c1; have y10 := y1.c0; have y11 := y1.c1; have f0 : w1.frozen? ⟨w.heap.size + 1, 0, none⟩ = false := y1.f 0; have f1 : w1.frozen? ⟨w.heap.size + 1, 1, none⟩ = false := y1.f 1; have Y1 := Lib.hid y1; clear k1 x1 y1)
      have P9 := Y1.out.put (N' := 0) (A' := none) (n' := 0) (c' := 0)
      have z0 := P9.c0
      have z1 := P9.c1
      exact bodyPost_ret (v := .tuple #[setv 0 none 0 0, .int .i64 2]) (by simp [results, Try.results55, go_sem, z0, z1]) rfl ⟨rfl, below_put (below_step HB.out K1.out) (Nat.le_succ _) _ _⟩
  · rw [if_neg hr]
    have HR := Lib.hid (decide_eq_false hr)
    clear h hr
    go_enter Try.func55, Try.ntmps55
    go_wp2_with (go_at_call 34; rw [HW.out]; refine (Right_any N A n c l _ HS.out hw).mono ?_; rw [HR.out]; rintro e w1 ⟨rfl, k1⟩; have K1 := Lib.hid k1; have x1 := HX.out.below k1 (Nat.le_refl _); have y1 := HY.out.below k1 (Nat.le_refl _); have x10 := x1.c0; have x11 := x1.c1; have y10 := y1.c0; have y11 := y1.c1; have f0 : w1.frozen? ⟨w.heap.size + 1, 0, none⟩ = false := y1.f 0; have f1 : w1.frozen? ⟨w.heap.size + 1, 1, none⟩ = false := y1.f 1; have Y1 := Lib.hid y1; clear k1 x1 y1)
    have P9 := Y1.out.put (N' := 0) (A' := none) (n' := 0) (c' := 0)
    have z0 := P9.c0
    have z1 := P9.c1
    exact bodyPost_ret (v := .tuple #[setv 0 none 0 0, .int .i64 50]) (by simp [results, Try.results55, go_sem, z0, z1]) rfl ⟨rfl, below_put (below_step HB.out K1.out) (Nat.le_succ _) _ _⟩
end Go.Proofs.Ytemhoaleeefhhaa
