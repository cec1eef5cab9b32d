/- Walks: both, Or, And, Minus. -/
import Derived.Test.YtemhoaleeefhhaaProg
import Derived.Test.YtemhoaleeefhhaaBo
namespace Go.Proofs.Ytemhoaleeefhhaa
open Go.RowKit
set_option linter.unusedVariables false

/-- What putting together answers. -/
def bothE (M N : Int) (a b : List Int) : Int := if ¬ RightW M a ∨ ¬ RightW N b then 50 else if M ≠ N then 51 else 0

/-- The three boxes of a function of two sets. -/
def Bx3 (w W : World) (M N : Int) (A1 A2 : Option Addr) (n1 c1 n2 c2 : Nat) : Prop := SetB W w.heap.size M A1 n1 c1 ∧ SetB W (w.heap.size + 1) N A2 n2 c2 ∧ SetB W (w.heap.size + 2) 0 none 0 0 ∧ Below w.heap.size w W
theorem Bx3.new (w : World) (M N : Int) (A1 A2 : Option Addr) (n1 c1 n2 c2 : Nat) : Bx3 w (((w.alloc (.cells #[.int .i64 M, .slice A1 n1 c1] 24)).alloc (.cells #[.int .i64 N, .slice A2 n2 c2] 24)).alloc (.cells #[.int .i64 0, .slice none 0 0] 24)) M N A1 A2 n1 c1 n2 c2 :=
  ⟨lit_skipB (lit_skipB (lit_newB rfl)), lit_skipB (lit_newB (by simp)), lit_newB (by simp), (((Below.refl _ _).alloc (Nat.le_refl _) _).alloc (by simp) _).alloc (by simp; omega) _⟩
theorem Bx3.below {w W W' : World} {M N : Int} {A1 A2 : Option Addr} {n1 c1 n2 c2 K : Nat} (h : Bx3 w W M N A1 A2 n1 c1 n2 c2) (hb : Below K W W') (hK : W.heap.size ≤ K) : Bx3 w W' M N A1 A2 n1 c1 n2 c2 :=
  ⟨h.1.below hb hK, h.2.1.below hb hK, h.2.2.1.below hb hK, h.2.2.2.trans (hb.mono (Nat.le_trans h.2.2.2.size hK))⟩
theorem Bx3.size {w W : World} {M N : Int} {A1 A2 : Option Addr} {n1 c1 n2 c2 : Nat} (h : Bx3 w W M N A1 A2 n1 c1 n2 c2) : w.heap.size + 3 ≤ W.heap.size := h.2.2.1.lt

set_option maxRecDepth 20000 in
set_option maxHeartbeats 1600000 in
theorem Or_both_bad (M N : Int) (A1 A2 : Option Addr) (n1 c1 n2 c2 : Nat) (a b : List Int) (w : World) (h1 : Sees w 1 A1 n1 c1 (a.map (Value.int .u64))) (h2 : Sees w 1 A2 n2 c2 (b.map (Value.int .u64))) (ha : W64 a) (hb : W64 b) (h : bothE M N a b ≠ 0) :
    Calls Try.prog 60 #[setv M A1 n1 c1, setv N A2 n2 c2, .func (.func 61) #[] #[]] w fun e w' => e = .returned (.tuple #[setv 0 none 0 0, .int .i64 (bothE M N a b)]) ∧ Below w.heap.size w w' := by
  obtain ⟨W, hW⟩ : ∃ W, (((w.alloc (.cells #[.int .i64 M, .slice A1 n1 c1] 24)).alloc (.cells #[.int .i64 N, .slice A2 n2 c2] 24)).alloc (.cells #[.int .i64 0, .slice none 0 0] 24)) = W := ⟨_, rfl⟩
  have HX : Bx3 w W M N A1 A2 n1 c1 n2 c2 := by rw [← hW]; exact Bx3.new ..
  have H1 := Lib.hid (h1.below HX.2.2.2 (Nat.le_refl _))
  have H2 := Lib.hid (h2.below HX.2.2.2 (Nat.le_refl _))
  have HX := Lib.hid HX
  have HW := Lib.hid hW
  clear h1 h2 hW
  by_cases hra : RightW M a
  · have HR1 := Lib.hid (decide_eq_true hra)
    by_cases hrb : RightW N b
    · have HR2 := Lib.hid (decide_eq_true hrb)
      have hne : M ≠ N := fun e => h (by unfold bothE; rw [if_neg (by simp [hra, hrb]), if_neg (by simp [e])])
      have he : bothE M N a b = 51 := by unfold bothE; rw [if_neg (by simp [hra, hrb]), if_pos hne]
      rw [he]
      have d0 : (M != N) = true := by simpa using hne
      clear h hra hrb hne he
      go_enter Try.func60, Try.ntmps60
      go_wp2_with (first
        | (go_at_call 34; have _q := X1; refine (Right_any N A2 n2 c2 b _ (H2.out.below K1.out (Nat.le_refl _)) hb).mono ?_; rw [HR2.out]; rintro e w2 ⟨rfl, k2⟩; have X2 := X1.out.below k2 (Nat.le_refl _); have b0 := X2.1.c0; have b1 := X2.1.c1; have b2 := X2.2.1.c0; have b3 := X2.2.1.c1; have b4 : w2.cell? ⟨w.heap.size + 1 + 1, 0, none⟩ = some (.int .i64 0) := X2.2.2.1.c0; have b5 : w2.cell? ⟨w.heap.size + 1 + 1, 1, none⟩ = some (.slice none 0 0) := X2.2.2.1.c1; have f0 : w2.frozen? ⟨w.heap.size + 1 + 1, 0, none⟩ = false := X2.2.2.1.f 0; have f1 : w2.frozen? ⟨w.heap.size + 1 + 1, 1, none⟩ = false := X2.2.2.1.f 1; have X2 := Lib.hid X2; clear k2)
        | (go_at_call 34; rw [HW.out]; refine (Right_any M A1 n1 c1 a _ H1.out ha).mono ?_; rw [HR1.out]; rintro e w1 ⟨rfl, k1⟩; have X1 := HX.out.below k1 (Nat.le_refl _); have a2 := X1.2.1.c0; have a3 := X1.2.1.c1; have X1 := Lib.hid X1; have K1 := Lib.hid k1; clear k1))
      have P9 := X2.out.2.2.1.put (N' := 0) (A' := none) (n' := 0) (c' := 0)
      have z0 : ((w2.setCell ⟨w.heap.size + 1 + 1, 0, none⟩ (.int .i64 0)).setCell ⟨w.heap.size + 1 + 1, 1, none⟩ (.slice none 0 0)).cell? ⟨w.heap.size + 1 + 1, 0, none⟩ = some (.int .i64 0) := P9.c0
      have z1 : ((w2.setCell ⟨w.heap.size + 1 + 1, 0, none⟩ (.int .i64 0)).setCell ⟨w.heap.size + 1 + 1, 1, none⟩ (.slice none 0 0)).cell? ⟨w.heap.size + 1 + 1, 1, none⟩ = some (.slice none 0 0) := P9.c1
      exact bodyPost_ret (v := .tuple #[setv 0 none 0 0, .int .i64 51]) (by simp [results, Try.results60, go_sem, z0, z1]) rfl ⟨rfl, below_put X2.out.2.2.2 (by omega) _ _⟩
    · have HR2 := Lib.hid (decide_eq_false hrb)
      have he : bothE M N a b = 50 := by unfold bothE; rw [if_pos (.inr hrb)]
      rw [he]
      clear h hra hrb he
      go_enter Try.func60, Try.ntmps60
      go_wp2_with (first
        | (go_at_call 34; have _q := X1; refine (Right_any N A2 n2 c2 b _ (H2.out.below K1.out (Nat.le_refl _)) hb).mono ?_; rw [HR2.out]; rintro e w2 ⟨rfl, k2⟩; have X2 := X1.out.below k2 (Nat.le_refl _); have b4 : w2.cell? ⟨w.heap.size + 1 + 1, 0, none⟩ = some (.int .i64 0) := X2.2.2.1.c0; have b5 : w2.cell? ⟨w.heap.size + 1 + 1, 1, none⟩ = some (.slice none 0 0) := X2.2.2.1.c1; have f0 : w2.frozen? ⟨w.heap.size + 1 + 1, 0, none⟩ = false := X2.2.2.1.f 0; have f1 : w2.frozen? ⟨w.heap.size + 1 + 1, 1, none⟩ = false := X2.2.2.1.f 1; have X2 := Lib.hid X2; clear k2)
        | (go_at_call 34; rw [HW.out]; refine (Right_any M A1 n1 c1 a _ H1.out ha).mono ?_; rw [HR1.out]; rintro e w1 ⟨rfl, k1⟩; have X1 := HX.out.below k1 (Nat.le_refl _); have a2 := X1.2.1.c0; have a3 := X1.2.1.c1; have X1 := Lib.hid X1; have K1 := Lib.hid k1; clear k1))
      have P9 := X2.out.2.2.1.put (N' := 0) (A' := none) (n' := 0) (c' := 0)
      have z0 : ((w2.setCell ⟨w.heap.size + 1 + 1, 0, none⟩ (.int .i64 0)).setCell ⟨w.heap.size + 1 + 1, 1, none⟩ (.slice none 0 0)).cell? ⟨w.heap.size + 1 + 1, 0, none⟩ = some (.int .i64 0) := P9.c0
      have z1 : ((w2.setCell ⟨w.heap.size + 1 + 1, 0, none⟩ (.int .i64 0)).setCell ⟨w.heap.size + 1 + 1, 1, none⟩ (.slice none 0 0)).cell? ⟨w.heap.size + 1 + 1, 1, none⟩ = some (.slice none 0 0) := P9.c1
      exact bodyPost_ret (v := .tuple #[setv 0 none 0 0, .int .i64 50]) (by simp [results, Try.results60, go_sem, z0, z1]) rfl ⟨rfl, below_put X2.out.2.2.2 (by omega) _ _⟩
  · have HR1 := Lib.hid (decide_eq_false hra)
    have he : bothE M N a b = 50 := by unfold bothE; rw [if_pos (.inl hra)]
    rw [he]
    clear h hra he
    go_enter Try.func60, Try.ntmps60
    go_wp2_with (go_at_call 34; rw [HW.out]; refine (Right_any M A1 n1 c1 a _ H1.out ha).mono ?_; rw [HR1.out]; rintro e w2 ⟨rfl, k2⟩; have X2 := HX.out.below k2 (Nat.le_refl _); have b4 : w2.cell? ⟨w.heap.size + 1 + 1, 0, none⟩ = some (.int .i64 0) := X2.2.2.1.c0; have b5 : w2.cell? ⟨w.heap.size + 1 + 1, 1, none⟩ = some (.slice none 0 0) := X2.2.2.1.c1; have f0 : w2.frozen? ⟨w.heap.size + 1 + 1, 0, none⟩ = false := X2.2.2.1.f 0; have f1 : w2.frozen? ⟨w.heap.size + 1 + 1, 1, none⟩ = false := X2.2.2.1.f 1; have X2 := Lib.hid X2; clear k2)
    have P9 := X2.out.2.2.1.put (N' := 0) (A' := none) (n' := 0) (c' := 0)
    have z0 : ((w2.setCell ⟨w.heap.size + 1 + 1, 0, none⟩ (.int .i64 0)).setCell ⟨w.heap.size + 1 + 1, 1, none⟩ (.slice none 0 0)).cell? ⟨w.heap.size + 1 + 1, 0, none⟩ = some (.int .i64 0) := P9.c0
    have z1 : ((w2.setCell ⟨w.heap.size + 1 + 1, 0, none⟩ (.int .i64 0)).setCell ⟨w.heap.size + 1 + 1, 1, none⟩ (.slice none 0 0)).cell? ⟨w.heap.size + 1 + 1, 1, none⟩ = some (.slice none 0 0) := P9.c1
    exact bodyPost_ret (v := .tuple #[setv 0 none 0 0, .int .i64 50]) (by simp [results, Try.results60, go_sem, z0, z1]) rfl ⟨rfl, below_put X2.out.2.2.2 (by omega) _ _⟩

set_option maxRecDepth 20000 in
set_option maxHeartbeats 1600000 in
theorem Or_both_ok (N : Int) (A1 A2 : Option Addr) (n c1 c2 : Nat) (a b : List Int) (w : World) (h1 : Sees w 1 A1 n c1 (a.map (Value.int .u64))) (h2 : Sees w 1 A2 n c2 (b.map (Value.int .u64))) (ha : W64 a) (hb : W64 b) (hra : RightW N a) (hrb : RightW N b) :
    Calls Try.prog 60 #[setv N A1 n c1, setv N A2 n c2, .func (.func 61) #[] #[]] w fun e w' => ∃ v, e = .returned (.tuple #[v, .int .i64 0]) ∧ Made w w' N v (zipB fOr a b) ∧ Below w.heap.size w w' := by
  obtain ⟨W, hW⟩ : ∃ W, (((w.alloc (.cells #[.int .i64 N, .slice A1 n c1] 24)).alloc (.cells #[.int .i64 N, .slice A2 n c2] 24)).alloc (.cells #[.int .i64 0, .slice none 0 0] 24)) = W := ⟨_, rfl⟩
  have HX : Bx3 w W N N A1 A2 n c1 n c2 := by rw [← hW]; exact Bx3.new ..
  have H1 := Lib.hid (h1.below HX.2.2.2 (Nat.le_refl _))
  have H2 := Lib.hid (h2.below HX.2.2.2 (Nat.le_refl _))
  have HX := Lib.hid HX
  have HW := Lib.hid hW
  have HN : Hid (n ≤ 100000) := Lib.hid (by have := h1.length; have := hra.2.2.1; have := hra.2.1; omega)
  have HR1 := Lib.hid (decide_eq_true hra)
  have HR2 := Lib.hid (decide_eq_true hrb)
  have d0 : (N != N) = false := by simp
  clear h1 h2 hW hra hrb
  go_enter Try.func60, Try.ntmps60
  go_wp2_with (first
    | (go_at_call 34; have _q := X1; refine (Right_any N A2 n c2 b _ (H2.out.below K1.out (Nat.le_refl _)) hb).mono ?_; rw [HR2.out]; rintro e w2 ⟨rfl, k2⟩; have X2 := X1.out.below k2 (Nat.le_refl _); have b0 := X2.1.c0; have b1 := X2.1.c1; have b2 := X2.2.1.c0; have b3 := X2.2.1.c1; have X2 := Lib.hid X2; have K2 := Lib.hid (below_step K1.out k2); clear k2)
    | (go_at_call 34; rw [HW.out]; refine (Right_any N A1 n c1 a _ H1.out ha).mono ?_; rw [HR1.out]; rintro e w1 ⟨rfl, k1⟩; have X1 := HX.out.below k1 (Nat.le_refl _); have a2 := X1.2.1.c0; have a3 := X1.2.1.c1; have X1 := Lib.hid X1; have K1 := Lib.hid k1; clear k1))
  have D2 := Lib.hid (Below.refl w2.heap.size w2).drew
  go_region_law (first
    | (refine step_wpX rfl ?_; go_simp; go_at_call 71; refine (Or_joined A1 A2 n c1 c2 a b _ ((H1.out.below K2.out (Nat.le_refl _)).below D2.out (Nat.le_refl _)) ((H2.out.below K2.out (Nat.le_refl _)).below D2.out (Nat.le_refl _)) ha hb HN.out).mono ?_; rintro e w3 ⟨A3, c3, rfl, o3, k3⟩; have O3 := Lib.hid o3; have X3 := X2.out.below (D2.out.trans k3) (Nat.le_refl _); have e0 := X3.1.c0; have e1 := X3.1.c1; have e2 := X3.2.1.c0; have e3 := X3.2.1.c1; have e4 : w3.cell? ⟨w.heap.size + 1 + 1, 0, none⟩ = some (.int .i64 0) := X3.2.2.1.c0; have e5 : w3.cell? ⟨w.heap.size + 1 + 1, 1, none⟩ = some (.slice none 0 0) := X3.2.2.1.c1; have f0 : w3.frozen? ⟨w.heap.size + 1 + 1, 0, none⟩ = false := X3.2.2.1.f 0; have f1 : w3.frozen? ⟨w.heap.size + 1 + 1, 1, none⟩ = false := X3.2.2.1.f 1; have X3 := Lib.hid X3; clear k3 o3))
  all_goals simp only [Act.put, List.getElem_toArray, List.getElem_cons_succ, List.getElem_cons_zero, List.setIfInBounds_toArray, List.set_cons_succ, List.set_cons_zero]
  all_goals go_wp2
  all_goals have P9 := X3.out.2.2.1.put (N' := N) (A' := A3) (n' := n) (c' := c3)
  all_goals have z0 : ((w3.setCell ⟨w.heap.size + 1 + 1, 0, none⟩ (.int .i64 N)).setCell ⟨w.heap.size + 1 + 1, 1, none⟩ (.slice A3 n c3)).cell? ⟨w.heap.size + 1 + 1, 0, none⟩ = some (.int .i64 N) := P9.c0
  all_goals have z1 : ((w3.setCell ⟨w.heap.size + 1 + 1, 0, none⟩ (.int .i64 N)).setCell ⟨w.heap.size + 1 + 1, 1, none⟩ (.slice A3 n c3)).cell? ⟨w.heap.size + 1 + 1, 1, none⟩ = some (.slice A3 n c3) := P9.c1
  all_goals have hz := X2.out.size
  all_goals have ho := own_base (base' := w.heap.size + 3) O3.out hz
  all_goals exact bodyPost_ret (v := .tuple #[setv N A3 n c3, .int .i64 0]) (by simp [results, Try.results60, go_sem, z0, z1]) rfl ⟨_, rfl, ⟨_, _, _, rfl, own_base (ownsRow_setCell_below (ownsRow_setCell_below ho (by show w.heap.size + 1 + 1 < w.heap.size + 3; omega) _) (by show w.heap.size + 1 + 1 < w.heap.size + 3; omega) _) (by omega)⟩, below_put X3.out.2.2.2 (by omega) _ _⟩
set_option maxRecDepth 20000 in
set_option maxHeartbeats 1600000 in
theorem And_both_bad (M N : Int) (A1 A2 : Option Addr) (n1 c1 n2 c2 : Nat) (a b : List Int) (w : World) (h1 : Sees w 1 A1 n1 c1 (a.map (Value.int .u64))) (h2 : Sees w 1 A2 n2 c2 (b.map (Value.int .u64))) (ha : W64 a) (hb : W64 b) (h : bothE M N a b ≠ 0) :
    Calls Try.prog 60 #[setv M A1 n1 c1, setv N A2 n2 c2, .func (.func 62) #[] #[]] w fun e w' => e = .returned (.tuple #[setv 0 none 0 0, .int .i64 (bothE M N a b)]) ∧ Below w.heap.size w w' := by
  obtain ⟨W, hW⟩ : ∃ W, (((w.alloc (.cells #[.int .i64 M, .slice A1 n1 c1] 24)).alloc (.cells #[.int .i64 N, .slice A2 n2 c2] 24)).alloc (.cells #[.int .i64 0, .slice none 0 0] 24)) = W := ⟨_, rfl⟩
  have HX : Bx3 w W M N A1 A2 n1 c1 n2 c2 := by rw [← hW]; exact Bx3.new ..
  have H1 := Lib.hid (h1.below HX.2.2.2 (Nat.le_refl _))
  have H2 := Lib.hid (h2.below HX.2.2.2 (Nat.le_refl _))
  have HX := Lib.hid HX
  have HW := Lib.hid hW
  clear h1 h2 hW
  by_cases hra : RightW M a
  · have HR1 := Lib.hid (decide_eq_true hra)
    by_cases hrb : RightW N b
    · have HR2 := Lib.hid (decide_eq_true hrb)
      have hne : M ≠ N := fun e => h (by unfold bothE; rw [if_neg (by simp [hra, hrb]), if_neg (by simp [e])])
      have he : bothE M N a b = 51 := by unfold bothE; rw [if_neg (by simp [hra, hrb]), if_pos hne]
      rw [he]
      have d0 : (M != N) = true := by simpa using hne
      clear h hra hrb hne he
      go_enter Try.func60, Try.ntmps60
      go_wp2_with (first
        | (go_at_call 34; have _q := X1; refine (Right_any N A2 n2 c2 b _ (H2.out.below K1.out (Nat.le_refl _)) hb).mono ?_; rw [HR2.out]; rintro e w2 ⟨rfl, k2⟩; have X2 := X1.out.below k2 (Nat.le_refl _); have b0 := X2.1.c0; have b1 := X2.1.c1; have b2 := X2.2.1.c0; have b3 := X2.2.1.c1; have b4 : w2.cell? ⟨w.heap.size + 1 + 1, 0, none⟩ = some (.int .i64 0) := X2.2.2.1.c0; have b5 : w2.cell? ⟨w.heap.size + 1 + 1, 1, none⟩ = some (.slice none 0 0) := X2.2.2.1.c1; have f0 : w2.frozen? ⟨w.heap.size + 1 + 1, 0, none⟩ = false := X2.2.2.1.f 0; have f1 : w2.frozen? ⟨w.heap.size + 1 + 1, 1, none⟩ = false := X2.2.2.1.f 1; have X2 := Lib.hid X2; clear k2)
        | (go_at_call 34; rw [HW.out]; refine (Right_any M A1 n1 c1 a _ H1.out ha).mono ?_; rw [HR1.out]; rintro e w1 ⟨rfl, k1⟩; have X1 := HX.out.below k1 (Nat.le_refl _); have a2 := X1.2.1.c0; have a3 := X1.2.1.c1; have X1 := Lib.hid X1; have K1 := Lib.hid k1; clear k1))
      have P9 := X2.out.2.2.1.put (N' := 0) (A' := none) (n' := 0) (c' := 0)
      have z0 : ((w2.setCell ⟨w.heap.size + 1 + 1, 0, none⟩ (.int .i64 0)).setCell ⟨w.heap.size + 1 + 1, 1, none⟩ (.slice none 0 0)).cell? ⟨w.heap.size + 1 + 1, 0, none⟩ = some (.int .i64 0) := P9.c0
      have z1 : ((w2.setCell ⟨w.heap.size + 1 + 1, 0, none⟩ (.int .i64 0)).setCell ⟨w.heap.size + 1 + 1, 1, none⟩ (.slice none 0 0)).cell? ⟨w.heap.size + 1 + 1, 1, none⟩ = some (.slice none 0 0) := P9.c1
      exact bodyPost_ret (v := .tuple #[setv 0 none 0 0, .int .i64 51]) (by simp [results, Try.results60, go_sem, z0, z1]) rfl ⟨rfl, below_put X2.out.2.2.2 (by omega) _ _⟩
    · have HR2 := Lib.hid (decide_eq_false hrb)
      have he : bothE M N a b = 50 := by unfold bothE; rw [if_pos (.inr hrb)]
      rw [he]
      clear h hra hrb he
      go_enter Try.func60, Try.ntmps60
      go_wp2_with (first
        | (go_at_call 34; have _q := X1; refine (Right_any N A2 n2 c2 b _ (H2.out.below K1.out (Nat.le_refl _)) hb).mono ?_; rw [HR2.out]; rintro e w2 ⟨rfl, k2⟩; have X2 := X1.out.below k2 (Nat.le_refl _); have b4 : w2.cell? ⟨w.heap.size + 1 + 1, 0, none⟩ = some (.int .i64 0) := X2.2.2.1.c0; have b5 : w2.cell? ⟨w.heap.size + 1 + 1, 1, none⟩ = some (.slice none 0 0) := X2.2.2.1.c1; have f0 : w2.frozen? ⟨w.heap.size + 1 + 1, 0, none⟩ = false := X2.2.2.1.f 0; have f1 : w2.frozen? ⟨w.heap.size + 1 + 1, 1, none⟩ = false := X2.2.2.1.f 1; have X2 := Lib.hid X2; clear k2)
        | (go_at_call 34; rw [HW.out]; refine (Right_any M A1 n1 c1 a _ H1.out ha).mono ?_; rw [HR1.out]; rintro e w1 ⟨rfl, k1⟩; have X1 := HX.out.below k1 (Nat.le_refl _); have a2 := X1.2.1.c0; have a3 := X1.2.1.c1; have X1 := Lib.hid X1; have K1 := Lib.hid k1; clear k1))
      have P9 := X2.out.2.2.1.put (N' := 0) (A' := none) (n' := 0) (c' := 0)
      have z0 : ((w2.setCell ⟨w.heap.size + 1 + 1, 0, none⟩ (.int .i64 0)).setCell ⟨w.heap.size + 1 + 1, 1, none⟩ (.slice none 0 0)).cell? ⟨w.heap.size + 1 + 1, 0, none⟩ = some (.int .i64 0) := P9.c0
      have z1 : ((w2.setCell ⟨w.heap.size + 1 + 1, 0, none⟩ (.int .i64 0)).setCell ⟨w.heap.size + 1 + 1, 1, none⟩ (.slice none 0 0)).cell? ⟨w.heap.size + 1 + 1, 1, none⟩ = some (.slice none 0 0) := P9.c1
      exact bodyPost_ret (v := .tuple #[setv 0 none 0 0, .int .i64 50]) (by simp [results, Try.results60, go_sem, z0, z1]) rfl ⟨rfl, below_put X2.out.2.2.2 (by omega) _ _⟩
  · have HR1 := Lib.hid (decide_eq_false hra)
    have he : bothE M N a b = 50 := by unfold bothE; rw [if_pos (.inl hra)]
    rw [he]
    clear h hra he
    go_enter Try.func60, Try.ntmps60
    go_wp2_with (go_at_call 34; rw [HW.out]; refine (Right_any M A1 n1 c1 a _ H1.out ha).mono ?_; rw [HR1.out]; rintro e w2 ⟨rfl, k2⟩; have X2 := HX.out.below k2 (Nat.le_refl _); have b4 : w2.cell? ⟨w.heap.size + 1 + 1, 0, none⟩ = some (.int .i64 0) := X2.2.2.1.c0; have b5 : w2.cell? ⟨w.heap.size + 1 + 1, 1, none⟩ = some (.slice none 0 0) := X2.2.2.1.c1; have f0 : w2.frozen? ⟨w.heap.size + 1 + 1, 0, none⟩ = false := X2.2.2.1.f 0; have f1 : w2.frozen? ⟨w.heap.size + 1 + 1, 1, none⟩ = false := X2.2.2.1.f 1; have X2 := Lib.hid X2; clear k2)
    have P9 := X2.out.2.2.1.put (N' := 0) (A' := none) (n' := 0) (c' := 0)
    have z0 : ((w2.setCell ⟨w.heap.size + 1 + 1, 0, none⟩ (.int .i64 0)).setCell ⟨w.heap.size + 1 + 1, 1, none⟩ (.slice none 0 0)).cell? ⟨w.heap.size + 1 + 1, 0, none⟩ = some (.int .i64 0) := P9.c0
    have z1 : ((w2.setCell ⟨w.heap.size + 1 + 1, 0, none⟩ (.int .i64 0)).setCell ⟨w.heap.size + 1 + 1, 1, none⟩ (.slice none 0 0)).cell? ⟨w.heap.size + 1 + 1, 1, none⟩ = some (.slice none 0 0) := P9.c1
    exact bodyPost_ret (v := .tuple #[setv 0 none 0 0, .int .i64 50]) (by simp [results, Try.results60, go_sem, z0, z1]) rfl ⟨rfl, below_put X2.out.2.2.2 (by omega) _ _⟩

set_option maxRecDepth 20000 in
set_option maxHeartbeats 1600000 in
theorem And_both_ok (N : Int) (A1 A2 : Option Addr) (n c1 c2 : Nat) (a b : List Int) (w : World) (h1 : Sees w 1 A1 n c1 (a.map (Value.int .u64))) (h2 : Sees w 1 A2 n c2 (b.map (Value.int .u64))) (ha : W64 a) (hb : W64 b) (hra : RightW N a) (hrb : RightW N b) :
    Calls Try.prog 60 #[setv N A1 n c1, setv N A2 n c2, .func (.func 62) #[] #[]] w fun e w' => ∃ v, e = .returned (.tuple #[v, .int .i64 0]) ∧ Made w w' N v (zipB fAnd a b) ∧ Below w.heap.size w w' := by
  obtain ⟨W, hW⟩ : ∃ W, (((w.alloc (.cells #[.int .i64 N, .slice A1 n c1] 24)).alloc (.cells #[.int .i64 N, .slice A2 n c2] 24)).alloc (.cells #[.int .i64 0, .slice none 0 0] 24)) = W := ⟨_, rfl⟩
  have HX : Bx3 w W N N A1 A2 n c1 n c2 := by rw [← hW]; exact Bx3.new ..
  have H1 := Lib.hid (h1.below HX.2.2.2 (Nat.le_refl _))
  have H2 := Lib.hid (h2.below HX.2.2.2 (Nat.le_refl _))
  have HX := Lib.hid HX
  have HW := Lib.hid hW
  have HN : Hid (n ≤ 100000) := Lib.hid (by have := h1.length; have := hra.2.2.1; have := hra.2.1; omega)
  have HR1 := Lib.hid (decide_eq_true hra)
  have HR2 := Lib.hid (decide_eq_true hrb)
  have d0 : (N != N) = false := by simp
  clear h1 h2 hW hra hrb
  go_enter Try.func60, Try.ntmps60
  go_wp2_with (first
    | (go_at_call 34; have _q := X1; refine (Right_any N A2 n c2 b _ (H2.out.below K1.out (Nat.le_refl _)) hb).mono ?_; rw [HR2.out]; rintro e w2 ⟨rfl, k2⟩; have X2 := X1.out.below k2 (Nat.le_refl _); have b0 := X2.1.c0; have b1 := X2.1.c1; have b2 := X2.2.1.c0; have b3 := X2.2.1.c1; have X2 := Lib.hid X2; have K2 := Lib.hid (below_step K1.out k2); clear k2)
    | (go_at_call 34; rw [HW.out]; refine (Right_any N A1 n c1 a _ H1.out ha).mono ?_; rw [HR1.out]; rintro e w1 ⟨rfl, k1⟩; have X1 := HX.out.below k1 (Nat.le_refl _); have a2 := X1.2.1.c0; have a3 := X1.2.1.c1; have X1 := Lib.hid X1; have K1 := Lib.hid k1; clear k1))
  have D2 := Lib.hid (Below.refl w2.heap.size w2).drew
  go_region_law (first
    | (refine step_wpX rfl ?_; go_simp; go_at_call 71; refine (And_joined A1 A2 n c1 c2 a b _ ((H1.out.below K2.out (Nat.le_refl _)).below D2.out (Nat.le_refl _)) ((H2.out.below K2.out (Nat.le_refl _)).below D2.out (Nat.le_refl _)) ha hb HN.out).mono ?_; rintro e w3 ⟨A3, c3, rfl, o3, k3⟩; have O3 := Lib.hid o3; have X3 := X2.out.below (D2.out.trans k3) (Nat.le_refl _); have e0 := X3.1.c0; have e1 := X3.1.c1; have e2 := X3.2.1.c0; have e3 := X3.2.1.c1; have e4 : w3.cell? ⟨w.heap.size + 1 + 1, 0, none⟩ = some (.int .i64 0) := X3.2.2.1.c0; have e5 : w3.cell? ⟨w.heap.size + 1 + 1, 1, none⟩ = some (.slice none 0 0) := X3.2.2.1.c1; have f0 : w3.frozen? ⟨w.heap.size + 1 + 1, 0, none⟩ = false := X3.2.2.1.f 0; have f1 : w3.frozen? ⟨w.heap.size + 1 + 1, 1, none⟩ = false := X3.2.2.1.f 1; have X3 := Lib.hid X3; clear k3 o3))
  all_goals simp only [Act.put, List.getElem_toArray, List.getElem_cons_succ, List.getElem_cons_zero, List.setIfInBounds_toArray, List.set_cons_succ, List.set_cons_zero]
  all_goals go_wp2
  all_goals have P9 := X3.out.2.2.1.put (N' := N) (A' := A3) (n' := n) (c' := c3)
  all_goals have z0 : ((w3.setCell ⟨w.heap.size + 1 + 1, 0, none⟩ (.int .i64 N)).setCell ⟨w.heap.size + 1 + 1, 1, none⟩ (.slice A3 n c3)).cell? ⟨w.heap.size + 1 + 1, 0, none⟩ = some (.int .i64 N) := P9.c0
  all_goals have z1 : ((w3.setCell ⟨w.heap.size + 1 + 1, 0, none⟩ (.int .i64 N)).setCell ⟨w.heap.size + 1 + 1, 1, none⟩ (.slice A3 n c3)).cell? ⟨w.heap.size + 1 + 1, 1, none⟩ = some (.slice A3 n c3) := P9.c1
  all_goals have hz := X2.out.size
  all_goals have ho := own_base (base' := w.heap.size + 3) O3.out hz
  all_goals exact bodyPost_ret (v := .tuple #[setv N A3 n c3, .int .i64 0]) (by simp [results, Try.results60, go_sem, z0, z1]) rfl ⟨_, rfl, ⟨_, _, _, rfl, own_base (ownsRow_setCell_below (ownsRow_setCell_below ho (by show w.heap.size + 1 + 1 < w.heap.size + 3; omega) _) (by show w.heap.size + 1 + 1 < w.heap.size + 3; omega) _) (by omega)⟩, below_put X3.out.2.2.2 (by omega) _ _⟩
set_option maxRecDepth 20000 in
set_option maxHeartbeats 1600000 in
theorem Minus_both_bad (M N : Int) (A1 A2 : Option Addr) (n1 c1 n2 c2 : Nat) (a b : List Int) (w : World) (h1 : Sees w 1 A1 n1 c1 (a.map (Value.int .u64))) (h2 : Sees w 1 A2 n2 c2 (b.map (Value.int .u64))) (ha : W64 a) (hb : W64 b) (h : bothE M N a b ≠ 0) :
    Calls Try.prog 60 #[setv M A1 n1 c1, setv N A2 n2 c2, .func (.func 63) #[] #[]] w fun e w' => e = .returned (.tuple #[setv 0 none 0 0, .int .i64 (bothE M N a b)]) ∧ Below w.heap.size w w' := by
  obtain ⟨W, hW⟩ : ∃ W, (((w.alloc (.cells #[.int .i64 M, .slice A1 n1 c1] 24)).alloc (.cells #[.int .i64 N, .slice A2 n2 c2] 24)).alloc (.cells #[.int .i64 0, .slice none 0 0] 24)) = W := ⟨_, rfl⟩
  have HX : Bx3 w W M N A1 A2 n1 c1 n2 c2 := by rw [← hW]; exact Bx3.new ..
  have H1 := Lib.hid (h1.below HX.2.2.2 (Nat.le_refl _))
  have H2 := Lib.hid (h2.below HX.2.2.2 (Nat.le_refl _))
  have HX := Lib.hid HX
  have HW := Lib.hid hW
  clear h1 h2 hW
  by_cases hra : RightW M a
  · have HR1 := Lib.hid (decide_eq_true hra)
    by_cases hrb : RightW N b
    · have HR2 := Lib.hid (decide_eq_true hrb)
      have hne : M ≠ N := fun e => h (by unfold bothE; rw [if_neg (by simp [hra, hrb]), if_neg (by simp [e])])
      have he : bothE M N a b = 51 := by unfold bothE; rw [if_neg (by simp [hra, hrb]), if_pos hne]
      rw [he]
      have d0 : (M != N) = true := by simpa using hne
      clear h hra hrb hne he
      go_enter Try.func60, Try.ntmps60
      go_wp2_with (first
        | (go_at_call 34; have _q := X1; refine (Right_any N A2 n2 c2 b _ (H2.out.below K1.out (Nat.le_refl _)) hb).mono ?_; rw [HR2.out]; rintro e w2 ⟨rfl, k2⟩; have X2 := X1.out.below k2 (Nat.le_refl _); have b0 := X2.1.c0; have b1 := X2.1.c1; have b2 := X2.2.1.c0; have b3 := X2.2.1.c1; have b4 : w2.cell? ⟨w.heap.size + 1 + 1, 0, none⟩ = some (.int .i64 0) := X2.2.2.1.c0; have b5 : w2.cell? ⟨w.heap.size + 1 + 1, 1, none⟩ = some (.slice none 0 0) := X2.2.2.1.c1; have f0 : w2.frozen? ⟨w.heap.size + 1 + 1, 0, none⟩ = false := X2.2.2.1.f 0; have f1 : w2.frozen? ⟨w.heap.size + 1 + 1, 1, none⟩ = false := X2.2.2.1.f 1; have X2 := Lib.hid X2; clear k2)
        | (go_at_call 34; rw [HW.out]; refine (Right_any M A1 n1 c1 a _ H1.out ha).mono ?_; rw [HR1.out]; rintro e w1 ⟨rfl, k1⟩; have X1 := HX.out.below k1 (Nat.le_refl _); have a2 := X1.2.1.c0; have a3 := X1.2.1.c1; have X1 := Lib.hid X1; have K1 := Lib.hid k1; clear k1))
      have P9 := X2.out.2.2.1.put (N' := 0) (A' := none) (n' := 0) (c' := 0)
      have z0 : ((w2.setCell ⟨w.heap.size + 1 + 1, 0, none⟩ (.int .i64 0)).setCell ⟨w.heap.size + 1 + 1, 1, none⟩ (.slice none 0 0)).cell? ⟨w.heap.size + 1 + 1, 0, none⟩ = some (.int .i64 0) := P9.c0
      have z1 : ((w2.setCell ⟨w.heap.size + 1 + 1, 0, none⟩ (.int .i64 0)).setCell ⟨w.heap.size + 1 + 1, 1, none⟩ (.slice none 0 0)).cell? ⟨w.heap.size + 1 + 1, 1, none⟩ = some (.slice none 0 0) := P9.c1
      exact bodyPost_ret (v := .tuple #[setv 0 none 0 0, .int .i64 51]) (by simp [results, Try.results60, go_sem, z0, z1]) rfl ⟨rfl, below_put X2.out.2.2.2 (by omega) _ _⟩
    · have HR2 := Lib.hid (decide_eq_false hrb)
      have he : bothE M N a b = 50 := by unfold bothE; rw [if_pos (.inr hrb)]
      rw [he]
      clear h hra hrb he
      go_enter Try.func60, Try.ntmps60
      go_wp2_with (first
        | (go_at_call 34; have _q := X1; refine (Right_any N A2 n2 c2 b _ (H2.out.below K1.out (Nat.le_refl _)) hb).mono ?_; rw [HR2.out]; rintro e w2 ⟨rfl, k2⟩; have X2 := X1.out.below k2 (Nat.le_refl _); have b4 : w2.cell? ⟨w.heap.size + 1 + 1, 0, none⟩ = some (.int .i64 0) := X2.2.2.1.c0; have b5 : w2.cell? ⟨w.heap.size + 1 + 1, 1, none⟩ = some (.slice none 0 0) := X2.2.2.1.c1; have f0 : w2.frozen? ⟨w.heap.size + 1 + 1, 0, none⟩ = false := X2.2.2.1.f 0; have f1 : w2.frozen? ⟨w.heap.size + 1 + 1, 1, none⟩ = false := X2.2.2.1.f 1; have X2 := Lib.hid X2; clear k2)
        | (go_at_call 34; rw [HW.out]; refine (Right_any M A1 n1 c1 a _ H1.out ha).mono ?_; rw [HR1.out]; rintro e w1 ⟨rfl, k1⟩; have X1 := HX.out.below k1 (Nat.le_refl _); have a2 := X1.2.1.c0; have a3 := X1.2.1.c1; have X1 := Lib.hid X1; have K1 := Lib.hid k1; clear k1))
      have P9 := X2.out.2.2.1.put (N' := 0) (A' := none) (n' := 0) (c' := 0)
      have z0 : ((w2.setCell ⟨w.heap.size + 1 + 1, 0, none⟩ (.int .i64 0)).setCell ⟨w.heap.size + 1 + 1, 1, none⟩ (.slice none 0 0)).cell? ⟨w.heap.size + 1 + 1, 0, none⟩ = some (.int .i64 0) := P9.c0
      have z1 : ((w2.setCell ⟨w.heap.size + 1 + 1, 0, none⟩ (.int .i64 0)).setCell ⟨w.heap.size + 1 + 1, 1, none⟩ (.slice none 0 0)).cell? ⟨w.heap.size + 1 + 1, 1, none⟩ = some (.slice none 0 0) := P9.c1
      exact bodyPost_ret (v := .tuple #[setv 0 none 0 0, .int .i64 50]) (by simp [results, Try.results60, go_sem, z0, z1]) rfl ⟨rfl, below_put X2.out.2.2.2 (by omega) _ _⟩
  · have HR1 := Lib.hid (decide_eq_false hra)
    have he : bothE M N a b = 50 := by unfold bothE; rw [if_pos (.inl hra)]
    rw [he]
    clear h hra he
    go_enter Try.func60, Try.ntmps60
    go_wp2_with (go_at_call 34; rw [HW.out]; refine (Right_any M A1 n1 c1 a _ H1.out ha).mono ?_; rw [HR1.out]; rintro e w2 ⟨rfl, k2⟩; have X2 := HX.out.below k2 (Nat.le_refl _); have b4 : w2.cell? ⟨w.heap.size + 1 + 1, 0, none⟩ = some (.int .i64 0) := X2.2.2.1.c0; have b5 : w2.cell? ⟨w.heap.size + 1 + 1, 1, none⟩ = some (.slice none 0 0) := X2.2.2.1.c1; have f0 : w2.frozen? ⟨w.heap.size + 1 + 1, 0, none⟩ = false := X2.2.2.1.f 0; have f1 : w2.frozen? ⟨w.heap.size + 1 + 1, 1, none⟩ = false := X2.2.2.1.f 1; have X2 := Lib.hid X2; clear k2)
    have P9 := X2.out.2.2.1.put (N' := 0) (A' := none) (n' := 0) (c' := 0)
    have z0 : ((w2.setCell ⟨w.heap.size + 1 + 1, 0, none⟩ (.int .i64 0)).setCell ⟨w.heap.size + 1 + 1, 1, none⟩ (.slice none 0 0)).cell? ⟨w.heap.size + 1 + 1, 0, none⟩ = some (.int .i64 0) := P9.c0
    have z1 : ((w2.setCell ⟨w.heap.size + 1 + 1, 0, none⟩ (.int .i64 0)).setCell ⟨w.heap.size + 1 + 1, 1, none⟩ (.slice none 0 0)).cell? ⟨w.heap.size + 1 + 1, 1, none⟩ = some (.slice none 0 0) := P9.c1
    exact bodyPost_ret (v := .tuple #[setv 0 none 0 0, .int .i64 50]) (by simp [results, Try.results60, go_sem, z0, z1]) rfl ⟨rfl, below_put X2.out.2.2.2 (by omega) _ _⟩

set_option maxRecDepth 20000 in
set_option maxHeartbeats 1600000 in
theorem Minus_both_ok (N : Int) (A1 A2 : Option Addr) (n c1 c2 : Nat) (a b : List Int) (w : World) (h1 : Sees w 1 A1 n c1 (a.map (Value.int .u64))) (h2 : Sees w 1 A2 n c2 (b.map (Value.int .u64))) (ha : W64 a) (hb : W64 b) (hra : RightW N a) (hrb : RightW N b) :
    Calls Try.prog 60 #[setv N A1 n c1, setv N A2 n c2, .func (.func 63) #[] #[]] w fun e w' => ∃ v, e = .returned (.tuple #[v, .int .i64 0]) ∧ Made w w' N v (zipB fMin a b) ∧ Below w.heap.size w w' := by
  obtain ⟨W, hW⟩ : ∃ W, (((w.alloc (.cells #[.int .i64 N, .slice A1 n c1] 24)).alloc (.cells #[.int .i64 N, .slice A2 n c2] 24)).alloc (.cells #[.int .i64 0, .slice none 0 0] 24)) = W := ⟨_, rfl⟩
  have HX : Bx3 w W N N A1 A2 n c1 n c2 := by rw [← hW]; exact Bx3.new ..
  have H1 := Lib.hid (h1.below HX.2.2.2 (Nat.le_refl _))
  have H2 := Lib.hid (h2.below HX.2.2.2 (Nat.le_refl _))
  have HX := Lib.hid HX
  have HW := Lib.hid hW
  have HN : Hid (n ≤ 100000) := Lib.hid (by have := h1.length; have := hra.2.2.1; have := hra.2.1; omega)
  have HR1 := Lib.hid (decide_eq_true hra)
  have HR2 := Lib.hid (decide_eq_true hrb)
  have d0 : (N != N) = false := by simp
  clear h1 h2 hW hra hrb
  go_enter Try.func60, Try.ntmps60
  go_wp2_with (first
    | (go_at_call 34; have _q := X1; refine (Right_any N A2 n c2 b _ (H2.out.below K1.out (Nat.le_refl _)) hb).mono ?_; rw [HR2.out]; rintro e w2 ⟨rfl, k2⟩; have X2 := X1.out.below k2 (Nat.le_refl _); have b0 := X2.1.c0; have b1 := X2.1.c1; have b2 := X2.2.1.c0; have b3 := X2.2.1.c1; have X2 := Lib.hid X2; have K2 := Lib.hid (below_step K1.out k2); clear k2)
    | (go_at_call 34; rw [HW.out]; refine (Right_any N A1 n c1 a _ H1.out ha).mono ?_; rw [HR1.out]; rintro e w1 ⟨rfl, k1⟩; have X1 := HX.out.below k1 (Nat.le_refl _); have a2 := X1.2.1.c0; have a3 := X1.2.1.c1; have X1 := Lib.hid X1; have K1 := Lib.hid k1; clear k1))
  have D2 := Lib.hid (Below.refl w2.heap.size w2).drew
  go_region_law (first
    | (refine step_wpX rfl ?_; go_simp; go_at_call 71; refine (Minus_joined A1 A2 n c1 c2 a b _ ((H1.out.below K2.out (Nat.le_refl _)).below D2.out (Nat.le_refl _)) ((H2.out.below K2.out (Nat.le_refl _)).below D2.out (Nat.le_refl _)) ha hb HN.out).mono ?_; rintro e w3 ⟨A3, c3, rfl, o3, k3⟩; have O3 := Lib.hid o3; have X3 := X2.out.below (D2.out.trans k3) (Nat.le_refl _); have e0 := X3.1.c0; have e1 := X3.1.c1; have e2 := X3.2.1.c0; have e3 := X3.2.1.c1; have e4 : w3.cell? ⟨w.heap.size + 1 + 1, 0, none⟩ = some (.int .i64 0) := X3.2.2.1.c0; have e5 : w3.cell? ⟨w.heap.size + 1 + 1, 1, none⟩ = some (.slice none 0 0) := X3.2.2.1.c1; have f0 : w3.frozen? ⟨w.heap.size + 1 + 1, 0, none⟩ = false := X3.2.2.1.f 0; have f1 : w3.frozen? ⟨w.heap.size + 1 + 1, 1, none⟩ = false := X3.2.2.1.f 1; have X3 := Lib.hid X3; clear k3 o3))
  all_goals simp only [Act.put, List.getElem_toArray, List.getElem_cons_succ, List.getElem_cons_zero, List.setIfInBounds_toArray, List.set_cons_succ, List.set_cons_zero]
  all_goals go_wp2
  all_goals have P9 := X3.out.2.2.1.put (N' := N) (A' := A3) (n' := n) (c' := c3)
  all_goals have z0 : ((w3.setCell ⟨w.heap.size + 1 + 1, 0, none⟩ (.int .i64 N)).setCell ⟨w.heap.size + 1 + 1, 1, none⟩ (.slice A3 n c3)).cell? ⟨w.heap.size + 1 + 1, 0, none⟩ = some (.int .i64 N) := P9.c0
  all_goals have z1 : ((w3.setCell ⟨w.heap.size + 1 + 1, 0, none⟩ (.int .i64 N)).setCell ⟨w.heap.size + 1 + 1, 1, none⟩ (.slice A3 n c3)).cell? ⟨w.heap.size + 1 + 1, 1, none⟩ = some (.slice A3 n c3) := P9.c1
  all_goals have hz := X2.out.size
  all_goals have ho := own_base (base' := w.heap.size + 3) O3.out hz
  all_goals exact bodyPost_ret (v := .tuple #[setv N A3 n c3, .int .i64 0]) (by simp [results, Try.results60, go_sem, z0, z1]) rfl ⟨_, rfl, ⟨_, _, _, rfl, own_base (ownsRow_setCell_below (ownsRow_setCell_below ho (by show w.heap.size + 1 + 1 < w.heap.size + 3; omega) _) (by show w.heap.size + 1 + 1 < w.heap.size + 3; omega) _) (by omega)⟩, below_put X3.out.2.2.2 (by omega) _ _⟩
set_option maxRecDepth 20000 in
theorem Or_bad (M N : Int) (A1 A2 : Option Addr) (n1 c1 n2 c2 : Nat) (a b : List Int) (w : World) (h1 : Sees w 1 A1 n1 c1 (a.map (Value.int .u64))) (h2 : Sees w 1 A2 n2 c2 (b.map (Value.int .u64))) (ha : W64 a) (hb : W64 b) (h : bothE M N a b ≠ 0) :
    Calls Try.prog 31 #[setv M A1 n1 c1, setv N A2 n2 c2] w fun e w' => e = .returned (.tuple #[setv 0 none 0 0, .int .i64 (bothE M N a b)]) ∧ Below w.heap.size w w' := by
  obtain ⟨W, hW⟩ : ∃ W, (((w.alloc (.cells #[.int .i64 M, .slice A1 n1 c1] 24)).alloc (.cells #[.int .i64 N, .slice A2 n2 c2] 24)).alloc (.cells #[.int .i64 0, .slice none 0 0] 24)) = W := ⟨_, rfl⟩
  have HX : Bx3 w W M N A1 A2 n1 c1 n2 c2 := by rw [← hW]; exact Bx3.new ..
  have H1 := Lib.hid (h1.below HX.2.2.2 (Nat.le_refl _))
  have H2 := Lib.hid (h2.below HX.2.2.2 (Nat.le_refl _))
  have HX := Lib.hid HX
  have HW := Lib.hid hW
  obtain ⟨er, her⟩ : ∃ er, bothE M N a b = er := ⟨_, rfl⟩
  have HE := Lib.hid her
  have HH := Lib.hid h
  rw [her]
  clear h1 h2 hW her h
  go_enter Try.func31, Try.ntmps31
  go_wp2_with (go_at_call 60; rw [HW.out]; refine (Or_both_bad M N A1 A2 n1 c1 n2 c2 a b _ H1.out H2.out ha hb HH.out).mono ?_; rw [HE.out]; rintro e w2 ⟨rfl, k2⟩; have X2 := HX.out.below k2 (Nat.le_refl _); have b4 : w2.cell? ⟨w.heap.size + 1 + 1, 0, none⟩ = some (.int .i64 0) := X2.2.2.1.c0; have b5 : w2.cell? ⟨w.heap.size + 1 + 1, 1, none⟩ = some (.slice none 0 0) := X2.2.2.1.c1; have f0 : w2.frozen? ⟨w.heap.size + 1 + 1, 0, none⟩ = false := X2.2.2.1.f 0; have f1 : w2.frozen? ⟨w.heap.size + 1 + 1, 1, none⟩ = false := X2.2.2.1.f 1; have X2 := Lib.hid X2; clear k2)
  have P9 := X2.out.2.2.1.put (N' := 0) (A' := none) (n' := 0) (c' := 0)
  have z0 : ((w2.setCell ⟨w.heap.size + 1 + 1, 0, none⟩ (.int .i64 0)).setCell ⟨w.heap.size + 1 + 1, 1, none⟩ (.slice none 0 0)).cell? ⟨w.heap.size + 1 + 1, 0, none⟩ = some (.int .i64 0) := P9.c0
  have z1 : ((w2.setCell ⟨w.heap.size + 1 + 1, 0, none⟩ (.int .i64 0)).setCell ⟨w.heap.size + 1 + 1, 1, none⟩ (.slice none 0 0)).cell? ⟨w.heap.size + 1 + 1, 1, none⟩ = some (.slice none 0 0) := P9.c1
  exact bodyPost_ret (v := .tuple #[setv 0 none 0 0, .int .i64 er]) (by simp [results, Try.results31, go_sem, z0, z1]) rfl ⟨rfl, below_put X2.out.2.2.2 (by omega) _ _⟩

set_option maxRecDepth 20000 in
theorem Or_ok (N : Int) (A1 A2 : Option Addr) (n c1 c2 : Nat) (a b : List Int) (w : World) (h1 : Sees w 1 A1 n c1 (a.map (Value.int .u64))) (h2 : Sees w 1 A2 n c2 (b.map (Value.int .u64))) (ha : W64 a) (hb : W64 b) (hra : RightW N a) (hrb : RightW N b) :
    Calls Try.prog 31 #[setv N A1 n c1, setv N A2 n c2] w fun e w' => ∃ v, e = .returned (.tuple #[v, .int .i64 0]) ∧ Made w w' N v (zipB fOr a b) ∧ Below w.heap.size w w' := by
  obtain ⟨W, hW⟩ : ∃ W, (((w.alloc (.cells #[.int .i64 N, .slice A1 n c1] 24)).alloc (.cells #[.int .i64 N, .slice A2 n c2] 24)).alloc (.cells #[.int .i64 0, .slice none 0 0] 24)) = W := ⟨_, rfl⟩
  have HX : Bx3 w W N N A1 A2 n c1 n c2 := by rw [← hW]; exact Bx3.new ..
  have H1 := Lib.hid (h1.below HX.2.2.2 (Nat.le_refl _))
  have H2 := Lib.hid (h2.below HX.2.2.2 (Nat.le_refl _))
  have HX := Lib.hid HX
  have HW := Lib.hid hW
  have HH := Lib.hid (And.intro hra hrb)
  clear h1 h2 hW hra hrb
  go_enter Try.func31, Try.ntmps31
  go_wp2_with (go_at_call 60; rw [HW.out]; refine (Or_both_ok N A1 A2 n c1 c2 a b _ H1.out H2.out ha hb HH.out.1 HH.out.2).mono ?_; rintro e w2 ⟨v, rfl, ⟨A3, n3, c3, rfl, o3⟩, k2⟩; have O3 := Lib.hid o3; have X2 := HX.out.below k2 (Nat.le_refl _); have b4 : w2.cell? ⟨w.heap.size + 1 + 1, 0, none⟩ = some (.int .i64 0) := X2.2.2.1.c0; have b5 : w2.cell? ⟨w.heap.size + 1 + 1, 1, none⟩ = some (.slice none 0 0) := X2.2.2.1.c1; have f0 : w2.frozen? ⟨w.heap.size + 1 + 1, 0, none⟩ = false := X2.2.2.1.f 0; have f1 : w2.frozen? ⟨w.heap.size + 1 + 1, 1, none⟩ = false := X2.2.2.1.f 1; have X2 := Lib.hid X2; clear k2 o3)
  have P9 := X2.out.2.2.1.put (N' := N) (A' := A3) (n' := n3) (c' := c3)
  have z0 : ((w2.setCell ⟨w.heap.size + 1 + 1, 0, none⟩ (.int .i64 N)).setCell ⟨w.heap.size + 1 + 1, 1, none⟩ (.slice A3 n3 c3)).cell? ⟨w.heap.size + 1 + 1, 0, none⟩ = some (.int .i64 N) := P9.c0
  have z1 : ((w2.setCell ⟨w.heap.size + 1 + 1, 0, none⟩ (.int .i64 N)).setCell ⟨w.heap.size + 1 + 1, 1, none⟩ (.slice A3 n3 c3)).cell? ⟨w.heap.size + 1 + 1, 1, none⟩ = some (.slice A3 n3 c3) := P9.c1
  have hz := HX.out.size
  have ho := own_base (base' := w.heap.size + 3) O3.out hz
  exact bodyPost_ret (v := .tuple #[setv N A3 n3 c3, .int .i64 0]) (by simp [results, Try.results31, go_sem, z0, z1]) rfl ⟨_, rfl, ⟨_, _, _, rfl, own_base (ownsRow_setCell_below (ownsRow_setCell_below ho (by show w.heap.size + 1 + 1 < w.heap.size + 3; omega) _) (by show w.heap.size + 1 + 1 < w.heap.size + 3; omega) _) (by omega)⟩, below_put X2.out.2.2.2 (by omega) _ _⟩
set_option maxRecDepth 20000 in
theorem And_bad (M N : Int) (A1 A2 : Option Addr) (n1 c1 n2 c2 : Nat) (a b : List Int) (w : World) (h1 : Sees w 1 A1 n1 c1 (a.map (Value.int .u64))) (h2 : Sees w 1 A2 n2 c2 (b.map (Value.int .u64))) (ha : W64 a) (hb : W64 b) (h : bothE M N a b ≠ 0) :
    Calls Try.prog 32 #[setv M A1 n1 c1, setv N A2 n2 c2] w fun e w' => e = .returned (.tuple #[setv 0 none 0 0, .int .i64 (bothE M N a b)]) ∧ Below w.heap.size w w' := by
  obtain ⟨W, hW⟩ : ∃ W, (((w.alloc (.cells #[.int .i64 M, .slice A1 n1 c1] 24)).alloc (.cells #[.int .i64 N, .slice A2 n2 c2] 24)).alloc (.cells #[.int .i64 0, .slice none 0 0] 24)) = W := ⟨_, rfl⟩
  have HX : Bx3 w W M N A1 A2 n1 c1 n2 c2 := by rw [← hW]; exact Bx3.new ..
  have H1 := Lib.hid (h1.below HX.2.2.2 (Nat.le_refl _))
  have H2 := Lib.hid (h2.below HX.2.2.2 (Nat.le_refl _))
  have HX := Lib.hid HX
  have HW := Lib.hid hW
  obtain ⟨er, her⟩ : ∃ er, bothE M N a b = er := ⟨_, rfl⟩
  have HE := Lib.hid her
  have HH := Lib.hid h
  rw [her]
  clear h1 h2 hW her h
  go_enter Try.func32, Try.ntmps32
  go_wp2_with (go_at_call 60; rw [HW.out]; refine (And_both_bad M N A1 A2 n1 c1 n2 c2 a b _ H1.out H2.out ha hb HH.out).mono ?_; rw [HE.out]; rintro e w2 ⟨rfl, k2⟩; have X2 := HX.out.below k2 (Nat.le_refl _); have b4 : w2.cell? ⟨w.heap.size + 1 + 1, 0, none⟩ = some (.int .i64 0) := X2.2.2.1.c0; have b5 : w2.cell? ⟨w.heap.size + 1 + 1, 1, none⟩ = some (.slice none 0 0) := X2.2.2.1.c1; have f0 : w2.frozen? ⟨w.heap.size + 1 + 1, 0, none⟩ = false := X2.2.2.1.f 0; have f1 : w2.frozen? ⟨w.heap.size + 1 + 1, 1, none⟩ = false := X2.2.2.1.f 1; have X2 := Lib.hid X2; clear k2)
  have P9 := X2.out.2.2.1.put (N' := 0) (A' := none) (n' := 0) (c' := 0)
  have z0 : ((w2.setCell ⟨w.heap.size + 1 + 1, 0, none⟩ (.int .i64 0)).setCell ⟨w.heap.size + 1 + 1, 1, none⟩ (.slice none 0 0)).cell? ⟨w.heap.size + 1 + 1, 0, none⟩ = some (.int .i64 0) := P9.c0
  have z1 : ((w2.setCell ⟨w.heap.size + 1 + 1, 0, none⟩ (.int .i64 0)).setCell ⟨w.heap.size + 1 + 1, 1, none⟩ (.slice none 0 0)).cell? ⟨w.heap.size + 1 + 1, 1, none⟩ = some (.slice none 0 0) := P9.c1
  exact bodyPost_ret (v := .tuple #[setv 0 none 0 0, .int .i64 er]) (by simp [results, Try.results32, go_sem, z0, z1]) rfl ⟨rfl, below_put X2.out.2.2.2 (by omega) _ _⟩

set_option maxRecDepth 20000 in
theorem And_ok (N : Int) (A1 A2 : Option Addr) (n c1 c2 : Nat) (a b : List Int) (w : World) (h1 : Sees w 1 A1 n c1 (a.map (Value.int .u64))) (h2 : Sees w 1 A2 n c2 (b.map (Value.int .u64))) (ha : W64 a) (hb : W64 b) (hra : RightW N a) (hrb : RightW N b) :
    Calls Try.prog 32 #[setv N A1 n c1, setv N A2 n c2] w fun e w' => ∃ v, e = .returned (.tuple #[v, .int .i64 0]) ∧ Made w w' N v (zipB fAnd a b) ∧ Below w.heap.size w w' := by
  obtain ⟨W, hW⟩ : ∃ W, (((w.alloc (.cells #[.int .i64 N, .slice A1 n c1] 24)).alloc (.cells #[.int .i64 N, .slice A2 n c2] 24)).alloc (.cells #[.int .i64 0, .slice none 0 0] 24)) = W := ⟨_, rfl⟩
  have HX : Bx3 w W N N A1 A2 n c1 n c2 := by rw [← hW]; exact Bx3.new ..
  have H1 := Lib.hid (h1.below HX.2.2.2 (Nat.le_refl _))
  have H2 := Lib.hid (h2.below HX.2.2.2 (Nat.le_refl _))
  have HX := Lib.hid HX
  have HW := Lib.hid hW
  have HH := Lib.hid (And.intro hra hrb)
  clear h1 h2 hW hra hrb
  go_enter Try.func32, Try.ntmps32
  go_wp2_with (go_at_call 60; rw [HW.out]; refine (And_both_ok N A1 A2 n c1 c2 a b _ H1.out H2.out ha hb HH.out.1 HH.out.2).mono ?_; rintro e w2 ⟨v, rfl, ⟨A3, n3, c3, rfl, o3⟩, k2⟩; have O3 := Lib.hid o3; have X2 := HX.out.below k2 (Nat.le_refl _); have b4 : w2.cell? ⟨w.heap.size + 1 + 1, 0, none⟩ = some (.int .i64 0) := X2.2.2.1.c0; have b5 : w2.cell? ⟨w.heap.size + 1 + 1, 1, none⟩ = some (.slice none 0 0) := X2.2.2.1.c1; have f0 : w2.frozen? ⟨w.heap.size + 1 + 1, 0, none⟩ = false := X2.2.2.1.f 0; have f1 : w2.frozen? ⟨w.heap.size + 1 + 1, 1, none⟩ = false := X2.2.2.1.f 1; have X2 := Lib.hid X2; clear k2 o3)
  have P9 := X2.out.2.2.1.put (N' := N) (A' := A3) (n' := n3) (c' := c3)
  have z0 : ((w2.setCell ⟨w.heap.size + 1 + 1, 0, none⟩ (.int .i64 N)).setCell ⟨w.heap.size + 1 + 1, 1, none⟩ (.slice A3 n3 c3)).cell? ⟨w.heap.size + 1 + 1, 0, none⟩ = some (.int .i64 N) := P9.c0
  have z1 : ((w2.setCell ⟨w.heap.size + 1 + 1, 0, none⟩ (.int .i64 N)).setCell ⟨w.heap.size + 1 + 1, 1, none⟩ (.slice A3 n3 c3)).cell? ⟨w.heap.size + 1 + 1, 1, none⟩ = some (.slice A3 n3 c3) := P9.c1
  have hz := HX.out.size
  have ho := own_base (base' := w.heap.size + 3) O3.out hz
  exact bodyPost_ret (v := .tuple #[setv N A3 n3 c3, .int .i64 0]) (by simp [results, Try.results32, go_sem, z0, z1]) rfl ⟨_, rfl, ⟨_, _, _, rfl, own_base (ownsRow_setCell_below (ownsRow_setCell_below ho (by show w.heap.size + 1 + 1 < w.heap.size + 3; omega) _) (by show w.heap.size + 1 + 1 < w.heap.size + 3; omega) _) (by omega)⟩, below_put X2.out.2.2.2 (by omega) _ _⟩
set_option maxRecDepth 20000 in
theorem Minus_bad (M N : Int) (A1 A2 : Option Addr) (n1 c1 n2 c2 : Nat) (a b : List Int) (w : World) (h1 : Sees w 1 A1 n1 c1 (a.map (Value.int .u64))) (h2 : Sees w 1 A2 n2 c2 (b.map (Value.int .u64))) (ha : W64 a) (hb : W64 b) (h : bothE M N a b ≠ 0) :
    Calls Try.prog 33 #[setv M A1 n1 c1, setv N A2 n2 c2] w fun e w' => e = .returned (.tuple #[setv 0 none 0 0, .int .i64 (bothE M N a b)]) ∧ Below w.heap.size w w' := by
  obtain ⟨W, hW⟩ : ∃ W, (((w.alloc (.cells #[.int .i64 M, .slice A1 n1 c1] 24)).alloc (.cells #[.int .i64 N, .slice A2 n2 c2] 24)).alloc (.cells #[.int .i64 0, .slice none 0 0] 24)) = W := ⟨_, rfl⟩
  have HX : Bx3 w W M N A1 A2 n1 c1 n2 c2 := by rw [← hW]; exact Bx3.new ..
  have H1 := Lib.hid (h1.below HX.2.2.2 (Nat.le_refl _))
  have H2 := Lib.hid (h2.below HX.2.2.2 (Nat.le_refl _))
  have HX := Lib.hid HX
  have HW := Lib.hid hW
  obtain ⟨er, her⟩ : ∃ er, bothE M N a b = er := ⟨_, rfl⟩
  have HE := Lib.hid her
  have HH := Lib.hid h
  rw [her]
  clear h1 h2 hW her h
  go_enter Try.func33, Try.ntmps33
  go_wp2_with (go_at_call 60; rw [HW.out]; refine (Minus_both_bad M N A1 A2 n1 c1 n2 c2 a b _ H1.out H2.out ha hb HH.out).mono ?_; rw [HE.out]; rintro e w2 ⟨rfl, k2⟩; have X2 := HX.out.below k2 (Nat.le_refl _); have b4 : w2.cell? ⟨w.heap.size + 1 + 1, 0, none⟩ = some (.int .i64 0) := X2.2.2.1.c0; have b5 : w2.cell? ⟨w.heap.size + 1 + 1, 1, none⟩ = some (.slice none 0 0) := X2.2.2.1.c1; have f0 : w2.frozen? ⟨w.heap.size + 1 + 1, 0, none⟩ = false := X2.2.2.1.f 0; have f1 : w2.frozen? ⟨w.heap.size + 1 + 1, 1, none⟩ = false := X2.2.2.1.f 1; have X2 := Lib.hid X2; clear k2)
  have P9 := X2.out.2.2.1.put (N' := 0) (A' := none) (n' := 0) (c' := 0)
  have z0 : ((w2.setCell ⟨w.heap.size + 1 + 1, 0, none⟩ (.int .i64 0)).setCell ⟨w.heap.size + 1 + 1, 1, none⟩ (.slice none 0 0)).cell? ⟨w.heap.size + 1 + 1, 0, none⟩ = some (.int .i64 0) := P9.c0
  have z1 : ((w2.setCell ⟨w.heap.size + 1 + 1, 0, none⟩ (.int .i64 0)).setCell ⟨w.heap.size + 1 + 1, 1, none⟩ (.slice none 0 0)).cell? ⟨w.heap.size + 1 + 1, 1, none⟩ = some (.slice none 0 0) := P9.c1
  exact bodyPost_ret (v := .tuple #[setv 0 none 0 0, .int .i64 er]) (by simp [results, Try.results33, go_sem, z0, z1]) rfl ⟨rfl, below_put X2.out.2.2.2 (by omega) _ _⟩

set_option maxRecDepth 20000 in
theorem Minus_ok (N : Int) (A1 A2 : Option Addr) (n c1 c2 : Nat) (a b : List Int) (w : World) (h1 : Sees w 1 A1 n c1 (a.map (Value.int .u64))) (h2 : Sees w 1 A2 n c2 (b.map (Value.int .u64))) (ha : W64 a) (hb : W64 b) (hra : RightW N a) (hrb : RightW N b) :
    Calls Try.prog 33 #[setv N A1 n c1, setv N A2 n c2] w fun e w' => ∃ v, e = .returned (.tuple #[v, .int .i64 0]) ∧ Made w w' N v (zipB fMin a b) ∧ Below w.heap.size w w' := by
  obtain ⟨W, hW⟩ : ∃ W, (((w.alloc (.cells #[.int .i64 N, .slice A1 n c1] 24)).alloc (.cells #[.int .i64 N, .slice A2 n c2] 24)).alloc (.cells #[.int .i64 0, .slice none 0 0] 24)) = W := ⟨_, rfl⟩
  have HX : Bx3 w W N N A1 A2 n c1 n c2 := by rw [← hW]; exact Bx3.new ..
  have H1 := Lib.hid (h1.below HX.2.2.2 (Nat.le_refl _))
  have H2 := Lib.hid (h2.below HX.2.2.2 (Nat.le_refl _))
  have HX := Lib.hid HX
  have HW := Lib.hid hW
  have HH := Lib.hid (And.intro hra hrb)
  clear h1 h2 hW hra hrb
  go_enter Try.func33, Try.ntmps33
  go_wp2_with (go_at_call 60; rw [HW.out]; refine (Minus_both_ok N A1 A2 n c1 c2 a b _ H1.out H2.out ha hb HH.out.1 HH.out.2).mono ?_; rintro e w2 ⟨v, rfl, ⟨A3, n3, c3, rfl, o3⟩, k2⟩; have O3 := Lib.hid o3; have X2 := HX.out.below k2 (Nat.le_refl _); have b4 : w2.cell? ⟨w.heap.size + 1 + 1, 0, none⟩ = some (.int .i64 0) := X2.2.2.1.c0; have b5 : w2.cell? ⟨w.heap.size + 1 + 1, 1, none⟩ = some (.slice none 0 0) := X2.2.2.1.c1; have f0 : w2.frozen? ⟨w.heap.size + 1 + 1, 0, none⟩ = false := X2.2.2.1.f 0; have f1 : w2.frozen? ⟨w.heap.size + 1 + 1, 1, none⟩ = false := X2.2.2.1.f 1; have X2 := Lib.hid X2; clear k2 o3)
  have P9 := X2.out.2.2.1.put (N' := N) (A' := A3) (n' := n3) (c' := c3)
  have z0 : ((w2.setCell ⟨w.heap.size + 1 + 1, 0, none⟩ (.int .i64 N)).setCell ⟨w.heap.size + 1 + 1, 1, none⟩ (.slice A3 n3 c3)).cell? ⟨w.heap.size + 1 + 1, 0, none⟩ = some (.int .i64 N) := P9.c0
  have z1 : ((w2.setCell ⟨w.heap.size + 1 + 1, 0, none⟩ (.int .i64 N)).setCell ⟨w.heap.size + 1 + 1, 1, none⟩ (.slice A3 n3 c3)).cell? ⟨w.heap.size + 1 + 1, 1, none⟩ = some (.slice A3 n3 c3) := P9.c1
  have hz := HX.out.size
  have ho := own_base (base' := w.heap.size + 3) O3.out hz
  exact bodyPost_ret (v := .tuple #[setv N A3 n3 c3, .int .i64 0]) (by simp [results, Try.results33, go_sem, z0, z1]) rfl ⟨_, rfl, ⟨_, _, _, rfl, own_base (ownsRow_setCell_below (ownsRow_setCell_below ho (by show w.heap.size + 1 + 1 < w.heap.size + 3; omega) _) (by show w.heap.size + 1 + 1 < w.heap.size + 3; omega) _) (by omega)⟩, below_put X2.out.2.2.2 (by omega) _ _⟩
end Go.Proofs.Ytemhoaleeefhhaa
