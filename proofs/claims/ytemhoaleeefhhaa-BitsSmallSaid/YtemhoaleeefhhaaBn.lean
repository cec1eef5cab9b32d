/- Walks: changed where all is right; With, Without. -/
import Derived.Test.YtemhoaleeefhhaaProg
import Derived.Test.YtemhoaleeefhhaaBm
namespace Go.Proofs.Ytemhoaleeefhhaa
open Go.RowKit
set_option linter.unusedVariables false

set_option maxRecDepth 20000 in
set_option maxHeartbeats 1600000 in
theorem With_changed_ok (N i : Nat) (A : Option Addr) (n c : Nat) (l : List Int) (w : World) (hs : Sees w 1 A n c (l.map (Value.int .u64))) (hw : W64 l) (hr : RightW N l) (hi : i < N) :
    Calls Try.prog 55 #[setv N A n c, .int .i64 (i : Int), .func (.func 56) #[] #[]] w fun e w' => ∃ v, e = .returned (.tuple #[v, .int .i64 0]) ∧ Made w w' N v (inB l i) ∧ Below w.heap.size w w' := by
  obtain ⟨W, hW⟩ : ∃ W, (w.alloc (.cells #[.int .i64 N, .slice A n c] 24)).alloc (.cells #[.int .i64 0, .slice none 0 0] 24) = W := ⟨_, rfl⟩
  have hB : Below w.heap.size w W := by rw [← hW]; exact ((Below.refl _ _).alloc (Nat.le_refl _) _).alloc (by simp) _
  have hz : W.heap.size = w.heap.size + 2 := by rw [← hW]; simp
  have X0 : SetB W w.heap.size N A n c := by rw [← hW]; exact (SetB.new w N A n c).alloc _
  have Y0 : SetB W (w.heap.size + 1) 0 none 0 0 := by rw [← hW]; exact lit_newB (by simp)
  have HR := Lib.hid (decide_eq_true hr)
  have hl := hs.length
  have hr2 := hr.2.2.1
  have hr3 := hr.2.1
  obtain ⟨q, hq⟩ : ∃ q : Nat, i / 64 = q := ⟨_, rfl⟩
  obtain ⟨r, hrr⟩ : ∃ r : Nat, i % 64 = r := ⟨_, rfl⟩
  have hqn : q < n := by omega
  have hr64 : r < 64 := by omega
  have hu := hw.at_ q
  obtain ⟨p1, p2⟩ := or_p64 hu.1 hu.2 hr64
  have hin : inB l i = l.set q ((fOr (l.getD q 0).toNat (2 ^ r) : Nat) : Int) := by unfold inB wd; rw [hq, hrr]; rfl
  obtain ⟨z, hz1⟩ : ∃ z : Nat, fOr (l.getD q 0).toNat (2 ^ r) = z := ⟨_, rfl⟩
  rw [hz1] at p2 hin
  rw [hin]
  have HN := Lib.hid (And.intro hr3 (show n ≤ 1024 by omega))
  have HQ := Lib.hid hqn
  have hq1 : (i : Int) / 64 = (q : Int) := by omega
  have hr1 : (i : Int) % 64 = (r : Int) := by omega
  have hr5 : (r : Int) ≤ 63 := by omega
  have hq2 : (q : Int) < (n : Int) := by omega
  have htm : (i : Int).tmod 64 = (r : Int) := by rw [Int.tmod_eq_emod_of_nonneg (by omega)]; exact hr1
  have htd : (i : Int).tdiv 64 = (q : Int) := by rw [Int.tdiv_eq_ediv_of_nonneg (by omega)]; exact hq1
  have hwq : IntKind.i64.wrap (q : Int) = (q : Int) := IntWalk.i64_in _ (by omega)
  have hwr : IntKind.i64.wrap (r : Int) = (r : Int) := IntWalk.i64_in _ (by omega)
  have d0 : decide ((i : Int) < 0) = false := by simp
  have d1 : decide ((N : Int) ≤ (i : Int)) = false := by simp; omega
  have d1' : decide (N ≤ i) = false := by simp; omega
  have hi0 : (0 : Int) ≤ (i : Int) := by omega
  have hi1 : (i : Int) < (N : Int) := by omega
  have HS := Lib.hid (hs.below hB (Nat.le_refl _))
  have HB := Lib.hid (And.intro hB hz)
  have HX := Lib.hid X0
  have HY := Lib.hid Y0
  have HW := Lib.hid hW
  generalize hxx : l.getD q 0 = x at hu p2
  have HXX := Lib.hid hxx
  obtain ⟨hu0, hu1⟩ := hu
  clear hs hB X0 Y0 hW hr hl hr2 hr3 hrr hqn hr64 hq hz1 hin hxx hz hi
  go_enter Try.func55, Try.ntmps55
  go_wp2_with (first
    | (go_at_call 69; have _q := K1; refine (Clone64_any A n c l _ (HS.out.below K1.out (Nat.le_refl _)) (by have := HN.out; omega)).mono ?_; rintro e w2 ⟨A2, c2, rfl, o2, k2⟩; have K2 := Lib.hid k2; have O2 := Lib.hid o2; have X2 := Lib.hid (X1.out.below k2 (Nat.le_refl _)); have Y2 := Lib.hid (Y1.out.below k2 (Nat.le_refl _)); clear k2 o2 x10 x11)
    | (go_at_call 34; rw [HW.out]; refine (Right_any N A n c l _ HS.out hw).mono ?_; rw [HR.out]; rintro e w1 ⟨rfl, k1⟩; have K1 := Lib.hid k1; have X1 := Lib.hid (HX.out.below k1 (Nat.le_refl _)); have Y1 := Lib.hid (HY.out.below k1 (Nat.le_refl _)); have x10 := X1.out.c0; have x11 := X1.out.c1; clear k1))
  have hz1 : w.heap.size + 2 ≤ w1.heap.size := by have h1 := K1.out.size; have h2 := HB.out.2; omega
  obtain ⟨g, c', hv, hgb⟩ := own_addrK O2.out (by have := HQ.out; omega)
  cases hv
  obtain ⟨u0, u1⟩ := own_cellK O2.out HQ.out
  rw [HXX.out] at u0
  have hsx := sees_own O2.out
  have hg2 : w.heap.size + 2 ≤ g := by omega
  have HG := Lib.hid hg2
  clear hgb
  go_region_law (first
    | (refine step_wpX rfl ?_; go_simp; go_at_call 56; refine (With1_any r z x _ p2).mono ?_; rintro e w3 ⟨rfl, rfl⟩))
  have hne0 : w.heap.size ≠ g := by omega
  have hne1 : w.heap.size + 1 ≠ g := by omega
  have X3 : SetB (w2.setCell ⟨g, q, none⟩ (.int .u64 (z : Int))).drew w.heap.size N A n c := (Below.heap_setCell _ _ _ _ hne0).trans X2.out
  have Y3 : SetB (w2.setCell ⟨g, q, none⟩ (.int .u64 (z : Int))).drew (w.heap.size + 1) 0 none 0 0 := (Below.heap_setCell _ _ _ _ hne1).trans Y2.out
  have O3 := Lib.hid (own_base (own_setK O2.out q (z : Int)).drew (Nat.le_trans hz1 (Nat.le_refl _)))
  have B3 := Lib.hid ((below_step (below_step HB.out.1 K1.out) K2.out).setCell (show w.heap.size ≤ (⟨g, q, none⟩ : Addr).block by show w.heap.size ≤ g; omega) (.int .u64 (z : Int))).drew
  generalize (w2.setCell ⟨g, q, none⟩ (.int .u64 (z : Int))).drew = W3 at X3 Y3 O3 B3 ⊢
  have a0 := X3.c0
  have a1 := X3.c1
  have b0 := Y3.c0
  have b1 := Y3.c1
  have g0 : W3.frozen? ⟨w.heap.size + 1, 0, none⟩ = false := Y3.f 0
  have g1 : W3.frozen? ⟨w.heap.size + 1, 1, none⟩ = false := Y3.f 1
  have Y3 := Lib.hid Y3
  clear X3 u0 u1 hsx
  go_wp2
  have P9 := Y3.out.put (N' := N) (A' := some ⟨g, 0, none⟩) (n' := n) (c' := c2)
  have z0 := P9.c0
  have z1 := P9.c1
  exact bodyPost_ret (v := .tuple #[setv N (some ⟨g, 0, none⟩) n c2, .int .i64 0]) (by simp [results, Try.results55, go_sem, z0, z1]) rfl ⟨_, rfl, ⟨_, _, _, rfl, own_base (ownsRow_setCell_below (ownsRow_setCell_below O3.out (Nat.lt_succ_self _) _) (Nat.lt_succ_self _) _) (by omega)⟩, below_put B3.out (Nat.le_succ _) _ _⟩
set_option maxRecDepth 20000 in
set_option maxHeartbeats 1600000 in
theorem Without_changed_ok (N i : Nat) (A : Option Addr) (n c : Nat) (l : List Int) (w : World) (hs : Sees w 1 A n c (l.map (Value.int .u64))) (hw : W64 l) (hr : RightW N l) (hi : i < N) :
    Calls Try.prog 55 #[setv N A n c, .int .i64 (i : Int), .func (.func 57) #[] #[]] w fun e w' => ∃ v, e = .returned (.tuple #[v, .int .i64 0]) ∧ Made w w' N v (offB l i) ∧ Below w.heap.size w w' := by
  obtain ⟨W, hW⟩ : ∃ W, (w.alloc (.cells #[.int .i64 N, .slice A n c] 24)).alloc (.cells #[.int .i64 0, .slice none 0 0] 24) = W := ⟨_, rfl⟩
  have hB : Below w.heap.size w W := by rw [← hW]; exact ((Below.refl _ _).alloc (Nat.le_refl _) _).alloc (by simp) _
  have hz : W.heap.size = w.heap.size + 2 := by rw [← hW]; simp
  have X0 : SetB W w.heap.size N A n c := by rw [← hW]; exact (SetB.new w N A n c).alloc _
  have Y0 : SetB W (w.heap.size + 1) 0 none 0 0 := by rw [← hW]; exact lit_newB (by simp)
  have HR := Lib.hid (decide_eq_true hr)
  have hl := hs.length
  have hr2 := hr.2.2.1
  have hr3 := hr.2.1
  obtain ⟨q, hq⟩ : ∃ q : Nat, i / 64 = q := ⟨_, rfl⟩
  obtain ⟨r, hrr⟩ : ∃ r : Nat, i % 64 = r := ⟨_, rfl⟩
  have hqn : q < n := by omega
  have hr64 : r < 64 := by omega
  have hu := hw.at_ q
  obtain ⟨p1, p2⟩ := off_p64 hu.1 hu.2 hr64
  have hin : offB l i = l.set q ((fMin (l.getD q 0).toNat (2 ^ r) : Nat) : Int) := by unfold offB wd; rw [hq, hrr]; rfl
  obtain ⟨z, hz1⟩ : ∃ z : Nat, fMin (l.getD q 0).toNat (2 ^ r) = z := ⟨_, rfl⟩
  rw [hz1] at p2 hin
  rw [hin]
  have HN := Lib.hid (And.intro hr3 (show n ≤ 1024 by omega))
  have HQ := Lib.hid hqn
  have hq1 : (i : Int) / 64 = (q : Int) := by omega
  have hr1 : (i : Int) % 64 = (r : Int) := by omega
  have hr5 : (r : Int) ≤ 63 := by omega
  have hq2 : (q : Int) < (n : Int) := by omega
  have htm : (i : Int).tmod 64 = (r : Int) := by rw [Int.tmod_eq_emod_of_nonneg (by omega)]; exact hr1
  have htd : (i : Int).tdiv 64 = (q : Int) := by rw [Int.tdiv_eq_ediv_of_nonneg (by omega)]; exact hq1
  have hwq : IntKind.i64.wrap (q : Int) = (q : Int) := IntWalk.i64_in _ (by omega)
  have hwr : IntKind.i64.wrap (r : Int) = (r : Int) := IntWalk.i64_in _ (by omega)
  have d0 : decide ((i : Int) < 0) = false := by simp
  have d1 : decide ((N : Int) ≤ (i : Int)) = false := by simp; omega
  have d1' : decide (N ≤ i) = false := by simp; omega
  have hi0 : (0 : Int) ≤ (i : Int) := by omega
  have hi1 : (i : Int) < (N : Int) := by omega
  have HS := Lib.hid (hs.below hB (Nat.le_refl _))
  have HB := Lib.hid (And.intro hB hz)
  have HX := Lib.hid X0
  have HY := Lib.hid Y0
  have HW := Lib.hid hW
  generalize hxx : l.getD q 0 = x at hu p2
  have HXX := Lib.hid hxx
  obtain ⟨hu0, hu1⟩ := hu
  clear hs hB X0 Y0 hW hr hl hr2 hr3 hrr hqn hr64 hq hz1 hin hxx hz hi
  go_enter Try.func55, Try.ntmps55
  go_wp2_with (first
    | (go_at_call 69; have _q := K1; refine (Clone64_any A n c l _ (HS.out.below K1.out (Nat.le_refl _)) (by have := HN.out; omega)).mono ?_; rintro e w2 ⟨A2, c2, rfl, o2, k2⟩; have K2 := Lib.hid k2; have O2 := Lib.hid o2; have X2 := Lib.hid (X1.out.below k2 (Nat.le_refl _)); have Y2 := Lib.hid (Y1.out.below k2 (Nat.le_refl _)); clear k2 o2 x10 x11)
    | (go_at_call 34; rw [HW.out]; refine (Right_any N A n c l _ HS.out hw).mono ?_; rw [HR.out]; rintro e w1 ⟨rfl, k1⟩; have K1 := Lib.hid k1; have X1 := Lib.hid (HX.out.below k1 (Nat.le_refl _)); have Y1 := Lib.hid (HY.out.below k1 (Nat.le_refl _)); have x10 := X1.out.c0; have x11 := X1.out.c1; clear k1))
  have hz1 : w.heap.size + 2 ≤ w1.heap.size := by have h1 := K1.out.size; have h2 := HB.out.2; omega
  obtain ⟨g, c', hv, hgb⟩ := own_addrK O2.out (by have := HQ.out; omega)
  cases hv
  obtain ⟨u0, u1⟩ := own_cellK O2.out HQ.out
  rw [HXX.out] at u0
  have hsx := sees_own O2.out
  have hg2 : w.heap.size + 2 ≤ g := by omega
  have HG := Lib.hid hg2
  clear hgb
  go_region_law (first
    | (refine step_wpX rfl ?_; go_simp; go_at_call 57; refine (Without1_any r z x _ p2).mono ?_; rintro e w3 ⟨rfl, rfl⟩))
  have hne0 : w.heap.size ≠ g := by omega
  have hne1 : w.heap.size + 1 ≠ g := by omega
  have X3 : SetB (w2.setCell ⟨g, q, none⟩ (.int .u64 (z : Int))).drew w.heap.size N A n c := (Below.heap_setCell _ _ _ _ hne0).trans X2.out
  have Y3 : SetB (w2.setCell ⟨g, q, none⟩ (.int .u64 (z : Int))).drew (w.heap.size + 1) 0 none 0 0 := (Below.heap_setCell _ _ _ _ hne1).trans Y2.out
  have O3 := Lib.hid (own_base (own_setK O2.out q (z : Int)).drew (Nat.le_trans hz1 (Nat.le_refl _)))
  have B3 := Lib.hid ((below_step (below_step HB.out.1 K1.out) K2.out).setCell (show w.heap.size ≤ (⟨g, q, none⟩ : Addr).block by show w.heap.size ≤ g; omega) (.int .u64 (z : Int))).drew
  generalize (w2.setCell ⟨g, q, none⟩ (.int .u64 (z : Int))).drew = W3 at X3 Y3 O3 B3 ⊢
  have a0 := X3.c0
  have a1 := X3.c1
  have b0 := Y3.c0
  have b1 := Y3.c1
  have g0 : W3.frozen? ⟨w.heap.size + 1, 0, none⟩ = false := Y3.f 0
  have g1 : W3.frozen? ⟨w.heap.size + 1, 1, none⟩ = false := Y3.f 1
  have Y3 := Lib.hid Y3
  clear X3 u0 u1 hsx
  go_wp2
  have P9 := Y3.out.put (N' := N) (A' := some ⟨g, 0, none⟩) (n' := n) (c' := c2)
  have z0 := P9.c0
  have z1 := P9.c1
  exact bodyPost_ret (v := .tuple #[setv N (some ⟨g, 0, none⟩) n c2, .int .i64 0]) (by simp [results, Try.results55, go_sem, z0, z1]) rfl ⟨_, rfl, ⟨_, _, _, rfl, own_base (ownsRow_setCell_below (ownsRow_setCell_below O3.out (Nat.lt_succ_self _) _) (Nat.lt_succ_self _) _) (by omega)⟩, below_put B3.out (Nat.le_succ _) _ _⟩
set_option maxRecDepth 20000 in
theorem With_bad (N i : Int) (A : Option Addr) (n c : Nat) (l : List Int) (w : World) (hs : Sees w 1 A n c (l.map (Value.int .u64))) (hw : W64 l) (h : ¬ RightW N l ∨ (i < 0 ∨ N ≤ i)) :
    Calls Try.prog 26 #[setv N A n c, .int .i64 i] w fun e w' => e = .returned (.tuple #[setv 0 none 0 0, .int .i64 (if RightW N l then 2 else 50)]) ∧ Below w.heap.size w w' := by
  obtain ⟨W, hW⟩ : ∃ W, (w.alloc (.cells #[.int .i64 N, .slice A n c] 24)).alloc (.cells #[.int .i64 0, .slice none 0 0] 24) = W := ⟨_, rfl⟩
  have hB : Below w.heap.size w W := by rw [← hW]; exact ((Below.refl _ _).alloc (Nat.le_refl _) _).alloc (by simp) _
  have Y0 : SetB W (w.heap.size + 1) 0 none 0 0 := by rw [← hW]; exact lit_newB (by simp)
  have HS := Lib.hid (hs.below hB (Nat.le_refl _))
  have HB := Lib.hid hB
  have HY := Lib.hid Y0
  have HW := Lib.hid hW
  have HH := Lib.hid h
  obtain ⟨er, her⟩ : ∃ er : Int, (if RightW N l then 2 else 50) = er := ⟨_, rfl⟩
  rw [her]
  have HE := Lib.hid her
  clear hs hB Y0 hW h her
  go_enter Try.func26, Try.ntmps26
  go_wp2_with (go_at_call 55; rw [HW.out]; refine (With_changed_bad N i A n c l _ HS.out hw HH.out).mono ?_; rw [HE.out]; rintro e w1 ⟨rfl, k1⟩; have K1 := Lib.hid k1; have y1 := HY.out.below k1 (Nat.le_refl _); have y10 := y1.c0; have y11 := y1.c1; have f0 : w1.frozen? ⟨w.heap.size + 1, 0, none⟩ = false := y1.f 0; have f1 : w1.frozen? ⟨w.heap.size + 1, 1, none⟩ = false := y1.f 1; have Y1 := Lib.hid y1; clear k1 y1)
  have P9 := Y1.out.put (N' := 0) (A' := none) (n' := 0) (c' := 0)
  have z0 := P9.c0
  have z1 := P9.c1
  exact bodyPost_ret (v := .tuple #[setv 0 none 0 0, .int .i64 er]) (by simp [results, Try.results26, go_sem, z0, z1]) rfl ⟨rfl, below_put (below_step HB.out K1.out) (Nat.le_succ _) _ _⟩

set_option maxRecDepth 20000 in
theorem With_ok (N i : Nat) (A : Option Addr) (n c : Nat) (l : List Int) (w : World) (hs : Sees w 1 A n c (l.map (Value.int .u64))) (hw : W64 l) (hr : RightW N l) (hi : i < N) :
    Calls Try.prog 26 #[setv N A n c, .int .i64 (i : Int)] w fun e w' => ∃ v, e = .returned (.tuple #[v, .int .i64 0]) ∧ Made w w' N v (inB l i) ∧ Below w.heap.size w w' := by
  obtain ⟨W, hW⟩ : ∃ W, (w.alloc (.cells #[.int .i64 N, .slice A n c] 24)).alloc (.cells #[.int .i64 0, .slice none 0 0] 24) = W := ⟨_, rfl⟩
  have hB : Below w.heap.size w W := by rw [← hW]; exact ((Below.refl _ _).alloc (Nat.le_refl _) _).alloc (by simp) _
  have hz : W.heap.size = w.heap.size + 2 := by rw [← hW]; simp
  have Y0 : SetB W (w.heap.size + 1) 0 none 0 0 := by rw [← hW]; exact lit_newB (by simp)
  have HS := Lib.hid (hs.below hB (Nat.le_refl _))
  have HB := Lib.hid (And.intro hB hz)
  have HY := Lib.hid Y0
  have HW := Lib.hid hW
  have HH := Lib.hid (And.intro hr hi)
  clear hs hB Y0 hW hr hi hz
  go_enter Try.func26, Try.ntmps26
  go_wp2_with (go_at_call 55; rw [HW.out]; refine (With_changed_ok N i A n c l _ HS.out hw HH.out.1 HH.out.2).mono ?_; rintro e w1 ⟨v, rfl, ⟨A1, n1, c1, rfl, o1⟩, k1⟩; have K1 := Lib.hid k1; have O1 := Lib.hid o1; have y1 := HY.out.below k1 (Nat.le_refl _); have y10 := y1.c0; have y11 := y1.c1; have f0 : w1.frozen? ⟨w.heap.size + 1, 0, none⟩ = false := y1.f 0; have f1 : w1.frozen? ⟨w.heap.size + 1, 1, none⟩ = false := y1.f 1; have Y1 := Lib.hid y1; clear k1 y1 o1)
  have P9 := Y1.out.put (N' := N) (A' := A1) (n' := n1) (c' := c1)
  have z0 := P9.c0
  have z1 := P9.c1
  have ho := O1.out
  rw [HB.out.2] at ho
  exact bodyPost_ret (v := .tuple #[setv N A1 n1 c1, .int .i64 0]) (by simp [results, Try.results26, go_sem, z0, z1]) rfl ⟨_, rfl, ⟨_, _, _, rfl, own_base (ownsRow_setCell_below (ownsRow_setCell_below ho (Nat.lt_succ_self _) _) (Nat.lt_succ_self _) _) (by omega)⟩, below_put (below_step HB.out.1 K1.out) (Nat.le_succ _) _ _⟩
set_option maxRecDepth 20000 in
theorem Without_bad (N i : Int) (A : Option Addr) (n c : Nat) (l : List Int) (w : World) (hs : Sees w 1 A n c (l.map (Value.int .u64))) (hw : W64 l) (h : ¬ RightW N l ∨ (i < 0 ∨ N ≤ i)) :
    Calls Try.prog 27 #[setv N A n c, .int .i64 i] w fun e w' => e = .returned (.tuple #[setv 0 none 0 0, .int .i64 (if RightW N l then 2 else 50)]) ∧ Below w.heap.size w w' := by
  obtain ⟨W, hW⟩ : ∃ W, (w.alloc (.cells #[.int .i64 N, .slice A n c] 24)).alloc (.cells #[.int .i64 0, .slice none 0 0] 24) = W := ⟨_, rfl⟩
  have hB : Below w.heap.size w W := by rw [← hW]; exact ((Below.refl _ _).alloc (Nat.le_refl _) _).alloc (by simp) _
  have Y0 : SetB W (w.heap.size + 1) 0 none 0 0 := by rw [← hW]; exact lit_newB (by simp)
  have HS := Lib.hid (hs.below hB (Nat.le_refl _))
  have HB := Lib.hid hB
  have HY := Lib.hid Y0
  have HW := Lib.hid hW
  have HH := Lib.hid h
  obtain ⟨er, her⟩ : ∃ er : Int, (if RightW N l then 2 else 50) = er := ⟨_, rfl⟩
  rw [her]
  have HE := Lib.hid her
  clear hs hB Y0 hW h her
  go_enter Try.func27, Try.ntmps27
  go_wp2_with (go_at_call 55; rw [HW.out]; refine (Without_changed_bad N i A n c l _ HS.out hw HH.out).mono ?_; rw [HE.out]; rintro e w1 ⟨rfl, k1⟩; have K1 := Lib.hid k1; have y1 := HY.out.below k1 (Nat.le_refl _); have y10 := y1.c0; have y11 := y1.c1; have f0 : w1.frozen? ⟨w.heap.size + 1, 0, none⟩ = false := y1.f 0; have f1 : w1.frozen? ⟨w.heap.size + 1, 1, none⟩ = false := y1.f 1; have Y1 := Lib.hid y1; clear k1 y1)
  have P9 := Y1.out.put (N' := 0) (A' := none) (n' := 0) (c' := 0)
  have z0 := P9.c0
  have z1 := P9.c1
  exact bodyPost_ret (v := .tuple #[setv 0 none 0 0, .int .i64 er]) (by simp [results, Try.results27, go_sem, z0, z1]) rfl ⟨rfl, below_put (below_step HB.out K1.out) (Nat.le_succ _) _ _⟩

set_option maxRecDepth 20000 in
theorem Without_ok (N i : Nat) (A : Option Addr) (n c : Nat) (l : List Int) (w : World) (hs : Sees w 1 A n c (l.map (Value.int .u64))) (hw : W64 l) (hr : RightW N l) (hi : i < N) :
    Calls Try.prog 27 #[setv N A n c, .int .i64 (i : Int)] w fun e w' => ∃ v, e = .returned (.tuple #[v, .int .i64 0]) ∧ Made w w' N v (offB l i) ∧ Below w.heap.size w w' := by
  obtain ⟨W, hW⟩ : ∃ W, (w.alloc (.cells #[.int .i64 N, .slice A n c] 24)).alloc (.cells #[.int .i64 0, .slice none 0 0] 24) = W := ⟨_, rfl⟩
  have hB : Below w.heap.size w W := by rw [← hW]; exact ((Below.refl _ _).alloc (Nat.le_refl _) _).alloc (by simp) _
  have hz : W.heap.size = w.heap.size + 2 := by rw [← hW]; simp
  have Y0 : SetB W (w.heap.size + 1) 0 none 0 0 := by rw [← hW]; exact lit_newB (by simp)
  have HS := Lib.hid (hs.below hB (Nat.le_refl _))
  have HB := Lib.hid (And.intro hB hz)
  have HY := Lib.hid Y0
  have HW := Lib.hid hW
  have HH := Lib.hid (And.intro hr hi)
  clear hs hB Y0 hW hr hi hz
  go_enter Try.func27, Try.ntmps27
  go_wp2_with (go_at_call 55; rw [HW.out]; refine (Without_changed_ok N i A n c l _ HS.out hw HH.out.1 HH.out.2).mono ?_; rintro e w1 ⟨v, rfl, ⟨A1, n1, c1, rfl, o1⟩, k1⟩; have K1 := Lib.hid k1; have O1 := Lib.hid o1; have y1 := HY.out.below k1 (Nat.le_refl _); have y10 := y1.c0; have y11 := y1.c1; have f0 : w1.frozen? ⟨w.heap.size + 1, 0, none⟩ = false := y1.f 0; have f1 : w1.frozen? ⟨w.heap.size + 1, 1, none⟩ = false := y1.f 1; have Y1 := Lib.hid y1; clear k1 y1 o1)
  have P9 := Y1.out.put (N' := N) (A' := A1) (n' := n1) (c' := c1)
  have z0 := P9.c0
  have z1 := P9.c1
  have ho := O1.out
  rw [HB.out.2] at ho
  exact bodyPost_ret (v := .tuple #[setv N A1 n1 c1, .int .i64 0]) (by simp [results, Try.results27, go_sem, z0, z1]) rfl ⟨_, rfl, ⟨_, _, _, rfl, own_base (ownsRow_setCell_below (ownsRow_setCell_below ho (Nat.lt_succ_self _) _) (Nat.lt_succ_self _) _) (by omega)⟩, below_put (below_step HB.out.1 K1.out) (Nat.le_succ _) _ _⟩
end Go.Proofs.Ytemhoaleeefhhaa
