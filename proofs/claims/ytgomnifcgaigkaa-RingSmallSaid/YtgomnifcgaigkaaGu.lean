/- Walks: the reference's New, Take, Drain. -/
import Derived.Test.YtgomnifcgaigkaaProg
import Derived.Test.YtgomnifcgaigkaaGt
import Derived.Deep.CutRange
import Derived.Deep.DeepCutAuto
namespace Go.Proofs.Ytgomnifcgaigkaa
open Go.RowKit Go.Shelf
set_option linter.unusedVariables false

/-- The reference's ring, by value. -/
def refV (S : RS (Int × Int)) (A : Option Addr) (c : Nat) : Value := .agg #[.int .i64 S.cap, .int .i64 S.o, .int .i64 S.ac, .int .i64 S.rf, .slice A S.L.length c]

theorem E_ref : Elem Try.prog 86 116 (.agg #[.int .i64 0, .int .i64 0]) 2 16 := elem_of Try.underlying86 (by kernel_rfl) rfl (by decide)

theorem below_drewN {B : Nat} {a w : World} (h : Below B a w) (n : Nat) : Below B a (w.drewN n) := ⟨h.os, h.tape, h.output, h.size, h.block⟩
theorem below_two (w : World) (o1 o2 : Obj) : Below w.heap.size w ((w.alloc o1).alloc o2) := ((Below.refl _ w).alloc (Nat.le_refl _) _).alloc (by simp) _

set_option maxRecDepth 20000 in
theorem refNew_bad (n : Int) (w : World) (h : n < 1 ∨ 65536 < n) :
    Calls Try.prog 44 #[.int .i64 n] w fun e w' => e = .returned (.tuple #[refV ⟨0, 0, 0, 0, []⟩ none 0, .int .i64 2]) ∧ Below w.heap.size w w' := by
  have H := Lib.hid h
  rcases h with h | h
  · go_enter Try.func44, Try.ntmps44
    go_wp2
    exact bodyPost_ret (v := .tuple #[refV ⟨0, 0, 0, 0, []⟩ none 0, .int .i64 2]) (by simp [results, Try.results44, go_sem, refV]) rfl ⟨rfl, (Below.refl _ _).alloc (Nat.le_refl _) _⟩
  · have h' : ¬ n < 1 := by omega
    go_enter Try.func44, Try.ntmps44
    go_wp2
    exact bodyPost_ret (v := .tuple #[refV ⟨0, 0, 0, 0, []⟩ none 0, .int .i64 2]) (by simp [results, Try.results44, go_sem, refV]) rfl ⟨rfl, (Below.refl _ _).alloc (Nat.le_refl _) _⟩

set_option maxRecDepth 20000 in
theorem refNew_any (n : Int) (w : World) (h : 1 ≤ n ∧ n ≤ 65536) :
    Calls Try.prog 44 #[.int .i64 n] w fun e w' => e = .returned (.tuple #[refV ⟨0, 0, 0, n, []⟩ none 0, .int .i64 0]) ∧ Below w.heap.size w w' := by
  have h1 : ¬ n < 1 := by omega
  have h2 : ¬ 65536 < n := by omega
  go_enter Try.func44, Try.ntmps44
  go_wp2
  exact bodyPost_ret (v := .tuple #[refV ⟨0, 0, 0, n, []⟩ none 0, .int .i64 0]) (by simp [results, Try.results44, go_sem, refV]) rfl ⟨rfl, (Below.refl _ _).alloc (Nat.le_refl _) _⟩

set_option maxRecDepth 20000 in
set_option maxHeartbeats 800000 in
theorem refDrain_any (S : RS (Int × Int)) (A : Option Addr) (c : Nat) (w : World) :
    Calls Try.prog 60 #[refV S A c] w fun e w' => e = .returned (.tuple #[refV (drainR S).1 none 0, .slice A S.L.length c, .int .i64 S.o]) ∧ Below w.heap.size w w' := by
  obtain ⟨o, ac, rf, cap, L⟩ := S
  unfold refV
  simp only []
  go_enter Try.func60, Try.ntmps60
  go_wp2
  go_quiet (fail)
  go_wp2
  refine bodyPost_ret (v := .tuple #[.agg #[.int .i64 cap, .int .i64 0, .int .i64 ac, .int .i64 rf, .slice none 0 0], .slice A L.length c, .int .i64 o]) (by simp [results, Try.results60, go_sem]) rfl ⟨rfl, ?_⟩
  repeat (refine Below.setCell ?_ (by first | exact Nat.le_refl _ | exact Nat.le_succ _) _)
  exact below_drewN (below_two _ _ _) _

theorem own_lower {w : World} {b B s n : Nat} {e : TypeId} {v : Value} {xs : List Value} (h : w.ownsRow b e s v n xs) (hb : B ≤ b) : w.ownsRow B e s v n xs :=
  ⟨h.1, h.2.imp id fun ⟨q, cp, cur, h1, h2, h3⟩ => ⟨q, cp, cur, h1, Nat.le_trans hb h2, h3⟩⟩

set_option maxRecDepth 20000 in
set_option maxHeartbeats 800000 in
theorem refTake_neg (S : RS (Int × Int)) (A : Option Addr) (c : Nat) (k : Int) (w : World) (hk : k < 0) :
    Calls Try.prog 59 #[refV S A c, .int .i64 k] w fun e w' => e = .returned (.tuple #[refV S A c, .slice none 0 0, .int .i64 2]) ∧ Below w.heap.size w w' := by
  obtain ⟨o, ac, rf, cap, L⟩ := S
  unfold refV
  simp only []
  go_enter Try.func59, Try.ntmps59
  go_wp2
  refine bodyPost_ret (v := .tuple #[.agg #[.int .i64 cap, .int .i64 o, .int .i64 ac, .int .i64 rf, .slice A L.length c], .slice none 0 0, .int .i64 2]) (by simp [results, Try.results59, go_sem]) rfl ⟨rfl, ?_⟩
  repeat (refine Below.setCell ?_ (by first | exact Nat.le_refl _ | exact Nat.le_succ _) _)
  exact below_two _ _ _

theorem flat_take' : ∀ (L : List (Int × Int)) (m : Nat), (L.flatMap ceI).take (m * 2) = (L.take m).flatMap ceI
  | [], m => by simp
  | x :: L, 0 => by simp
  | x :: L, m + 1 => by
    have := flat_take' L m
    rw [List.flatMap_cons, List.take_succ_cons, List.flatMap_cons, show (m + 1) * 2 = m * 2 + 1 + 1 by omega]
    show List.take (m * 2 + 1 + 1) (Value.int .i64 x.1 :: Value.int .i64 x.2 :: L.flatMap ceI) = _
    rw [List.take_succ_cons, List.take_succ_cons, this]
    rfl
theorem flat_drop' : ∀ (L : List (Int × Int)) (m : Nat), (L.flatMap ceI).drop (m * 2) = (L.drop m).flatMap ceI
  | [], m => by simp
  | x :: L, 0 => by simp
  | x :: L, m + 1 => by
    have := flat_drop' L m
    rw [List.flatMap_cons, List.drop_succ_cons, show (m + 1) * 2 = m * 2 + 1 + 1 by omega]
    show List.drop (m * 2 + 1 + 1) (Value.int .i64 x.1 :: Value.int .i64 x.2 :: L.flatMap ceI) = _
    rw [List.drop_succ_cons, List.drop_succ_cons, this]
theorem flat_one (L : List (Int × Int)) : ∀ u ∈ L.flatMap ceI, u.oneCell' = true := fun u hu => by
  obtain ⟨x, _, hx⟩ := List.mem_flatMap.1 hu
  exact ceI1 x u hx

set_option maxRecDepth 20000 in
set_option maxHeartbeats 1600000 in
theorem refTake_any (o ac rf cap k : Int) (L : List (Int × Int)) (n m c : Nat) (A : Option Addr) (w : World) (h : Sees w 2 A n c (L.flatMap ceI)) (hl : L.length = n) (hn : n ≤ 65536) (hk : 0 ≤ k) (hm : (if (n : Int) < k then (n : Int) else k) = (m : Int)) :
    Calls Try.prog 59 #[.agg #[.int .i64 cap, .int .i64 o, .int .i64 ac, .int .i64 rf, .slice A n c], .int .i64 k] w fun e w' => ∃ A1 c1 A2 c2 n2, e = .returned (.tuple #[.agg #[.int .i64 cap, .int .i64 o, .int .i64 ac, .int .i64 rf, .slice A2 n2 c2], .slice A1 m c1, .int .i64 0]) ∧ n2 = n - m ∧ w'.ownsRow w.heap.size 116 2 (.slice A1 m c1) m ((L.take m).flatMap ceI) ∧ w'.ownsRow w.heap.size 116 2 (.slice A2 n2 c2) n2 ((L.drop m).flatMap ceI) ∧ Below w.heap.size w w' := by
  have hmn : m ≤ n := by split at hm <;> omega
  have hcut := fun w => run_cutr E_ref A n c m (Nat.le_trans hmn h.cap) w
  have hcutl := fun w => run_cutl E_ref A n c m hmn w
  have HS := Lib.hid h
  have h1 : Sees w 2 A m c ((L.take m).flatMap ceI) := by have := h.pre hmn; rwa [flat_take'] at this
  have h2 : Sees w 2 (cutA A c m 2) (n - m) (c - m) ((L.drop m).flatMap ceI) := by have := h.cut hmn; rwa [flat_drop'] at this
  have H1 := Lib.hid h1
  have H2 := Lib.hid h2
  have hcm := h.capm
  unfold maxLen at hcm
  have hcn := h.cap
  have HM := Lib.hid hmn
  have hm9 : (m : Int) ≤ 65536 := by omega
  have hn9 : (n : Int) ≤ 65536 := by omega
  have hd0 : decide (k < 0) = false := by simp; omega
  have hmn9 : (m : Int) ≤ (n : Int) := by omega
  obtain ⟨W2, hW2⟩ : ∃ W2, (w.alloc (.cells #[.int .i64 cap, .int .i64 o, .int .i64 ac, .int .i64 rf, .slice A n c] 88)).alloc (.cells #[.int .i64 0, .int .i64 0, .int .i64 0, .int .i64 0, .slice none 0 0] 88) = W2 := ⟨_, rfl⟩
  have hb2 : Below w.heap.size w W2 := by rw [← hW2]; exact below_two _ _ _
  have hx : W2.heap[w.heap.size]? = some (.cells #[.int .i64 cap, .int .i64 o, .int .i64 ac, .int .i64 rf, .slice A n c] 88 (0, 0)) := by
    rw [← hW2]; exact (Below.heap_alloc _ _ _ (by simp)).trans (heap_alloc_new w _)
  have hy : W2.heap[w.heap.size + 1]? = some (.cells #[.int .i64 0, .int .i64 0, .int .i64 0, .int .i64 0, .slice none 0 0] 88 (0, 0)) := by
    rw [← hW2]; have := heap_alloc_new (w.alloc (.cells #[.int .i64 cap, .int .i64 o, .int .i64 ac, .int .i64 rf, .slice A n c] 88)) (.cells #[.int .i64 0, .int .i64 0, .int .i64 0, .int .i64 0, .slice none 0 0] 88); rwa [World.size_alloc] at this
  have HX := Lib.hid (And.intro hx (And.intro hy (And.intro hb2 hW2)))
  clear h h1 h2 hn hl hmn hcm hcn hb2 hx hy hW2
  have Hs := Lib.hid (show W2.heap.size = w.heap.size + 2 by rw [← HX.out.2.2.2]; simp)
  have hx := HX.out.1
  have hy := HX.out.2.1
  have hlt2 : w.heap.size < W2.heap.size := by rw [Hs.out]; omega
  have hx4 : W2.cell? ⟨w.heap.size, 4, none⟩ = some (.slice A n c) := by simp [World.cell?, hx]
  by_cases hnk : (n : Int) < k
  · rw [if_pos hnk] at hm
    obtain rfl : n = m := by omega
    have H2 : Hid (Sees w 2 (cutA A c n 2) 0 (c - n) ((L.drop n).flatMap ceI)) := Lib.hid (by have := H2.out; rwa [Nat.sub_self] at this)
    have d1 : decide ((n : Int) < k) = true := by simpa using hnk
    go_enter Try.func59, Try.ntmps59
    go_upto_region 5 with fail
    rw [HX.out.2.2.2]
    go_upto_region 6 with (at_builtin; refine wpList_app E_ref rfl _ _ rfl rfl (World.ownsRow_lit (base := W2.heap.size) (e := 116) (size := 2) W2 #[] 0 (Nat.le_refl _) (by decide) rfl) rfl (H1.out.below (HX.out.2.2.1.alloc HX.out.2.2.1.size _) (Nat.le_refl _)) (flat_one _) (by simp [maxLen]; omega) (by omega) (by simp) ?_; intro A3 c3 w3 o3 g3 b3; have bb3 := ((Below.refl W2.heap.size W2).alloc (Nat.le_refl _) (.cells #[] 116)).trans b3; have O3 := Lib.hid (And.intro o3 bb3); clear o3 g3 b3 bb3)
    have hw3 := Lib.hid (And.intro (HX.out.2.2.1.trans (O3.out.2.mono HX.out.2.2.1.size)) (show w.heap.size + 1 < w3.heap.size by have := O3.out.2.size; have := Hs.out; omega))
    have hlt3 : w.heap.size < w3.heap.size := by have := hw3.out.2; omega
    have hx3 : w3.heap[w.heap.size]? = some (.cells #[.int .i64 cap, .int .i64 o, .int .i64 ac, .int .i64 rf, .slice A n c] 88 (0, 0)) := (O3.out.2.block _ hlt2).trans hx
    have hy3 : w3.heap[w.heap.size + 1]? = some (.cells #[.int .i64 0, .int .i64 0, .int .i64 0, .int .i64 0, .slice none 0 0] 88 (0, 0)) := (O3.out.2.block _ (by have := Hs.out; omega)).trans hy
    have hc3 : w3.cell? ⟨w.heap.size, 4, none⟩ = some (.slice A n c) := by simp [World.cell?, hx3]
    clear hx hy hx4
    go_wp2_with (first
      | (at_builtin; have _q := O3; refine wpList_app E_ref rfl _ _ rfl rfl (World.ownsRow_lit (base := w3.heap.size) (e := 116) (size := 2) w3 #[] 0 (Nat.le_refl _) (by decide) rfl) rfl (H2.out.below ((hw3.out.1).alloc (hw3.out.1).size _) (Nat.le_refl _)) (flat_one _) (by simp [maxLen] <;> omega) (by omega) (by simp) ?_; intro A4 c4 w4 o4 g4 b4; have bb4 := ((Below.refl w3.heap.size w3).alloc (Nat.le_refl _) (.cells #[] 116)).trans b4; have hx4 := (bb4.block _ hlt3).trans hx3; have hy4 := (bb4.block _ hw3.out.2).trans hy3; have hlt4 := Nat.lt_of_lt_of_le hlt3 bb4.size; have p0 : w4.cell? ⟨w.heap.size, 0, none⟩ = some (.int .i64 cap) := (by simp [World.cell?, hx4]); have r0 : w4.frozen? ⟨w.heap.size, 0, none⟩ = false := (by simp [World.frozen?, hx4]); have q0 : w4.cell? ⟨w.heap.size + 1, 0, none⟩ = some (.int .i64 0) := (by simp [World.cell?, hy4]); have u0 : w4.frozen? ⟨w.heap.size + 1, 0, none⟩ = false := (by simp [World.frozen?, hy4]); have p1 : w4.cell? ⟨w.heap.size, 1, none⟩ = some (.int .i64 o) := (by simp [World.cell?, hx4]); have r1 : w4.frozen? ⟨w.heap.size, 1, none⟩ = false := (by simp [World.frozen?, hx4]); have q1 : w4.cell? ⟨w.heap.size + 1, 1, none⟩ = some (.int .i64 0) := (by simp [World.cell?, hy4]); have u1 : w4.frozen? ⟨w.heap.size + 1, 1, none⟩ = false := (by simp [World.frozen?, hy4]); have p2 : w4.cell? ⟨w.heap.size, 2, none⟩ = some (.int .i64 ac) := (by simp [World.cell?, hx4]); have r2 : w4.frozen? ⟨w.heap.size, 2, none⟩ = false := (by simp [World.frozen?, hx4]); have q2 : w4.cell? ⟨w.heap.size + 1, 2, none⟩ = some (.int .i64 0) := (by simp [World.cell?, hy4]); have u2 : w4.frozen? ⟨w.heap.size + 1, 2, none⟩ = false := (by simp [World.frozen?, hy4]); have p3 : w4.cell? ⟨w.heap.size, 3, none⟩ = some (.int .i64 rf) := (by simp [World.cell?, hx4]); have r3 : w4.frozen? ⟨w.heap.size, 3, none⟩ = false := (by simp [World.frozen?, hx4]); have q3 : w4.cell? ⟨w.heap.size + 1, 3, none⟩ = some (.int .i64 0) := (by simp [World.cell?, hy4]); have u3 : w4.frozen? ⟨w.heap.size + 1, 3, none⟩ = false := (by simp [World.frozen?, hy4]); have p4 : w4.cell? ⟨w.heap.size, 4, none⟩ = some (.slice A n c) := (by simp [World.cell?, hx4]); have r4 : w4.frozen? ⟨w.heap.size, 4, none⟩ = false := (by simp [World.frozen?, hx4]); have q4 : w4.cell? ⟨w.heap.size + 1, 4, none⟩ = some (.slice none 0 0) := (by simp [World.cell?, hy4]); have u4 : w4.frozen? ⟨w.heap.size + 1, 4, none⟩ = false := (by simp [World.frozen?, hy4]); have O4 := Lib.hid (And.intro o4 bb4); clear o4 g4 b4 bb4 hx4 hy4))
    have b9 : Below w.heap.size w w4 := hw3.out.1.trans (O4.out.2.mono hw3.out.1.size)
    have k3 : w4.ownsRow W2.heap.size 116 2 (.slice A3 n c3) n ((L.take n).flatMap ceI) := by have := own_below O3.out.1 O4.out.2 (Nat.le_refl _); simpa only [Nat.zero_add, List.nil_append] using this
    have k4 : w4.ownsRow w3.heap.size 116 2 (.slice A4 0 c4) 0 ((L.drop n).flatMap ceI) := by have := O4.out.1; simpa only [Nat.zero_add, List.nil_append] using this
    have K3 := Lib.hid (And.intro k3 (And.intro k4 b9))
    clear k3 k4 b9
    refine bodyPost_ret (v := .tuple #[.agg #[.int .i64 cap, .int .i64 o, .int .i64 ac, .int .i64 rf, .slice A4 0 c4], .slice A3 n c3, .int .i64 0]) (by simp [results, Try.results59, go_sem, p0, p1, p2, p3, p4, q0, q1, q2, q3, q4, r0, r1, r2, r3, r4, u0, u1, u2, u3, u4]) rfl ⟨A3, c3, A4, c4, 0, rfl, by simp, own_lower (b := W2.heap.size) ?_ (Nat.le_of_lt hlt2), own_lower (b := w3.heap.size) ?_ (Nat.le_of_lt hlt3), ?_⟩
    · repeat (refine ownsRow_setCell_below ?_ (by have := Hs.out; simp; omega) _)
      exact K3.out.1
    · repeat (refine ownsRow_setCell_below ?_ (by have := hw3.out.2; simp; omega) _)
      exact K3.out.2.1
    · repeat (refine Below.setCell ?_ (by first | exact Nat.le_refl _ | exact Nat.le_succ _) _)
      exact K3.out.2.2
  · rw [if_neg hnk] at hm
    obtain rfl : k = (m : Int) := hm
    have d1 : decide ((n : Int) < (m : Int)) = false := by simpa using hnk
    go_enter Try.func59, Try.ntmps59
    go_upto_region 5 with fail
    rw [HX.out.2.2.2]
    go_upto_region 6 with (at_builtin; refine wpList_app E_ref rfl _ _ rfl rfl (World.ownsRow_lit (base := W2.heap.size) (e := 116) (size := 2) W2 #[] 0 (Nat.le_refl _) (by decide) rfl) rfl (H1.out.below (HX.out.2.2.1.alloc HX.out.2.2.1.size _) (Nat.le_refl _)) (flat_one _) (by simp [maxLen]; omega) (by omega) (by simp) ?_; intro A3 c3 w3 o3 g3 b3; have bb3 := ((Below.refl W2.heap.size W2).alloc (Nat.le_refl _) (.cells #[] 116)).trans b3; have O3 := Lib.hid (And.intro o3 bb3); clear o3 g3 b3 bb3)
    have hw3 := Lib.hid (And.intro (HX.out.2.2.1.trans (O3.out.2.mono HX.out.2.2.1.size)) (show w.heap.size + 1 < w3.heap.size by have := O3.out.2.size; have := Hs.out; omega))
    have hlt3 : w.heap.size < w3.heap.size := by have := hw3.out.2; omega
    have hx3 : w3.heap[w.heap.size]? = some (.cells #[.int .i64 cap, .int .i64 o, .int .i64 ac, .int .i64 rf, .slice A n c] 88 (0, 0)) := (O3.out.2.block _ hlt2).trans hx
    have hy3 : w3.heap[w.heap.size + 1]? = some (.cells #[.int .i64 0, .int .i64 0, .int .i64 0, .int .i64 0, .slice none 0 0] 88 (0, 0)) := (O3.out.2.block _ (by have := Hs.out; omega)).trans hy
    have hc3 : w3.cell? ⟨w.heap.size, 4, none⟩ = some (.slice A n c) := by simp [World.cell?, hx3]
    clear hx hy hx4
    go_wp2_with (first
      | (at_builtin; have _q := O3; refine wpList_app E_ref rfl _ _ rfl rfl (World.ownsRow_lit (base := w3.heap.size) (e := 116) (size := 2) w3 #[] 0 (Nat.le_refl _) (by decide) rfl) rfl (H2.out.below ((hw3.out.1).alloc (hw3.out.1).size _) (Nat.le_refl _)) (flat_one _) (by simp [maxLen] <;> omega) (by omega) (by simp) ?_; intro A4 c4 w4 o4 g4 b4; have bb4 := ((Below.refl w3.heap.size w3).alloc (Nat.le_refl _) (.cells #[] 116)).trans b4; have hx4 := (bb4.block _ hlt3).trans hx3; have hy4 := (bb4.block _ hw3.out.2).trans hy3; have hlt4 := Nat.lt_of_lt_of_le hlt3 bb4.size; have p0 : w4.cell? ⟨w.heap.size, 0, none⟩ = some (.int .i64 cap) := (by simp [World.cell?, hx4]); have r0 : w4.frozen? ⟨w.heap.size, 0, none⟩ = false := (by simp [World.frozen?, hx4]); have q0 : w4.cell? ⟨w.heap.size + 1, 0, none⟩ = some (.int .i64 0) := (by simp [World.cell?, hy4]); have u0 : w4.frozen? ⟨w.heap.size + 1, 0, none⟩ = false := (by simp [World.frozen?, hy4]); have p1 : w4.cell? ⟨w.heap.size, 1, none⟩ = some (.int .i64 o) := (by simp [World.cell?, hx4]); have r1 : w4.frozen? ⟨w.heap.size, 1, none⟩ = false := (by simp [World.frozen?, hx4]); have q1 : w4.cell? ⟨w.heap.size + 1, 1, none⟩ = some (.int .i64 0) := (by simp [World.cell?, hy4]); have u1 : w4.frozen? ⟨w.heap.size + 1, 1, none⟩ = false := (by simp [World.frozen?, hy4]); have p2 : w4.cell? ⟨w.heap.size, 2, none⟩ = some (.int .i64 ac) := (by simp [World.cell?, hx4]); have r2 : w4.frozen? ⟨w.heap.size, 2, none⟩ = false := (by simp [World.frozen?, hx4]); have q2 : w4.cell? ⟨w.heap.size + 1, 2, none⟩ = some (.int .i64 0) := (by simp [World.cell?, hy4]); have u2 : w4.frozen? ⟨w.heap.size + 1, 2, none⟩ = false := (by simp [World.frozen?, hy4]); have p3 : w4.cell? ⟨w.heap.size, 3, none⟩ = some (.int .i64 rf) := (by simp [World.cell?, hx4]); have r3 : w4.frozen? ⟨w.heap.size, 3, none⟩ = false := (by simp [World.frozen?, hx4]); have q3 : w4.cell? ⟨w.heap.size + 1, 3, none⟩ = some (.int .i64 0) := (by simp [World.cell?, hy4]); have u3 : w4.frozen? ⟨w.heap.size + 1, 3, none⟩ = false := (by simp [World.frozen?, hy4]); have p4 : w4.cell? ⟨w.heap.size, 4, none⟩ = some (.slice A n c) := (by simp [World.cell?, hx4]); have r4 : w4.frozen? ⟨w.heap.size, 4, none⟩ = false := (by simp [World.frozen?, hx4]); have q4 : w4.cell? ⟨w.heap.size + 1, 4, none⟩ = some (.slice none 0 0) := (by simp [World.cell?, hy4]); have u4 : w4.frozen? ⟨w.heap.size + 1, 4, none⟩ = false := (by simp [World.frozen?, hy4]); have O4 := Lib.hid (And.intro o4 bb4); clear o4 g4 b4 bb4 hx4 hy4))
    have b9 : Below w.heap.size w w4 := hw3.out.1.trans (O4.out.2.mono hw3.out.1.size)
    have k3 : w4.ownsRow W2.heap.size 116 2 (.slice A3 m c3) m ((L.take m).flatMap ceI) := by have := own_below O3.out.1 O4.out.2 (Nat.le_refl _); simpa only [Nat.zero_add, List.nil_append] using this
    have k4 : w4.ownsRow w3.heap.size 116 2 (.slice A4 (n - m) c4) (n - m) ((L.drop m).flatMap ceI) := by have := O4.out.1; simpa only [Nat.zero_add, List.nil_append] using this
    have K3 := Lib.hid (And.intro k3 (And.intro k4 b9))
    clear k3 k4 b9
    refine bodyPost_ret (v := .tuple #[.agg #[.int .i64 cap, .int .i64 o, .int .i64 ac, .int .i64 rf, .slice A4 (n - m) c4], .slice A3 m c3, .int .i64 0]) (by simp [results, Try.results59, go_sem, p0, p1, p2, p3, p4, q0, q1, q2, q3, q4, r0, r1, r2, r3, r4, u0, u1, u2, u3, u4]) rfl ⟨A3, c3, A4, c4, n - m, rfl, rfl, own_lower (b := W2.heap.size) ?_ (Nat.le_of_lt hlt2), own_lower (b := w3.heap.size) ?_ (Nat.le_of_lt hlt3), ?_⟩
    · repeat (refine ownsRow_setCell_below ?_ (by have := Hs.out; simp; omega) _)
      exact K3.out.1
    · repeat (refine ownsRow_setCell_below ?_ (by have := hw3.out.2; simp; omega) _)
      exact K3.out.2.1
    · repeat (refine Below.setCell ?_ (by first | exact Nat.le_refl _ | exact Nat.le_succ _) _)
      exact K3.out.2.2
end Go.Proofs.Ytgomnifcgaigkaa
