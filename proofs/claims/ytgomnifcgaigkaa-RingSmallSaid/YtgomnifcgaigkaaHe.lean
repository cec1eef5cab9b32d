/- Walks: rings that are none (RingSmall). -/
import Derived.Test.YtgomnifcgaigkaaProg
import Derived.Test.YtgomnifcgaigkaaHb
namespace Go.Proofs.Ytgomnifcgaigkaa
open Go.RowKit Go.Shelf
set_option linter.unusedVariables false

def NoR (w : World) (v : Value) : Prop := v = .pointer none ∨ ∃ p, v = .pointer (some ⟨p, 0, none⟩) ∧ w.cell? ⟨p, 6, none⟩ = some (.int .i64 0)
theorem NoR.below {w w' : World} {v : Value} {N : Nat} (h : NoR w v) (hb : Below N w w') (hN : w.heap.size ≤ N) : NoR w' v := by
  rcases h with h | ⟨p, h, h6⟩
  · exact .inl h
  · exact .inr ⟨p, h, (hb.cell (Nat.lt_of_lt_of_le (World.block_lt_of_cell? _ _ h6) hN)).trans h6⟩

set_option maxRecDepth 20000 in
theorem none_none (v : Value) (w : World) (h : NoR w v) :
    Calls Try.prog 36 #[v] w fun e w' => e = .returned (.bool true) ∧ w = w' := by
  rcases h with rfl | ⟨p, rfl, h⟩
  · go_enter Try.func36, Try.ntmps36
    go_wp2
    go_ret
    exact ⟨rfl, rfl⟩
  · go_enter Try.func36, Try.ntmps36
    go_wp2
    go_ret
    exact ⟨rfl, rfl⟩

set_option maxRecDepth 20000 in
theorem Len_none (v : Value)  (w : World) (h : NoR w v) :
    Calls Try.prog 19 #[v] w fun e w' => e = .returned (.int .i64 0) ∧ Below w.heap.size w w' := by
  have H := Lib.hid h
  go_enter Try.func19, Try.ntmps19
  go_wp2_with (go_at_call 36; refine (none_none _ _ (by first | exact H.out | exact H.out.below ((Below.refl _ _).alloc (Nat.le_refl _) _) (Nat.le_refl _) | exact H.out.below (((Below.refl w.heap.size w).alloc (Nat.le_refl _) _).alloc (by simp) _) (Nat.le_refl _))).mono ?_; rintro e w1 ⟨rfl, rfl⟩)
  go_ret
  exact ⟨rfl, by first | exact Below.refl _ _ | exact (Below.refl _ _).alloc (Nat.le_refl _) _⟩

set_option maxRecDepth 20000 in
theorem Capacity_none (v : Value)  (w : World) (h : NoR w v) :
    Calls Try.prog 48 #[v] w fun e w' => e = .returned (.int .i64 0) ∧ Below w.heap.size w w' := by
  have H := Lib.hid h
  go_enter Try.func48, Try.ntmps48
  go_wp2_with (go_at_call 36; refine (none_none _ _ (by first | exact H.out | exact H.out.below ((Below.refl _ _).alloc (Nat.le_refl _) _) (Nat.le_refl _) | exact H.out.below (((Below.refl w.heap.size w).alloc (Nat.le_refl _) _).alloc (by simp) _) (Nat.le_refl _))).mono ?_; rintro e w1 ⟨rfl, rfl⟩)
  go_ret
  exact ⟨rfl, by first | exact Below.refl _ _ | exact (Below.refl _ _).alloc (Nat.le_refl _) _⟩

set_option maxRecDepth 20000 in
theorem Open_none (v : Value)  (w : World) (h : NoR w v) :
    Calls Try.prog 20 #[v] w fun e w' => e = .returned (.int .i64 0) ∧ Below w.heap.size w w' := by
  have H := Lib.hid h
  go_enter Try.func20, Try.ntmps20
  go_wp2_with (go_at_call 36; refine (none_none _ _ (by first | exact H.out | exact H.out.below ((Below.refl _ _).alloc (Nat.le_refl _) _) (Nat.le_refl _) | exact H.out.below (((Below.refl w.heap.size w).alloc (Nat.le_refl _) _).alloc (by simp) _) (Nat.le_refl _))).mono ?_; rintro e w1 ⟨rfl, rfl⟩)
  go_ret
  exact ⟨rfl, by first | exact Below.refl _ _ | exact (Below.refl _ _).alloc (Nat.le_refl _) _⟩

set_option maxRecDepth 20000 in
theorem Accepted_none (v : Value)  (w : World) (h : NoR w v) :
    Calls Try.prog 17 #[v] w fun e w' => e = .returned (.int .i64 0) ∧ Below w.heap.size w w' := by
  have H := Lib.hid h
  go_enter Try.func17, Try.ntmps17
  go_wp2_with (go_at_call 36; refine (none_none _ _ (by first | exact H.out | exact H.out.below ((Below.refl _ _).alloc (Nat.le_refl _) _) (Nat.le_refl _) | exact H.out.below (((Below.refl w.heap.size w).alloc (Nat.le_refl _) _).alloc (by simp) _) (Nat.le_refl _))).mono ?_; rintro e w1 ⟨rfl, rfl⟩)
  go_ret
  exact ⟨rfl, by first | exact Below.refl _ _ | exact (Below.refl _ _).alloc (Nat.le_refl _) _⟩

set_option maxRecDepth 20000 in
theorem Refused_none (v : Value)  (w : World) (h : NoR w v) :
    Calls Try.prog 18 #[v] w fun e w' => e = .returned (.int .i64 0) ∧ Below w.heap.size w w' := by
  have H := Lib.hid h
  go_enter Try.func18, Try.ntmps18
  go_wp2_with (go_at_call 36; refine (none_none _ _ (by first | exact H.out | exact H.out.below ((Below.refl _ _).alloc (Nat.le_refl _) _) (Nat.le_refl _) | exact H.out.below (((Below.refl w.heap.size w).alloc (Nat.le_refl _) _).alloc (by simp) _) (Nat.le_refl _))).mono ?_; rintro e w1 ⟨rfl, rfl⟩)
  go_ret
  exact ⟨rfl, by first | exact Below.refl _ _ | exact (Below.refl _ _).alloc (Nat.le_refl _) _⟩

set_option maxRecDepth 20000 in
theorem All_none (v : Value)  (w : World) (h : NoR w v) :
    Calls Try.prog 26 #[v] w fun e w' => e = .returned (.slice none 0 0) ∧ Below w.heap.size w w' := by
  have H := Lib.hid h
  go_enter Try.func26, Try.ntmps26
  go_wp2_with (go_at_call 36; refine (none_none _ _ (by first | exact H.out | exact H.out.below ((Below.refl _ _).alloc (Nat.le_refl _) _) (Nat.le_refl _) | exact H.out.below (((Below.refl w.heap.size w).alloc (Nat.le_refl _) _).alloc (by simp) _) (Nat.le_refl _))).mono ?_; rintro e w1 ⟨rfl, rfl⟩)
  go_ret
  exact ⟨rfl, by first | exact Below.refl _ _ | exact (Below.refl _ _).alloc (Nat.le_refl _) _⟩

set_option maxRecDepth 20000 in
theorem Put_none (v : Value) (x : Int) (w : World) (h : NoR w v) :
    Calls Try.prog 14 #[v, .int .i64 x] w fun e w' => e = .returned (.int .i64 1) ∧ Below w.heap.size w w' := by
  have H := Lib.hid h
  go_enter Try.func14, Try.ntmps14
  go_wp2_with (go_at_call 36; refine (none_none _ _ (by first | exact H.out | exact H.out.below ((Below.refl _ _).alloc (Nat.le_refl _) _) (Nat.le_refl _) | exact H.out.below (((Below.refl w.heap.size w).alloc (Nat.le_refl _) _).alloc (by simp) _) (Nat.le_refl _))).mono ?_; rintro e w1 ⟨rfl, rfl⟩)
  go_ret
  exact ⟨rfl, by first | exact Below.refl _ _ | exact (Below.refl _ _).alloc (Nat.le_refl _) _⟩

set_option maxRecDepth 20000 in
theorem Take_none (v : Value) (x : Int) (w : World) (h : NoR w v) :
    Calls Try.prog 15 #[v, .int .i64 x] w fun e w' => e = .returned (.tuple #[.slice none 0 0, .int .i64 1]) ∧ Below w.heap.size w w' := by
  have H := Lib.hid h
  go_enter Try.func15, Try.ntmps15
  go_wp2_with (go_at_call 36; refine (none_none _ _ (by first | exact H.out | exact H.out.below ((Below.refl _ _).alloc (Nat.le_refl _) _) (Nat.le_refl _) | exact H.out.below (((Below.refl w.heap.size w).alloc (Nat.le_refl _) _).alloc (by simp) _) (Nat.le_refl _))).mono ?_; rintro e w1 ⟨rfl, rfl⟩)
  go_ret2
  exact ⟨rfl, by first | exact Below.refl _ _ | exact (Below.refl _ _).alloc (Nat.le_refl _) _⟩

set_option maxRecDepth 20000 in
theorem Drain_none (v : Value)  (w : World) (h : NoR w v) :
    Calls Try.prog 16 #[v] w fun e w' => e = .returned (.tuple #[.slice none 0 0, .int .i64 0, .int .i64 1]) ∧ Below w.heap.size w w' := by
  have H := Lib.hid h
  go_enter Try.func16, Try.ntmps16
  go_wp2_with (go_at_call 36; refine (none_none _ _ (by first | exact H.out | exact H.out.below ((Below.refl _ _).alloc (Nat.le_refl _) _) (Nat.le_refl _) | exact H.out.below (((Below.refl w.heap.size w).alloc (Nat.le_refl _) _).alloc (by simp) _) (Nat.le_refl _))).mono ?_; rintro e w1 ⟨rfl, rfl⟩)
  exact bodyPost_ret (results_tmp3 rfl _ _ _) rfl ⟨rfl, by first | exact Below.refl _ _ | exact (Below.refl _ _).alloc (Nat.le_refl _) _⟩

set_option maxRecDepth 20000 in
theorem Len_none' (v : Value)  (w : World) (h : NoR w v) :
    Calls Try.prog 19 #[v] w fun e w' => e = .returned (.int .i64 0) ∧ w = w' := by
  have H := Lib.hid h
  go_enter Try.func19, Try.ntmps19
  go_wp2_with (go_at_call 36; refine (none_none _ _ H.out).mono ?_; rintro e w1 ⟨rfl, rfl⟩)
  go_ret
  exact ⟨rfl, rfl⟩

set_option maxRecDepth 20000 in
theorem First_none (v : Value)  (w : World) (h : NoR w v) :
    Calls Try.prog 47 #[v] w fun e w' => e = .returned (.tuple #[.agg #[.int .i64 0, .int .i64 0], .bool false]) ∧ Below w.heap.size w w' := by
  have H := Lib.hid (h.below ((Below.refl w.heap.size w).alloc (Nat.le_refl _) (.cells #[.int .i64 0, .int .i64 0] 29)) (Nat.le_refl _))
  go_enter Try.func47, Try.ntmps47
  go_wp2_with (go_at_call 19; refine (Len_none' _ _ H.out).mono ?_; rintro e w1 ⟨rfl, rfl⟩)
  exact bodyPost_ret (v := .tuple #[.agg #[.int .i64 0, .int .i64 0], .bool false]) (by simp [results, Try.results47, go_sem]) rfl ⟨rfl, (Below.refl _ _).alloc (Nat.le_refl _) _⟩

end Go.Proofs.Ytgomnifcgaigkaa
