/- Walks: readers and writers that are none. Printed by gen_xf.py. -/
import Derived.Test.YtgngeachgkappaaProg
import Derived.Test.YtgngeachgkappaaXd
namespace Go.Proofs.Ytgngeachgkappaa
open Go.RowKit
set_option linter.unusedVariables false

theorem eql_nilR (w : World) (a : Addr) : (binOp .eql 38 (.pointer none) (.pointer (some a))).run Try.prog w = .ok (.bool false) w := by
  have h : ∀ d : Nat, (Op.equalIn (d + 1) 38 (.pointer none) (.pointer (some a))).run Try.prog w = .ok false w := fun d => by
    simp [Op.equalIn, run_underlying Try.underlying38]
  simp only [binOp]
  simp [Op.equal, Op.maxDepth, h 9999]
def NoRd (w : World) (v : Value) : Prop := v = .pointer none ∨ ∃ p, v = .pointer (some ⟨p, 0, none⟩) ∧ w.cell? ⟨p, 2, none⟩ = some (.pointer none)
theorem NoRd.below {w w' : World} {v : Value} {N : Nat} (h : NoRd w v) (hb : Below N w w') (hN : w.heap.size ≤ N) : NoRd w' v := by
  rcases h with h | ⟨p, h, h6⟩
  · exact .inl h
  · exact .inr ⟨p, h, (hb.cell (Nat.lt_of_lt_of_le (World.block_lt_of_cell? _ _ h6) hN)).trans h6⟩

set_option maxRecDepth 20000 in
theorem is_noneR (v : Value) (w : World) (h : NoRd w v) :
    Calls Try.prog 39 #[v] w fun e w' => e = .returned (.bool false) ∧ w = w' := by
  rcases h with rfl | ⟨p, rfl, h⟩
  · go_enter Try.func39, Try.ntmps39
    go_wp2
    go_ret
    exact ⟨rfl, rfl⟩
  · have hE := eql_nilR
    go_enter Try.func39, Try.ntmps39
    go_wp2
    go_ret
    exact ⟨rfl, rfl⟩

theorem eql_nilW (w : World) (a : Addr) : (binOp .eql 25 (.pointer none) (.pointer (some a))).run Try.prog w = .ok (.bool false) w := by
  have h : ∀ d : Nat, (Op.equalIn (d + 1) 25 (.pointer none) (.pointer (some a))).run Try.prog w = .ok false w := fun d => by
    simp [Op.equalIn, run_underlying Try.underlying25]
  simp only [binOp]
  simp [Op.equal, Op.maxDepth, h 9999]
def NoWr (w : World) (v : Value) : Prop := v = .pointer none ∨ ∃ p, v = .pointer (some ⟨p, 0, none⟩) ∧ w.cell? ⟨p, 2, none⟩ = some (.pointer none)
theorem NoWr.below {w w' : World} {v : Value} {N : Nat} (h : NoWr w v) (hb : Below N w w') (hN : w.heap.size ≤ N) : NoWr w' v := by
  rcases h with h | ⟨p, h, h6⟩
  · exact .inl h
  · exact .inr ⟨p, h, (hb.cell (Nat.lt_of_lt_of_le (World.block_lt_of_cell? _ _ h6) hN)).trans h6⟩

set_option maxRecDepth 20000 in
theorem is_noneW (v : Value) (w : World) (h : NoWr w v) :
    Calls Try.prog 37 #[v] w fun e w' => e = .returned (.bool false) ∧ w = w' := by
  rcases h with rfl | ⟨p, rfl, h⟩
  · go_enter Try.func37, Try.ntmps37
    go_wp2
    go_ret
    exact ⟨rfl, rfl⟩
  · have hE := eql_nilW
    go_enter Try.func37, Try.ntmps37
    go_wp2
    go_ret
    exact ⟨rfl, rfl⟩

set_option maxRecDepth 20000 in
theorem AtR_none (v : Value)  (w : World) (h : NoRd w v) :
    Calls Try.prog 18 #[v] w fun e w' => e = .returned (.int .i64 0) ∧ Below w.heap.size w w' := by
  have H := Lib.hid h
  go_enter Try.func18, Try.ntmps18
  go_wp2_with (go_at_call 39; refine (is_noneR _ _ (by first | exact H.out | exact H.out.below ((Below.refl _ _).alloc (Nat.le_refl _) _) (Nat.le_refl _) | exact H.out.below (((Below.refl w.heap.size w).alloc (Nat.le_refl _) _).alloc (by simp) _) (Nat.le_refl _))).mono ?_; rintro e w1 ⟨rfl, rfl⟩)
  go_ret
  exact ⟨rfl, by first | exact Below.refl _ _ | exact (Below.refl _ _).alloc (Nat.le_refl _) _ | exact ((Below.refl w.heap.size w).alloc (Nat.le_refl _) _).alloc (by simp) _ | exact B2⟩

set_option maxRecDepth 20000 in
theorem LeftR_none (v : Value)  (w : World) (h : NoRd w v) :
    Calls Try.prog 19 #[v] w fun e w' => e = .returned (.int .i64 0) ∧ Below w.heap.size w w' := by
  have H := Lib.hid h
  go_enter Try.func19, Try.ntmps19
  go_wp2_with (go_at_call 39; refine (is_noneR _ _ (by first | exact H.out | exact H.out.below ((Below.refl _ _).alloc (Nat.le_refl _) _) (Nat.le_refl _) | exact H.out.below (((Below.refl w.heap.size w).alloc (Nat.le_refl _) _).alloc (by simp) _) (Nat.le_refl _))).mono ?_; rintro e w1 ⟨rfl, rfl⟩)
  go_ret
  exact ⟨rfl, by first | exact Below.refl _ _ | exact (Below.refl _ _).alloc (Nat.le_refl _) _ | exact ((Below.refl w.heap.size w).alloc (Nat.le_refl _) _).alloc (by simp) _ | exact B2⟩

set_option maxRecDepth 20000 in
theorem EndR_none (v : Value)  (w : World) (h : NoRd w v) :
    Calls Try.prog 20 #[v] w fun e w' => e = .returned (.int .i64 1) ∧ Below w.heap.size w w' := by
  have H := Lib.hid h
  go_enter Try.func20, Try.ntmps20
  go_wp2_with (go_at_call 39; refine (is_noneR _ _ (by first | exact H.out | exact H.out.below ((Below.refl _ _).alloc (Nat.le_refl _) _) (Nat.le_refl _) | exact H.out.below (((Below.refl w.heap.size w).alloc (Nat.le_refl _) _).alloc (by simp) _) (Nat.le_refl _))).mono ?_; rintro e w1 ⟨rfl, rfl⟩)
  go_ret
  exact ⟨rfl, by first | exact Below.refl _ _ | exact (Below.refl _ _).alloc (Nat.le_refl _) _ | exact ((Below.refl w.heap.size w).alloc (Nat.le_refl _) _).alloc (by simp) _ | exact B2⟩

set_option maxRecDepth 20000 in
theorem ByteR_none (v : Value)  (w : World) (h : NoRd w v) :
    Calls Try.prog 24 #[v] w fun e w' => e = .returned (.tuple #[.int .u8 0, .int .i64 1]) ∧ Below w.heap.size w w' := by
  have H := Lib.hid h
  go_enter Try.func24, Try.ntmps24
  go_wp2_with (go_at_call 39; refine (is_noneR _ _ (by first | exact H.out | exact H.out.below ((Below.refl _ _).alloc (Nat.le_refl _) _) (Nat.le_refl _) | exact H.out.below (((Below.refl w.heap.size w).alloc (Nat.le_refl _) _).alloc (by simp) _) (Nat.le_refl _))).mono ?_; rintro e w1 ⟨rfl, rfl⟩)
  go_ret2
  exact ⟨rfl, by first | exact Below.refl _ _ | exact (Below.refl _ _).alloc (Nat.le_refl _) _ | exact ((Below.refl w.heap.size w).alloc (Nat.le_refl _) _).alloc (by simp) _ | exact B2⟩

set_option maxRecDepth 20000 in
theorem BytesR_none (v : Value) (k : Int) (w : World) (h : NoRd w v) :
    Calls Try.prog 29 #[v, .int .i64 k] w fun e w' => e = .returned (.tuple #[.slice none 0 0, .int .i64 1]) ∧ Below w.heap.size w w' := by
  have H := Lib.hid h
  go_enter Try.func29, Try.ntmps29
  go_wp2_with (go_at_call 39; refine (is_noneR _ _ (by first | exact H.out | exact H.out.below ((Below.refl _ _).alloc (Nat.le_refl _) _) (Nat.le_refl _) | exact H.out.below (((Below.refl w.heap.size w).alloc (Nat.le_refl _) _).alloc (by simp) _) (Nat.le_refl _))).mono ?_; rintro e w1 ⟨rfl, rfl⟩)
  go_ret2
  exact ⟨rfl, by first | exact Below.refl _ _ | exact (Below.refl _ _).alloc (Nat.le_refl _) _ | exact ((Below.refl w.heap.size w).alloc (Nat.le_refl _) _).alloc (by simp) _ | exact B2⟩

set_option maxRecDepth 20000 in
theorem FixedR_none (v : Value) (k : Int) (w : World) (h : NoRd w v) :
    Calls Try.prog 28 #[v, .int .i64 k] w fun e w' => e = .returned (.tuple #[.int .u64 0, .int .i64 1]) ∧ Below w.heap.size w w' := by
  have H := Lib.hid h
  go_enter Try.func28, Try.ntmps28
  go_wp2_with (go_at_call 39; refine (is_noneR _ _ (by first | exact H.out | exact H.out.below ((Below.refl _ _).alloc (Nat.le_refl _) _) (Nat.le_refl _) | exact H.out.below (((Below.refl w.heap.size w).alloc (Nat.le_refl _) _).alloc (by simp) _) (Nat.le_refl _))).mono ?_; rintro e w1 ⟨rfl, rfl⟩)
  go_ret2
  exact ⟨rfl, by first | exact Below.refl _ _ | exact (Below.refl _ _).alloc (Nat.le_refl _) _ | exact ((Below.refl w.heap.size w).alloc (Nat.le_refl _) _).alloc (by simp) _ | exact B2⟩

set_option maxRecDepth 20000 in
theorem NumberR_none (v : Value) (k : Int) (w : World) (h : NoRd w v) :
    Calls Try.prog 23 #[v, .int .u64 k] w fun e w' => e = .returned (.tuple #[.int .u64 0, .int .i64 1]) ∧ Below w.heap.size w w' := by
  have H := Lib.hid h
  go_enter Try.func23, Try.ntmps23
  go_wp2_with (go_at_call 39; refine (is_noneR _ _ (by first | exact H.out | exact H.out.below ((Below.refl _ _).alloc (Nat.le_refl _) _) (Nat.le_refl _) | exact H.out.below (((Below.refl w.heap.size w).alloc (Nat.le_refl _) _).alloc (by simp) _) (Nat.le_refl _))).mono ?_; rintro e w1 ⟨rfl, rfl⟩)
  go_ret2
  exact ⟨rfl, by first | exact Below.refl _ _ | exact (Below.refl _ _).alloc (Nat.le_refl _) _ | exact ((Below.refl w.heap.size w).alloc (Nat.le_refl _) _).alloc (by simp) _ | exact B2⟩

set_option maxRecDepth 20000 in
theorem CountR_none (v : Value) (k j : Int) (w : World) (h : NoRd w v) :
    Calls Try.prog 32 #[v, .int .i64 k, .int .i64 j] w fun e w' => e = .returned (.tuple #[.int .i64 0, .int .i64 1]) ∧ Below w.heap.size w w' := by
  rcases h with rfl | ⟨p, rfl, hp⟩
  · have H : Hid (NoRd w (.pointer none)) := Lib.hid (Or.inl rfl)
    go_enter Try.func32, Try.ntmps32
    go_wp2_with (go_at_call 39; refine (is_noneR _ _ (by first | exact H.out | exact H.out.below ((Below.refl _ _).alloc (Nat.le_refl _) _) (Nat.le_refl _) | exact H.out.below (((Below.refl w.heap.size w).alloc (Nat.le_refl _) _).alloc (by simp) _) (Nat.le_refl _))).mono ?_; rintro e w1 ⟨rfl, rfl⟩)
    go_ret2
    exact ⟨rfl, by first | exact Below.refl _ _ | exact (Below.refl _ _).alloc (Nat.le_refl _) _ | exact ((Below.refl w.heap.size w).alloc (Nat.le_refl _) _).alloc (by simp) _ | exact B2⟩
  · have H : Hid (NoRd w (.pointer (some ⟨p, 0, none⟩))) := Lib.hid (Or.inr ⟨p, rfl, hp⟩)
    clear hp
    go_enter Try.func32, Try.ntmps32
    go_wp2_with (go_at_call 39; refine (is_noneR _ _ (by first | exact H.out | exact H.out.below ((Below.refl _ _).alloc (Nat.le_refl _) _) (Nat.le_refl _) | exact H.out.below (((Below.refl w.heap.size w).alloc (Nat.le_refl _) _).alloc (by simp) _) (Nat.le_refl _))).mono ?_; rintro e w1 ⟨rfl, rfl⟩)
    go_ret2
    exact ⟨rfl, by first | exact Below.refl _ _ | exact (Below.refl _ _).alloc (Nat.le_refl _) _ | exact ((Below.refl w.heap.size w).alloc (Nat.le_refl _) _).alloc (by simp) _ | exact B2⟩

set_option maxRecDepth 20000 in
theorem LenW_none (v : Value)  (w : World) (h : NoWr w v) :
    Calls Try.prog 14 #[v] w fun e w' => e = .returned (.int .i64 0) ∧ Below w.heap.size w w' := by
  have H := Lib.hid h
  go_enter Try.func14, Try.ntmps14
  go_wp2_with (go_at_call 37; refine (is_noneW _ _ (by first | exact H.out | exact H.out.below ((Below.refl _ _).alloc (Nat.le_refl _) _) (Nat.le_refl _) | exact H.out.below (((Below.refl w.heap.size w).alloc (Nat.le_refl _) _).alloc (by simp) _) (Nat.le_refl _))).mono ?_; rintro e w1 ⟨rfl, rfl⟩)
  go_ret
  exact ⟨rfl, by first | exact Below.refl _ _ | exact (Below.refl _ _).alloc (Nat.le_refl _) _ | exact ((Below.refl w.heap.size w).alloc (Nat.le_refl _) _).alloc (by simp) _ | exact B2⟩

set_option maxRecDepth 20000 in
theorem OutW_none (v : Value)  (w : World) (h : NoWr w v) :
    Calls Try.prog 15 #[v] w fun e w' => e = .returned (.slice none 0 0) ∧ Below w.heap.size w w' := by
  have H := Lib.hid h
  go_enter Try.func15, Try.ntmps15
  go_wp2_with (go_at_call 37; refine (is_noneW _ _ (by first | exact H.out | exact H.out.below ((Below.refl _ _).alloc (Nat.le_refl _) _) (Nat.le_refl _) | exact H.out.below (((Below.refl w.heap.size w).alloc (Nat.le_refl _) _).alloc (by simp) _) (Nat.le_refl _))).mono ?_; rintro e w1 ⟨rfl, rfl⟩)
  go_ret
  exact ⟨rfl, by first | exact Below.refl _ _ | exact (Below.refl _ _).alloc (Nat.le_refl _) _ | exact ((Below.refl w.heap.size w).alloc (Nat.le_refl _) _).alloc (by simp) _ | exact B2⟩

set_option maxRecDepth 20000 in
theorem BytesW_none (v : Value) (A : Option Addr) (n c : Nat) (w : World) (h : NoWr w v) :
    Calls Try.prog 26 #[v, .slice A n c] w fun e w' => e = .returned (.int .i64 1) ∧ Below w.heap.size w w' := by
  have H := Lib.hid h
  go_enter Try.func26, Try.ntmps26
  go_wp2_with (go_at_call 37; refine (is_noneW _ _ (by first | exact H.out | exact H.out.below ((Below.refl _ _).alloc (Nat.le_refl _) _) (Nat.le_refl _) | exact H.out.below (((Below.refl w.heap.size w).alloc (Nat.le_refl _) _).alloc (by simp) _) (Nat.le_refl _))).mono ?_; rintro e w1 ⟨rfl, rfl⟩)
  go_ret
  exact ⟨rfl, by first | exact Below.refl _ _ | exact (Below.refl _ _).alloc (Nat.le_refl _) _ | exact ((Below.refl w.heap.size w).alloc (Nat.le_refl _) _).alloc (by simp) _ | exact B2⟩

set_option maxRecDepth 20000 in
theorem ByteW_none (v : Value) (x : Int) (w : World) (h : NoWr w v) :
    Calls Try.prog 27 #[v, .int .u8 x] w fun e w' => e = .returned (.int .i64 1) ∧ Below w.heap.size w w' := by
  have H := Lib.hid h
  go_enter Try.func27, Try.ntmps27
  go_wp2_with (go_at_call 26; refine (BytesW_none _ _ _ _ _ (by exact H.out.below ((Below.refl _ _).alloc (Nat.le_refl _) _) (Nat.le_refl _))).mono ?_; rintro e w9 ⟨rfl, b9⟩; have B2 : Below w.heap.size w w9 := below_step ((Below.refl _ _).alloc (Nat.le_refl _) _) b9)
  go_ret
  exact ⟨rfl, by first | exact Below.refl _ _ | exact (Below.refl _ _).alloc (Nat.le_refl _) _ | exact ((Below.refl w.heap.size w).alloc (Nat.le_refl _) _).alloc (by simp) _ | exact B2⟩

set_option maxRecDepth 20000 in
theorem FixedW_none (v : Value) (x k : Int) (w : World) (h : NoWr w v) :
    Calls Try.prog 25 #[v, .int .u64 x, .int .i64 k] w fun e w' => e = .returned (.int .i64 1) ∧ Below w.heap.size w w' := by
  have H := Lib.hid h
  go_enter Try.func25, Try.ntmps25
  go_wp2_with (go_at_call 37; refine (is_noneW _ _ (by first | exact H.out | exact H.out.below ((Below.refl _ _).alloc (Nat.le_refl _) _) (Nat.le_refl _) | exact H.out.below (((Below.refl w.heap.size w).alloc (Nat.le_refl _) _).alloc (by simp) _) (Nat.le_refl _))).mono ?_; rintro e w1 ⟨rfl, rfl⟩)
  go_ret
  exact ⟨rfl, by first | exact Below.refl _ _ | exact (Below.refl _ _).alloc (Nat.le_refl _) _ | exact ((Below.refl w.heap.size w).alloc (Nat.le_refl _) _).alloc (by simp) _ | exact B2⟩

set_option maxRecDepth 20000 in
theorem NumberW_none (v : Value) (x : Nat) (hx : x < 18446744073709551616) (w : World) (h : NoWr w v) :
    Calls Try.prog 34 #[v, .int .u64 (x : Int)] w fun e w' => e = .returned (.int .i64 1) ∧ Below w.heap.size w w' := by
  have H := Lib.hid h
  go_enter Try.func34, Try.ntmps34
  go_wp2_with (first
    | (go_at_call 26; have _q := b8; refine (BytesW_none _ _ _ _ _ (by exact H.out.below b8 (Nat.le_refl _))).mono ?_; rintro e w9 ⟨rfl, b9⟩; have B2 : Below w.heap.size w w9 := below_step b8 b9)
    | (go_at_call 22; refine (Write_any x hx _).mono ?_; rintro e w8 ⟨v8, rfl, o8, b8⟩; obtain ⟨A8, c8, rfl⟩ := own_form o8))
  go_ret
  exact ⟨rfl, by first | exact Below.refl _ _ | exact (Below.refl _ _).alloc (Nat.le_refl _) _ | exact ((Below.refl w.heap.size w).alloc (Nat.le_refl _) _).alloc (by simp) _ | exact B2⟩

end Go.Proofs.Ytgngeachgkappaa
