/- Walks: clocks that are none. -/
import Derived.Test.YtllbcohfelgamaaProg
import Derived.Test.YtllbcohfelgamaaCg
import Derived.Test.YtllbcohfelgamaaCp
namespace Go.Proofs.Ytllbcohfelgamaa
open Go.RowKit
set_option linter.unusedVariables false

theorem eql_nil_ptr (w : World) (a : Addr) : (binOp .eql 25 (.pointer none) (.pointer (some a))).run Try.prog w = .ok (.bool false) w := by
  have h : ∀ d : Nat, (Op.equalIn (d + 1) 25 (.pointer none) (.pointer (some a))).run Try.prog w = .ok false w := fun d => by
    simp [Op.equalIn, run_underlying Try.underlying25]
  simp only [binOp]
  simp [Op.equal, Op.maxDepth, h 9999]

def NoClk (w : World) (v : Value) : Prop := v = .pointer none ∨ ∃ p, v = .pointer (some ⟨p, 0, none⟩) ∧ w.heap[p]? = some (.cells #[.pointer none, .slice none 0 0] 61 (0, 0))

set_option maxRecDepth 20000 in
theorem is_none (v : Value) (w : World) (h : NoClk w v) :
    Calls Try.prog 28 #[v] w fun e w' => e = .returned (.bool false) ∧ w = w' := by
  rcases h with rfl | ⟨p, rfl, h⟩
  · go_enter Try.func28, Try.ntmps28
    go_wp2
    go_ret
    exact ⟨rfl, rfl⟩
  · have h0 : w.cell? ⟨p, 0, none⟩ = some (.pointer none) := by simp [World.cell?, h]
    clear h
    have hE := eql_nil_ptr
    go_enter Try.func28, Try.ntmps28
    go_wp2
    go_ret
    exact ⟨rfl, rfl⟩

set_option maxRecDepth 20000 in
theorem Now_none (v : Value) (k : Int) (w : World) (h : NoClk w v) :
    Calls Try.prog 25 #[v, .int .i64 k] w fun e w' => e = .returned (.tuple #[.int .i64 0, .int .i64 1]) ∧ w = w' := by
  have H := Lib.hid h
  go_enter Try.func25, Try.ntmps25
  go_wp2_with (go_at_call 28; refine (is_none _ _ H.out).mono ?_; rintro e w1 ⟨rfl, rfl⟩)
  go_ret2
  exact ⟨rfl, rfl⟩

set_option maxRecDepth 20000 in
theorem Tick_none (v : Value) (k d : Int) (w : World) (h : NoClk w v) :
    Calls Try.prog 14 #[v, .int .i64 k, .int .i64 d] w fun e w' => e = .returned (.tuple #[.int .i64 0, .int .i64 1]) ∧ w = w' := by
  have H := Lib.hid h
  go_enter Try.func14, Try.ntmps14
  go_wp2_with (go_at_call 25; refine (Now_none _ _ _ H.out).mono ?_; rintro e w1 ⟨rfl, rfl⟩)
  go_ret2
  exact ⟨rfl, rfl⟩

set_option maxRecDepth 20000 in
theorem Until_none (v : Value) (k d : Int) (w : World) (h : NoClk w v) :
    Calls Try.prog 17 #[v, .int .i64 k, .int .i64 d] w fun e w' => e = .returned (.tuple #[.int .i64 0, .int .i64 1]) ∧ w = w' := by
  have H := Lib.hid h
  go_enter Try.func17, Try.ntmps17
  go_wp2_with (go_at_call 25; refine (Now_none _ _ _ H.out).mono ?_; rintro e w1 ⟨rfl, rfl⟩)
  go_ret2
  exact ⟨rfl, rfl⟩

set_option maxRecDepth 20000 in
theorem All_none (v : Value) (w : World) (h : NoClk w v) :
    Calls Try.prog 15 #[v] w fun e w' => e = .returned (.slice none 0 0) ∧ w = w' := by
  have H := Lib.hid h
  go_enter Try.func15, Try.ntmps15
  go_wp2_with (go_at_call 28; refine (is_none _ _ H.out).mono ?_; rintro e w1 ⟨rfl, rfl⟩)
  go_ret
  exact ⟨rfl, rfl⟩

set_option maxRecDepth 20000 in
theorem Len_none (v : Value) (w : World) (h : NoClk w v) :
    Calls Try.prog 37 #[v] w fun e w' => e = .returned (.int .i64 0) ∧ w = w' := by
  have H := Lib.hid h
  go_enter Try.func37, Try.ntmps37
  go_wp2_with (go_at_call 15; refine (All_none _ _ H.out).mono ?_; rintro e w1 ⟨rfl, rfl⟩)
  go_ret
  exact ⟨rfl, rfl⟩

set_option maxRecDepth 20000 in
theorem first_none (v f : Value) (w : World) (h : NoClk w v) :
    Calls Try.prog 30 #[v, f] w fun e w' => e = .returned (.tuple #[.int .i64 0, .int .i64 0]) ∧ w = w' := by
  have H := Lib.hid h
  go_enter Try.func30, Try.ntmps30
  go_wp2_with (go_at_call 28; refine (is_none _ _ H.out).mono ?_; rintro e w1 ⟨rfl, rfl⟩)
  go_ret2
  exact ⟨rfl, rfl⟩

set_option maxRecDepth 20000 in
theorem Behind_none (v : Value) (w : World) (h : NoClk w v) :
    Calls Try.prog 19 #[v] w fun e w' => e = .returned (.tuple #[.int .i64 0, .int .i64 0]) ∧ w = w' := by
  have H := Lib.hid h
  go_enter Try.func19, Try.ntmps19
  go_wp2_with (go_at_call 30; refine (first_none _ _ _ H.out).mono ?_; rintro e w1 ⟨rfl, rfl⟩)
  go_ret2
  exact ⟨rfl, rfl⟩

set_option maxRecDepth 20000 in
theorem Ahead_none (v : Value) (w : World) (h : NoClk w v) :
    Calls Try.prog 20 #[v] w fun e w' => e = .returned (.tuple #[.int .i64 0, .int .i64 0]) ∧ w = w' := by
  have H := Lib.hid h
  go_enter Try.func20, Try.ntmps20
  go_wp2_with (go_at_call 30; refine (first_none _ _ _ H.out).mono ?_; rintro e w1 ⟨rfl, rfl⟩)
  go_ret2
  exact ⟨rfl, rfl⟩
end Go.Proofs.Ytllbcohfelgamaa
