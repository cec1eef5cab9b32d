/- Walks: the laws of chapter varint that need no more than what the chapter's functions are. -/
import Derived.Test.YtckklmepncibkaaProg
import Derived.Test.YtckklmepncibkaaVk
import Derived.Test.YtckklmepncibkaaArg
namespace Go.Proofs.Ytckklmepncibkaa
open Go.RowKit
set_option linter.unusedVariables false

set_option maxRecDepth 20000 in
set_option maxHeartbeats 800000 in
theorem VarintTells_any (x : Nat) (n : Int) (w : World) (hx : x < 18446744073709551616) (h0 : -9223372036854775808 ≤ n) (h1 : n ≤ 9223372036854775807) :
    Calls Try.prog 7 #[.int .u64 (x : Int), .int .i64 n] w fun e w' => e = .returned (.bool true) ∧ Below w.heap.size w w' := by
  go_enter Try.func7, Try.ntmps7
  go_wp2_with (first
    | (go_at_call 20; refine (tells_any x n _ hx h0 h1).mono ?_; rintro e w1 ⟨rfl, hb1⟩)
    | (go_at_call 12; refine (awake_any _).mono ?_; rintro e w2 ⟨rfl, hb2⟩))
  go_ret
  exact ⟨rfl, below_step hb1 hb2⟩

set_option maxRecDepth 20000 in
set_option maxHeartbeats 800000 in
theorem VarintReads_any (A : Option Addr) (n c : Nat) (l : List Int) (w : World) (h : Sees w 1 A n c (l.map (Value.int .u8))) (hl : Bytes l) :
    Calls Try.prog 8 #[.slice A n c] w fun e w' => e = .returned (.bool true) ∧ Below w.heap.size w w' := by
  go_enter Try.func8, Try.ntmps8
  go_wp2_with (first
    | (go_at_call 21; refine (reads_any _ _ _ l _ h hl).mono ?_; rintro e w1 ⟨rfl, hb1⟩)
    | (go_at_call 12; refine (awake_any _).mono ?_; rintro e w2 ⟨rfl, hb2⟩))
  go_ret
  exact ⟨rfl, below_step hb1 hb2⟩

set_option maxRecDepth 20000 in
set_option maxHeartbeats 800000 in
theorem VarintLists_any (A : Option Addr) (n c : Nat) (l : List Nat) (w : World) (h : Sees w 1 A n c ((l.map Int.ofNat).map (Value.int .u64))) (hl : ∀ x ∈ l, x < 18446744073709551616) :
    Calls Try.prog 5 #[.slice A n c] w fun e w' => e = .returned (.bool true) ∧ Below w.heap.size w w' := by
  go_enter Try.func5, Try.ntmps5
  go_wp2_with (first
    | (go_at_call 18; refine (lists_any _ _ _ l _ h hl).mono ?_; rintro e w1 ⟨rfl, hb1⟩)
    | (go_at_call 12; refine (awake_any _).mono ?_; rintro e w2 ⟨rfl, hb2⟩))
  go_ret
  exact ⟨rfl, below_step hb1 hb2⟩
end Go.Proofs.Ytckklmepncibkaa
