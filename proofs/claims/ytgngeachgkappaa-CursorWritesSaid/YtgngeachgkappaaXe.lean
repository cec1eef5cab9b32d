/- Walks: CursorWrites. -/
import Derived.Test.YtgngeachgkappaaProg
import Derived.Test.YtgngeachgkappaaXd
namespace Go.Proofs.Ytgngeachgkappaa
open Go.RowKit
set_option linter.unusedVariables false

set_option maxRecDepth 20000 in
theorem CursorWrites_any (N : Int) (Z : Option Addr) (k cz : Nat) (acts : List ActV) (w : World) (hz : SeesAct w Z k cz acts) :
    Calls Try.prog 4 #[.int .i64 N, .slice Z k cz] w fun e w' => e = .returned (.bool true) ∧ Below w.heap.size w w' := by
  go_enter Try.func4, Try.ntmps4
  go_wp2_with (first
    | (go_at_call 11; refine (awake_any _).mono ?_; rintro e w2 ⟨rfl, k2⟩; have b2 := below_step b1 k2)
    | (go_at_call 21; refine (writes_any N Z k cz acts _ hz).mono ?_; rintro e w1 ⟨rfl, b1⟩))
  go_ret
  exact ⟨rfl, b2⟩
end Go.Proofs.Ytgngeachgkappaa
