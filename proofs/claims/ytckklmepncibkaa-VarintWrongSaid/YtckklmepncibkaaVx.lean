/- Walks: VarintWrong, all ways. -/
import Derived.Test.YtckklmepncibkaaVu
import Derived.Test.YtckklmepncibkaaVv
import Derived.Test.YtckklmepncibkaaVw
namespace Go.Proofs.Ytckklmepncibkaa
open Go.RowKit

theorem VarintWrong_any (x : Nat) (A : Option Addr) (n c : Nat) (l0 : List Nat) (way n8 : Nat) (w : World) (hx : x < 18446744073709551616) (h : Sees w 1 A n c ((l0.map Int.ofNat).map (Value.int .u64))) (hl0 : ∀ x ∈ l0, x < 18446744073709551616)
    (hway : way < 256) (hn8 : n8 < 256) :
    Calls Try.prog 9 #[.int .u64 (x : Int), .slice A n c, .int .u8 (way : Int), .int .u8 (n8 : Int)] w fun e w' => e = .returned (.bool true) ∧ Below w.heap.size w w' := by
  by_cases h0 : way % 4 = 0
  · exact VarintWrong_0 x A n c l0 way n8 w hx h hl0 hway hn8 h0
  by_cases h1 : way % 4 = 1
  · exact VarintWrong_1 x A n c l0 way n8 w hx h hl0 hway hn8 h1
  by_cases h2 : way % 4 = 2
  · exact VarintWrong_2 x A n c l0 way n8 w hx h hl0 hway hn8 h2
  · exact VarintWrong_3 x A n c l0 way n8 w hx h hl0 hway hn8 (by omega)
end Go.Proofs.Ytckklmepncibkaa
