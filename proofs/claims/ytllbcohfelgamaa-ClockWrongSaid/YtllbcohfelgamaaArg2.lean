/- What a row says of its arguments, more. No program is named here. -/
import Derived.Test.YtllbcohfelgamaaArg
namespace Go.Proofs.Ytllbcohfelgamaa
open Go.RowKit
theorem wf_u32 {n : Int} (h : (Lit.int .u32 n).wf = true) : 0 ≤ n ∧ n ≤ 4294967295 := by
  simp [Lit.wf, IntKind.min, IntKind.max, IntKind.signed, IntKind.bits] at h; omega
theorem u32s_of {l : List Int} (h : ∀ n ∈ l, (Lit.int .u32 n).wf = true) : ∀ x ∈ l, 0 ≤ x ∧ x ≤ 4294967295 := fun x hx => wf_u32 (h x hx)
end Go.Proofs.Ytllbcohfelgamaa
