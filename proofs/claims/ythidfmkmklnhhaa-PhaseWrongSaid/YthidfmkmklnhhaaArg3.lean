/- What a row says of its arguments, numbers of 16 bits. No program is named here. -/
import Derived.Test.YthidfmkmklnhhaaArg
namespace Go.Proofs.Ythidfmkmklnhhaa
open Go.RowKit
theorem wf_u16 {n : Int} (h : (Lit.int .u16 n).wf = true) : 0 ≤ n ∧ n ≤ 65535 := by
  simp [Lit.wf, IntKind.min, IntKind.max, IntKind.signed, IntKind.bits] at h; omega
theorem nat_of_u16 {n : Int} (h : (Lit.int .u16 n).wf = true) : ∃ x : Nat, n = (x : Int) ∧ x < 65536 := ⟨n.toNat, by have := wf_u16 h; omega, by have := wf_u16 h; omega⟩
end Go.Proofs.Ythidfmkmklnhhaa
