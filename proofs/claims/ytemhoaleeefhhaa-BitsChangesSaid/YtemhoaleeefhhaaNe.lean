/- A set as a parameter: what is known of it. -/
import Derived.Test.YtemhoaleeefhhaaProg
import Derived.Test.YtemhoaleeefhhaaBb
import Derived.Test.YtemhoaleeefhhaaArg
import Derived.Lib.SmallJoins
import Derived.WalkKit
import Derived.ProofKit
import Derived.OpenShut
namespace Go.Proofs.Ytemhoaleeefhhaa
open Go.RowKit Go.ChangeShapes Go.WideShapes Go.ChangeAt
set_option linter.unusedVariables false

theorem open_row64 {H : Type} {enc : TypeId × Value → H} {w : World} {base : Nat} {held : Bool} {n : Nat} {v : Value} {y : DataW H × List MemPlace}
    (h : DataW.trod enc Try.prog w base (fun _ => true) held n 22 [v] = some y) : ∃ Y ny cy l, v = .slice Y ny cy ∧ Sees w 1 Y ny cy (l.map (Value.int .u64)) ∧ W64 l := by
  rcases open_ints Try.underlying22 Try.underlying54 (by kernel_rfl) h with ⟨hcs, _⟩ | ⟨x, l, c, zs, hcs, _, hl, hm, hz, _, hcell, hwz⟩
  · simp at hcs
    exact ⟨none, 0, 0, [], hcs, Sees.nil _ _ _ _ (Nat.zero_le _) (fun _ => rfl), fun x hx => by cases hx⟩
  · simp at hcs
    obtain ⟨h1, h2⟩ := sees_in (k := .u64) (w := w) (a := some x) (len := l) (cap := c) (zs := zs) (Or.inr ⟨x, rfl, hl, hm, by simpa using hz, hcell, hwz⟩)
    exact ⟨some x, l, c, zs.take l, hcs, h1, fun u hu => wf_u64 (h2 u hu)⟩

/-- A set as it came in. -/
abbrev SetZ := Int × Option Addr × Nat × Nat × List Int
abbrev setW (z : SetZ) : Value := setv z.1 z.2.1 z.2.2.1 z.2.2.2.1
def SeeSet (w : World) (z : SetZ) : Prop := Sees w 1 z.2.1 z.2.2.1 z.2.2.2.1 (z.2.2.2.2.map (Value.int .u64)) ∧ W64 z.2.2.2.2 ∧ -9223372036854775808 ≤ z.1 ∧ z.1 ≤ 9223372036854775807

set_option maxRecDepth 20000 in
theorem open_setv {H : Type} {enc : TypeId × Value → H} {w : World} {base : Nat} {held : Bool} {r : Reach} {b0 : Nat} {v : Value} {d : DataW H} {p : List MemPlace}
    (hv : Value.okWide Try.prog w r b0 24 v) (h : DataW.Trod enc Try.prog w base (fun _ => true) held 24 v d p) : ∃ z, v = setW z ∧ SeeSet w z := by
  obtain ⟨v0, v1, y0, y1, n, rfl, _, _, h0, h1⟩ := Go.Joins.open_agg2 Try.underlying24 (by kernel_rfl) (by kernel_rfl) hv h
  obtain ⟨n0, e0, _, w0⟩ := DataW.trod_int Try.underlying3 h0
  obtain ⟨Y, ny, cy, l, rfl, s1, b1⟩ := open_row64 h1
  simp at e0
  subst e0
  exact ⟨(n0, Y, ny, cy, l), rfl, s1, b1, wf_i64 w0⟩
end Go.Proofs.Ytemhoaleeefhhaa
