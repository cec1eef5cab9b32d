/-
  No cell of these rows narrows 'for every input' (looked for: loops, veiled, ifaces, maps, wideKeys, modest, calm, conditions, laid).
  DERIVED. THE GIVEN ROWS OF THIS SEAT. 9 by the template 'for every input the law returns true; each argument reads behind the call as it read before'; 0 by the template 'total and deterministic' (their statements: YtemhoaleeefhhaaTotals.lean).
  GIVEN WITH THE SEED: the statements are not yours to turn. If you find one false, say at which input.
  Laid BY PROGRAM, IN A SANDBOX (cutbox-rows.mjs): the forced cells as the released guide's own fill.sh prints them over the translation cd71d06d329f69b4… (all of the seat's roots in one cut). By AI agents, Wed Nov 11 2026. No macro, syntax, notation, axiom, sorry.
-/
import Derived.Test.YtemhoaleeefhhaaChecked
import GoSem.Claim
import GoSem.ClaimJoined
import GoSem.ClaimMapViews
import Derived.JoinedTies
import Derived.KernelRfl
namespace Go.Proofs.Ytemhoaleeefhhaa
/- THE CELL 'sum', in the pinned program and in every row, IS THE sha256 OF THE DUMP (.gsa) THAT YtemhoaleeefhhaaProg.lean LOADS. Nothing in Lean hashes anything: it is a label: what it is worth is what the hold of that sum in a sandbox is worth. -/
noncomputable def Try.pinned : Pinned := { name := "ytemhoaleeefhhaa", sum := "cd71d06d329f69b4c4202725b1189b223a9f3d2aeef105f2800411f3cb06f3d7", checked := Try.checked }
namespace Rows
def none {H : Type} : Left H := { results := [], args := [] }

/-- 'quantumlaw05.BitsJoins': WHATEVER THE INPUT: true; the input reads as it did. -/
def bitsJoinsSpec : ChangeSpec := { name := "bitsJoins", fn := fun _ => fun
  | [d1, d2] => { results := [.lit (.bool true)], args := [d1, d2] }
  | _ => none }
def bitsJoinsRow : OpenClaim := { program := "ytemhoaleeefhhaa", sum := "cd71d06d329f69b4c4202725b1189b223a9f3d2aeef105f2800411f3cb06f3d7", func := "quantum/quantumlaw05.BitsJoins", spec := "bitsJoins", unfollowed := true, recurses := true, apart := false }
def BitsJoinsSaid : Prop := bitsJoinsRow.holds Try.pinned (OpenSpec.ofChange bitsJoinsSpec)

/-- ITS FALSE NEIGHBOUR: 'it returns false'. Refute it at one input. -/
def bitsJoinsWrong : ChangeSpec := { name := "bitsJoins", fn := fun _ => fun
  | [d1, d2] => { results := [.lit (.bool false)], args := [d1, d2] }
  | _ => none }
def BitsJoinsWrongFalsely : Prop := bitsJoinsRow.holds Try.pinned (OpenSpec.ofChange bitsJoinsWrong)

/-- 'quantumlaw05.BitsTells': WHATEVER THE INPUT: true; the input reads as it did. -/
def bitsTellsSpec : ChangeSpec := { name := "bitsTells", fn := fun _ => fun
  | [d1, d2] => { results := [.lit (.bool true)], args := [d1, d2] }
  | _ => none }
def bitsTellsRow : OpenClaim := { program := "ytemhoaleeefhhaa", sum := "cd71d06d329f69b4c4202725b1189b223a9f3d2aeef105f2800411f3cb06f3d7", func := "quantum/quantumlaw05.BitsTells", spec := "bitsTells", unfollowed := true, recurses := true, apart := false }
def BitsTellsSaid : Prop := bitsTellsRow.holds Try.pinned (OpenSpec.ofChange bitsTellsSpec)

/-- ITS FALSE NEIGHBOUR: 'it returns false'. Refute it at one input. -/
def bitsTellsWrong : ChangeSpec := { name := "bitsTells", fn := fun _ => fun
  | [d1, d2] => { results := [.lit (.bool false)], args := [d1, d2] }
  | _ => none }
def BitsTellsWrongFalsely : Prop := bitsTellsRow.holds Try.pinned (OpenSpec.ofChange bitsTellsWrong)

/-- 'quantumlaw05.BitsRanks': WHATEVER THE INPUT: true; the input reads as it did. -/
def bitsRanksSpec : ChangeSpec := { name := "bitsRanks", fn := fun _ => fun
  | [d1, d2, d3] => { results := [.lit (.bool true)], args := [d1, d2, d3] }
  | _ => none }
def bitsRanksRow : OpenClaim := { program := "ytemhoaleeefhhaa", sum := "cd71d06d329f69b4c4202725b1189b223a9f3d2aeef105f2800411f3cb06f3d7", func := "quantum/quantumlaw05.BitsRanks", spec := "bitsRanks", unfollowed := true, recurses := true, apart := false }
def BitsRanksSaid : Prop := bitsRanksRow.holds Try.pinned (OpenSpec.ofChange bitsRanksSpec)

/-- ITS FALSE NEIGHBOUR: 'it returns false'. Refute it at one input. -/
def bitsRanksWrong : ChangeSpec := { name := "bitsRanks", fn := fun _ => fun
  | [d1, d2, d3] => { results := [.lit (.bool false)], args := [d1, d2, d3] }
  | _ => none }
def BitsRanksWrongFalsely : Prop := bitsRanksRow.holds Try.pinned (OpenSpec.ofChange bitsRanksWrong)

/-- 'quantumlaw05.BitsOne': WHATEVER THE INPUT: true; the input reads as it did. -/
def bitsOneSpec : ChangeSpec := { name := "bitsOne", fn := fun _ => fun
  | [d1, d2, d3, d4] => { results := [.lit (.bool true)], args := [d1, d2, d3, d4] }
  | _ => none }
def bitsOneRow : OpenClaim := { program := "ytemhoaleeefhhaa", sum := "cd71d06d329f69b4c4202725b1189b223a9f3d2aeef105f2800411f3cb06f3d7", func := "quantum/quantumlaw05.BitsOne", spec := "bitsOne", unfollowed := true, recurses := true, apart := false }
def BitsOneSaid : Prop := bitsOneRow.holds Try.pinned (OpenSpec.ofChange bitsOneSpec)

/-- ITS FALSE NEIGHBOUR: 'it returns false'. Refute it at one input. -/
def bitsOneWrong : ChangeSpec := { name := "bitsOne", fn := fun _ => fun
  | [d1, d2, d3, d4] => { results := [.lit (.bool false)], args := [d1, d2, d3, d4] }
  | _ => none }
def BitsOneWrongFalsely : Prop := bitsOneRow.holds Try.pinned (OpenSpec.ofChange bitsOneWrong)

/-- 'quantumlaw05.BitsRuns': WHATEVER THE INPUT: true; the input reads as it did. -/
def bitsRunsSpec : ChangeSpec := { name := "bitsRuns", fn := fun _ => fun
  | [d1, d2] => { results := [.lit (.bool true)], args := [d1, d2] }
  | _ => none }
def bitsRunsRow : OpenClaim := { program := "ytemhoaleeefhhaa", sum := "cd71d06d329f69b4c4202725b1189b223a9f3d2aeef105f2800411f3cb06f3d7", func := "quantum/quantumlaw05.BitsRuns", spec := "bitsRuns", unfollowed := true, recurses := true, apart := false }
def BitsRunsSaid : Prop := bitsRunsRow.holds Try.pinned (OpenSpec.ofChange bitsRunsSpec)

/-- ITS FALSE NEIGHBOUR: 'it returns false'. Refute it at one input. -/
def bitsRunsWrong : ChangeSpec := { name := "bitsRuns", fn := fun _ => fun
  | [d1, d2] => { results := [.lit (.bool false)], args := [d1, d2] }
  | _ => none }
def BitsRunsWrongFalsely : Prop := bitsRunsRow.holds Try.pinned (OpenSpec.ofChange bitsRunsWrong)

/-- 'quantumlaw05.BitsChanges': WHATEVER THE INPUT: true; the input reads as it did. -/
def bitsChangesSpec : ChangeSpec := { name := "bitsChanges", fn := fun _ => fun
  | [d1, d2, d3, d4] => { results := [.lit (.bool true)], args := [d1, d2, d3, d4] }
  | _ => none }
def bitsChangesRow : OpenClaim := { program := "ytemhoaleeefhhaa", sum := "cd71d06d329f69b4c4202725b1189b223a9f3d2aeef105f2800411f3cb06f3d7", func := "quantum/quantumlaw05.BitsChanges", spec := "bitsChanges", unfollowed := true, recurses := true, apart := false }
def BitsChangesSaid : Prop := bitsChangesRow.holds Try.pinned (OpenSpec.ofChange bitsChangesSpec)

/-- ITS FALSE NEIGHBOUR: 'it returns false'. Refute it at one input. -/
def bitsChangesWrong : ChangeSpec := { name := "bitsChanges", fn := fun _ => fun
  | [d1, d2, d3, d4] => { results := [.lit (.bool false)], args := [d1, d2, d3, d4] }
  | _ => none }
def BitsChangesWrongFalsely : Prop := bitsChangesRow.holds Try.pinned (OpenSpec.ofChange bitsChangesWrong)

/-- 'quantumlaw05.BitsAlgebra': WHATEVER THE INPUT: true; the input reads as it did. -/
def bitsAlgebraSpec : ChangeSpec := { name := "bitsAlgebra", fn := fun _ => fun
  | [d1, d2, d3] => { results := [.lit (.bool true)], args := [d1, d2, d3] }
  | _ => none }
def bitsAlgebraRow : OpenClaim := { program := "ytemhoaleeefhhaa", sum := "cd71d06d329f69b4c4202725b1189b223a9f3d2aeef105f2800411f3cb06f3d7", func := "quantum/quantumlaw05.BitsAlgebra", spec := "bitsAlgebra", unfollowed := true, recurses := true, apart := false }
def BitsAlgebraSaid : Prop := bitsAlgebraRow.holds Try.pinned (OpenSpec.ofChange bitsAlgebraSpec)

/-- ITS FALSE NEIGHBOUR: 'it returns false'. Refute it at one input. -/
def bitsAlgebraWrong : ChangeSpec := { name := "bitsAlgebra", fn := fun _ => fun
  | [d1, d2, d3] => { results := [.lit (.bool false)], args := [d1, d2, d3] }
  | _ => none }
def BitsAlgebraWrongFalsely : Prop := bitsAlgebraRow.holds Try.pinned (OpenSpec.ofChange bitsAlgebraWrong)

/-- 'quantumlaw05.BitsSmall': WHATEVER THE INPUT: true; the input reads as it did. -/
def bitsSmallSpec : ChangeSpec := { name := "bitsSmall", fn := fun _ => fun
  | [] => { results := [.lit (.bool true)], args := [] }
  | _ => none }
def bitsSmallRow : OpenClaim := { program := "ytemhoaleeefhhaa", sum := "cd71d06d329f69b4c4202725b1189b223a9f3d2aeef105f2800411f3cb06f3d7", func := "quantum/quantumlaw05.BitsSmall", spec := "bitsSmall", unfollowed := true, recurses := true, apart := false }
def BitsSmallSaid : Prop := bitsSmallRow.holds Try.pinned (OpenSpec.ofChange bitsSmallSpec)

/-- ITS FALSE NEIGHBOUR: 'it returns false'. Refute it at one input. -/
def bitsSmallWrong : ChangeSpec := { name := "bitsSmall", fn := fun _ => fun
  | [] => { results := [.lit (.bool false)], args := [] }
  | _ => none }
def BitsSmallWrongFalsely : Prop := bitsSmallRow.holds Try.pinned (OpenSpec.ofChange bitsSmallWrong)

/-- 'quantumlaw05.BitsWrong': WHATEVER THE INPUT: true; the input reads as it did. -/
def bitsWrongSpec : ChangeSpec := { name := "bitsWrong", fn := fun _ => fun
  | [d1, d2, d3, d4] => { results := [.lit (.bool true)], args := [d1, d2, d3, d4] }
  | _ => none }
def bitsWrongRow : OpenClaim := { program := "ytemhoaleeefhhaa", sum := "cd71d06d329f69b4c4202725b1189b223a9f3d2aeef105f2800411f3cb06f3d7", func := "quantum/quantumlaw05.BitsWrong", spec := "bitsWrong", unfollowed := true, recurses := true, apart := false }
def BitsWrongSaid : Prop := bitsWrongRow.holds Try.pinned (OpenSpec.ofChange bitsWrongSpec)

/-- ITS FALSE NEIGHBOUR: 'it returns false'. Refute it at one input. -/
def bitsWrongWrong : ChangeSpec := { name := "bitsWrong", fn := fun _ => fun
  | [d1, d2, d3, d4] => { results := [.lit (.bool false)], args := [d1, d2, d3, d4] }
  | _ => none }
def BitsWrongWrongFalsely : Prop := bitsWrongRow.holds Try.pinned (OpenSpec.ofChange bitsWrongWrong)

/- THE SECOND FORM. 'bulk': how many values and letters a reading holds, each counted each time it is reached (what is shared counts as often as it is met; a slice's spare places count too). A statement '..UptoSaid' is the law's where the arguments, and the package variables that the reading takes, are together of bulk at most 1048576: NARROWER than '..Said'. Prove '..Said' where nothing that the law and all that it calls make is longer than what came in: it says more and counts as full. Else prove '..UptoSaid'. A law counts once. -/
mutual
def uptoBulk {H : Type} : DataW H → Nat
  | .lit (.string bytes) => bytes.length + 1
  | .lit _ => 1
  | .nil => 1
  | .ptr d => uptoBulk d + 1
  | .slice elems spare => uptoBulkAll elems + uptoBulkAll spare + 1
  | .agg parts => uptoBulkAll parts + 1
  | .iface _ d => uptoBulk d + 1
  | .map entries => uptoBulkEntries entries + 1
  | .held _ => 1
def uptoBulkAll {H : Type} : List (DataW H) → Nat
  | [] => 0
  | d :: r => uptoBulk d + uptoBulkAll r
def uptoBulkEntries {H : Type} : List (Lit × DataW H) → Nat
  | [] => 0
  | x :: r => uptoBulkEntry x + uptoBulkEntries r
def uptoBulkEntry {H : Type} : Lit × DataW H → Nat
  | (.string bytes, d) => bytes.length + uptoBulk d + 1
  | (_, d) => uptoBulk d + 1
 end
def uptoSmall : (H : Type) → List (DataW H) → Bool := fun _ ds => decide (uptoBulkAll ds ≤ 1048576)
def OpenSpec.upto (s : _root_.Go.ChangeSpec) : _root_.Go.OpenSpec := { _root_.Go.OpenSpec.ofChange s with cond := some uptoSmall }

/-- 'quantumlaw05.BitsJoins', WHERE WHAT IT READS IS OF BULK AT MOST 1048576: true; the input reads as it did. -/
def bitsJoinsUptoRow : OpenClaim := { program := "ytemhoaleeefhhaa", sum := "cd71d06d329f69b4c4202725b1189b223a9f3d2aeef105f2800411f3cb06f3d7", func := "quantum/quantumlaw05.BitsJoins", spec := "bitsJoins", unfollowed := true, recurses := true, apart := false, narrowed := true }
def BitsJoinsUptoSaid : Prop := bitsJoinsUptoRow.holds Try.pinned (OpenSpec.upto bitsJoinsSpec)

/-- 'quantumlaw05.BitsTells', WHERE WHAT IT READS IS OF BULK AT MOST 1048576: true; the input reads as it did. -/
def bitsTellsUptoRow : OpenClaim := { program := "ytemhoaleeefhhaa", sum := "cd71d06d329f69b4c4202725b1189b223a9f3d2aeef105f2800411f3cb06f3d7", func := "quantum/quantumlaw05.BitsTells", spec := "bitsTells", unfollowed := true, recurses := true, apart := false, narrowed := true }
def BitsTellsUptoSaid : Prop := bitsTellsUptoRow.holds Try.pinned (OpenSpec.upto bitsTellsSpec)

/-- 'quantumlaw05.BitsRanks', WHERE WHAT IT READS IS OF BULK AT MOST 1048576: true; the input reads as it did. -/
def bitsRanksUptoRow : OpenClaim := { program := "ytemhoaleeefhhaa", sum := "cd71d06d329f69b4c4202725b1189b223a9f3d2aeef105f2800411f3cb06f3d7", func := "quantum/quantumlaw05.BitsRanks", spec := "bitsRanks", unfollowed := true, recurses := true, apart := false, narrowed := true }
def BitsRanksUptoSaid : Prop := bitsRanksUptoRow.holds Try.pinned (OpenSpec.upto bitsRanksSpec)

/-- 'quantumlaw05.BitsOne', WHERE WHAT IT READS IS OF BULK AT MOST 1048576: true; the input reads as it did. -/
def bitsOneUptoRow : OpenClaim := { program := "ytemhoaleeefhhaa", sum := "cd71d06d329f69b4c4202725b1189b223a9f3d2aeef105f2800411f3cb06f3d7", func := "quantum/quantumlaw05.BitsOne", spec := "bitsOne", unfollowed := true, recurses := true, apart := false, narrowed := true }
def BitsOneUptoSaid : Prop := bitsOneUptoRow.holds Try.pinned (OpenSpec.upto bitsOneSpec)

/-- 'quantumlaw05.BitsRuns', WHERE WHAT IT READS IS OF BULK AT MOST 1048576: true; the input reads as it did. -/
def bitsRunsUptoRow : OpenClaim := { program := "ytemhoaleeefhhaa", sum := "cd71d06d329f69b4c4202725b1189b223a9f3d2aeef105f2800411f3cb06f3d7", func := "quantum/quantumlaw05.BitsRuns", spec := "bitsRuns", unfollowed := true, recurses := true, apart := false, narrowed := true }
def BitsRunsUptoSaid : Prop := bitsRunsUptoRow.holds Try.pinned (OpenSpec.upto bitsRunsSpec)

/-- 'quantumlaw05.BitsChanges', WHERE WHAT IT READS IS OF BULK AT MOST 1048576: true; the input reads as it did. -/
def bitsChangesUptoRow : OpenClaim := { program := "ytemhoaleeefhhaa", sum := "cd71d06d329f69b4c4202725b1189b223a9f3d2aeef105f2800411f3cb06f3d7", func := "quantum/quantumlaw05.BitsChanges", spec := "bitsChanges", unfollowed := true, recurses := true, apart := false, narrowed := true }
def BitsChangesUptoSaid : Prop := bitsChangesUptoRow.holds Try.pinned (OpenSpec.upto bitsChangesSpec)

/-- 'quantumlaw05.BitsAlgebra', WHERE WHAT IT READS IS OF BULK AT MOST 1048576: true; the input reads as it did. -/
def bitsAlgebraUptoRow : OpenClaim := { program := "ytemhoaleeefhhaa", sum := "cd71d06d329f69b4c4202725b1189b223a9f3d2aeef105f2800411f3cb06f3d7", func := "quantum/quantumlaw05.BitsAlgebra", spec := "bitsAlgebra", unfollowed := true, recurses := true, apart := false, narrowed := true }
def BitsAlgebraUptoSaid : Prop := bitsAlgebraUptoRow.holds Try.pinned (OpenSpec.upto bitsAlgebraSpec)

/-- 'quantumlaw05.BitsSmall', WHERE WHAT IT READS IS OF BULK AT MOST 1048576: true; the input reads as it did. -/
def bitsSmallUptoRow : OpenClaim := { program := "ytemhoaleeefhhaa", sum := "cd71d06d329f69b4c4202725b1189b223a9f3d2aeef105f2800411f3cb06f3d7", func := "quantum/quantumlaw05.BitsSmall", spec := "bitsSmall", unfollowed := true, recurses := true, apart := false, narrowed := true }
def BitsSmallUptoSaid : Prop := bitsSmallUptoRow.holds Try.pinned (OpenSpec.upto bitsSmallSpec)

/-- 'quantumlaw05.BitsWrong', WHERE WHAT IT READS IS OF BULK AT MOST 1048576: true; the input reads as it did. -/
def bitsWrongUptoRow : OpenClaim := { program := "ytemhoaleeefhhaa", sum := "cd71d06d329f69b4c4202725b1189b223a9f3d2aeef105f2800411f3cb06f3d7", func := "quantum/quantumlaw05.BitsWrong", spec := "bitsWrong", unfollowed := true, recurses := true, apart := false, narrowed := true }
def BitsWrongUptoSaid : Prop := bitsWrongUptoRow.holds Try.pinned (OpenSpec.upto bitsWrongSpec)

end Rows
end Go.Proofs.Ytemhoaleeefhhaa
