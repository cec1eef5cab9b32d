/-
  No cell of these rows narrows 'for every input' (looked for: loops, veiled, ifaces, maps, wideKeys, modest, calm, conditions, laid).
  DERIVED. THE GIVEN ROWS OF THIS SEAT. 8 by the template 'for every input the law returns true; each argument reads behind the call as it read before'; 0 by the template 'total and deterministic' (their statements: YtgngeachgkappaaTotals.lean).
  GIVEN WITH THE SEED: the statements are not yours to turn. If you find one false, say at which input.
  Laid BY PROGRAM, IN A SANDBOX (cutbox-rows.mjs): the forced cells as the released guide's own fill.sh prints them over the translation 06c7dd028c05e6f3… (all of the seat's roots in one cut). By AI agents, Wed Nov 11 2026. No macro, syntax, notation, axiom, sorry.
-/
import Derived.Test.YtgngeachgkappaaChecked
import GoSem.Claim
import GoSem.ClaimJoined
import GoSem.ClaimMapViews
import Derived.JoinedTies
import Derived.KernelRfl
namespace Go.Proofs.Ytgngeachgkappaa
/- THE CELL 'sum', in the pinned program and in every row, IS THE sha256 OF THE DUMP (.gsa) THAT YtgngeachgkappaaProg.lean LOADS. Nothing in Lean hashes anything: it is a label: what it is worth is what the hold of that sum in a sandbox is worth. -/
noncomputable def Try.pinned : Pinned := { name := "ytgngeachgkappaa", sum := "06c7dd028c05e6f34754290c7abc3247e75648a78d896c482bd17b21c6b4b5d5", checked := Try.checked }
namespace Rows
def none {H : Type} : Left H := { results := [], args := [] }

/-- 'quantumlaw02.CursorBack': WHATEVER THE INPUT: true; the input reads as it did. -/
def cursorBackSpec : ChangeSpec := { name := "cursorBack", fn := fun _ => fun
  | [d1, d2, d3] => { results := [.lit (.bool true)], args := [d1, d2, d3] }
  | _ => none }
def cursorBackRow : OpenClaim := { program := "ytgngeachgkappaa", sum := "06c7dd028c05e6f34754290c7abc3247e75648a78d896c482bd17b21c6b4b5d5", func := "quantum/quantumlaw02.CursorBack", spec := "cursorBack", unfollowed := true, recurses := true, apart := false }
def CursorBackSaid : Prop := cursorBackRow.holds Try.pinned (OpenSpec.ofChange cursorBackSpec)

/-- ITS FALSE NEIGHBOUR: 'it returns false'. Refute it at one input. -/
def cursorBackWrong : ChangeSpec := { name := "cursorBack", fn := fun _ => fun
  | [d1, d2, d3] => { results := [.lit (.bool false)], args := [d1, d2, d3] }
  | _ => none }
def CursorBackWrongFalsely : Prop := cursorBackRow.holds Try.pinned (OpenSpec.ofChange cursorBackWrong)

/-- 'quantumlaw02.CursorWrites': WHATEVER THE INPUT: true; the input reads as it did. -/
def cursorWritesSpec : ChangeSpec := { name := "cursorWrites", fn := fun _ => fun
  | [d1, d2] => { results := [.lit (.bool true)], args := [d1, d2] }
  | _ => none }
def cursorWritesRow : OpenClaim := { program := "ytgngeachgkappaa", sum := "06c7dd028c05e6f34754290c7abc3247e75648a78d896c482bd17b21c6b4b5d5", func := "quantum/quantumlaw02.CursorWrites", spec := "cursorWrites", unfollowed := true, recurses := true, apart := false }
def CursorWritesSaid : Prop := cursorWritesRow.holds Try.pinned (OpenSpec.ofChange cursorWritesSpec)

/-- ITS FALSE NEIGHBOUR: 'it returns false'. Refute it at one input. -/
def cursorWritesWrong : ChangeSpec := { name := "cursorWrites", fn := fun _ => fun
  | [d1, d2] => { results := [.lit (.bool false)], args := [d1, d2] }
  | _ => none }
def CursorWritesWrongFalsely : Prop := cursorWritesRow.holds Try.pinned (OpenSpec.ofChange cursorWritesWrong)

/-- 'quantumlaw02.CursorMost': WHATEVER THE INPUT: true; the input reads as it did. -/
def cursorMostSpec : ChangeSpec := { name := "cursorMost", fn := fun _ => fun
  | [d1, d2] => { results := [.lit (.bool true)], args := [d1, d2] }
  | _ => none }
def cursorMostRow : OpenClaim := { program := "ytgngeachgkappaa", sum := "06c7dd028c05e6f34754290c7abc3247e75648a78d896c482bd17b21c6b4b5d5", func := "quantum/quantumlaw02.CursorMost", spec := "cursorMost", unfollowed := true, recurses := true, apart := false }
def CursorMostSaid : Prop := cursorMostRow.holds Try.pinned (OpenSpec.ofChange cursorMostSpec)

/-- ITS FALSE NEIGHBOUR: 'it returns false'. Refute it at one input. -/
def cursorMostWrong : ChangeSpec := { name := "cursorMost", fn := fun _ => fun
  | [d1, d2] => { results := [.lit (.bool false)], args := [d1, d2] }
  | _ => none }
def CursorMostWrongFalsely : Prop := cursorMostRow.holds Try.pinned (OpenSpec.ofChange cursorMostWrong)

/-- 'quantumlaw02.CursorFixed': WHATEVER THE INPUT: true; the input reads as it did. -/
def cursorFixedSpec : ChangeSpec := { name := "cursorFixed", fn := fun _ => fun
  | [d1, d2, d3] => { results := [.lit (.bool true)], args := [d1, d2, d3] }
  | _ => none }
def cursorFixedRow : OpenClaim := { program := "ytgngeachgkappaa", sum := "06c7dd028c05e6f34754290c7abc3247e75648a78d896c482bd17b21c6b4b5d5", func := "quantum/quantumlaw02.CursorFixed", spec := "cursorFixed", unfollowed := true, recurses := true, apart := false }
def CursorFixedSaid : Prop := cursorFixedRow.holds Try.pinned (OpenSpec.ofChange cursorFixedSpec)

/-- ITS FALSE NEIGHBOUR: 'it returns false'. Refute it at one input. -/
def cursorFixedWrong : ChangeSpec := { name := "cursorFixed", fn := fun _ => fun
  | [d1, d2, d3] => { results := [.lit (.bool false)], args := [d1, d2, d3] }
  | _ => none }
def CursorFixedWrongFalsely : Prop := cursorFixedRow.holds Try.pinned (OpenSpec.ofChange cursorFixedWrong)

/-- 'quantumlaw02.CursorReads': WHATEVER THE INPUT: true; the input reads as it did. -/
def cursorReadsSpec : ChangeSpec := { name := "cursorReads", fn := fun _ => fun
  | [d1, d2] => { results := [.lit (.bool true)], args := [d1, d2] }
  | _ => none }
def cursorReadsRow : OpenClaim := { program := "ytgngeachgkappaa", sum := "06c7dd028c05e6f34754290c7abc3247e75648a78d896c482bd17b21c6b4b5d5", func := "quantum/quantumlaw02.CursorReads", spec := "cursorReads", unfollowed := true, recurses := true, apart := false }
def CursorReadsSaid : Prop := cursorReadsRow.holds Try.pinned (OpenSpec.ofChange cursorReadsSpec)

/-- ITS FALSE NEIGHBOUR: 'it returns false'. Refute it at one input. -/
def cursorReadsWrong : ChangeSpec := { name := "cursorReads", fn := fun _ => fun
  | [d1, d2] => { results := [.lit (.bool false)], args := [d1, d2] }
  | _ => none }
def CursorReadsWrongFalsely : Prop := cursorReadsRow.holds Try.pinned (OpenSpec.ofChange cursorReadsWrong)

/-- 'quantumlaw02.CursorCounts': WHATEVER THE INPUT: true; the input reads as it did. -/
def cursorCountsSpec : ChangeSpec := { name := "cursorCounts", fn := fun _ => fun
  | [d1, d2, d3] => { results := [.lit (.bool true)], args := [d1, d2, d3] }
  | _ => none }
def cursorCountsRow : OpenClaim := { program := "ytgngeachgkappaa", sum := "06c7dd028c05e6f34754290c7abc3247e75648a78d896c482bd17b21c6b4b5d5", func := "quantum/quantumlaw02.CursorCounts", spec := "cursorCounts", unfollowed := true, recurses := true, apart := false }
def CursorCountsSaid : Prop := cursorCountsRow.holds Try.pinned (OpenSpec.ofChange cursorCountsSpec)

/-- ITS FALSE NEIGHBOUR: 'it returns false'. Refute it at one input. -/
def cursorCountsWrong : ChangeSpec := { name := "cursorCounts", fn := fun _ => fun
  | [d1, d2, d3] => { results := [.lit (.bool false)], args := [d1, d2, d3] }
  | _ => none }
def CursorCountsWrongFalsely : Prop := cursorCountsRow.holds Try.pinned (OpenSpec.ofChange cursorCountsWrong)

/-- 'quantumlaw02.CursorSmall': WHATEVER THE INPUT: true; the input reads as it did. -/
def cursorSmallSpec : ChangeSpec := { name := "cursorSmall", fn := fun _ => fun
  | [] => { results := [.lit (.bool true)], args := [] }
  | _ => none }
def cursorSmallRow : OpenClaim := { program := "ytgngeachgkappaa", sum := "06c7dd028c05e6f34754290c7abc3247e75648a78d896c482bd17b21c6b4b5d5", func := "quantum/quantumlaw02.CursorSmall", spec := "cursorSmall", unfollowed := true, recurses := true, apart := false }
def CursorSmallSaid : Prop := cursorSmallRow.holds Try.pinned (OpenSpec.ofChange cursorSmallSpec)

/-- ITS FALSE NEIGHBOUR: 'it returns false'. Refute it at one input. -/
def cursorSmallWrong : ChangeSpec := { name := "cursorSmall", fn := fun _ => fun
  | [] => { results := [.lit (.bool false)], args := [] }
  | _ => none }
def CursorSmallWrongFalsely : Prop := cursorSmallRow.holds Try.pinned (OpenSpec.ofChange cursorSmallWrong)

/-- 'quantumlaw02.CursorWrong': WHATEVER THE INPUT: true; the input reads as it did. -/
def cursorWrongSpec : ChangeSpec := { name := "cursorWrong", fn := fun _ => fun
  | [d1, d2] => { results := [.lit (.bool true)], args := [d1, d2] }
  | _ => none }
def cursorWrongRow : OpenClaim := { program := "ytgngeachgkappaa", sum := "06c7dd028c05e6f34754290c7abc3247e75648a78d896c482bd17b21c6b4b5d5", func := "quantum/quantumlaw02.CursorWrong", spec := "cursorWrong", unfollowed := true, recurses := true, apart := false }
def CursorWrongSaid : Prop := cursorWrongRow.holds Try.pinned (OpenSpec.ofChange cursorWrongSpec)

/-- ITS FALSE NEIGHBOUR: 'it returns false'. Refute it at one input. -/
def cursorWrongWrong : ChangeSpec := { name := "cursorWrong", fn := fun _ => fun
  | [d1, d2] => { results := [.lit (.bool false)], args := [d1, d2] }
  | _ => none }
def CursorWrongWrongFalsely : Prop := cursorWrongRow.holds Try.pinned (OpenSpec.ofChange cursorWrongWrong)

/- THE SECOND FORM. 'bulk': how many values and letters a reading holds, each counted each time it is reached (what is shared counts as often as it is met; a slice's spare places count too). A statement '..UptoSaid' is the law's where the arguments, and the package variables that the reading takes, are together of bulk at most 1048576: NARROWER than '..Said'. Prove '..Said' where nothing that the law and all that it calls make is longer than what came in: it says more and counts as full. Else prove '..UptoSaid'. A law counts once. -/
mutual
def uptoBulk {H : Type} : DataW H → Nat
  | .lit (.string bytes) => bytes.length + 1
  | .lit _ => 1
  | .nil => 1
  | .ptr d => uptoBulk d + 1
  | .slice elems spare => uptoBulkAll elems + uptoBulkAll spare + 1
  | .agg parts => uptoBulkAll parts + 1
  | .iface _ d => uptoBulk d + 1
  | .map entries => uptoBulkEntries entries + 1
  | .held _ => 1
def uptoBulkAll {H : Type} : List (DataW H) → Nat
  | [] => 0
  | d :: r => uptoBulk d + uptoBulkAll r
def uptoBulkEntries {H : Type} : List (Lit × DataW H) → Nat
  | [] => 0
  | x :: r => uptoBulkEntry x + uptoBulkEntries r
def uptoBulkEntry {H : Type} : Lit × DataW H → Nat
  | (.string bytes, d) => bytes.length + uptoBulk d + 1
  | (_, d) => uptoBulk d + 1
 end
def uptoSmall : (H : Type) → List (DataW H) → Bool := fun _ ds => decide (uptoBulkAll ds ≤ 1048576)
def OpenSpec.upto (s : _root_.Go.ChangeSpec) : _root_.Go.OpenSpec := { _root_.Go.OpenSpec.ofChange s with cond := some uptoSmall }

/-- 'quantumlaw02.CursorBack', WHERE WHAT IT READS IS OF BULK AT MOST 1048576: true; the input reads as it did. -/
def cursorBackUptoRow : OpenClaim := { program := "ytgngeachgkappaa", sum := "06c7dd028c05e6f34754290c7abc3247e75648a78d896c482bd17b21c6b4b5d5", func := "quantum/quantumlaw02.CursorBack", spec := "cursorBack", unfollowed := true, recurses := true, apart := false, narrowed := true }
def CursorBackUptoSaid : Prop := cursorBackUptoRow.holds Try.pinned (OpenSpec.upto cursorBackSpec)

/-- 'quantumlaw02.CursorWrites', WHERE WHAT IT READS IS OF BULK AT MOST 1048576: true; the input reads as it did. -/
def cursorWritesUptoRow : OpenClaim := { program := "ytgngeachgkappaa", sum := "06c7dd028c05e6f34754290c7abc3247e75648a78d896c482bd17b21c6b4b5d5", func := "quantum/quantumlaw02.CursorWrites", spec := "cursorWrites", unfollowed := true, recurses := true, apart := false, narrowed := true }
def CursorWritesUptoSaid : Prop := cursorWritesUptoRow.holds Try.pinned (OpenSpec.upto cursorWritesSpec)

/-- 'quantumlaw02.CursorMost', WHERE WHAT IT READS IS OF BULK AT MOST 1048576: true; the input reads as it did. -/
def cursorMostUptoRow : OpenClaim := { program := "ytgngeachgkappaa", sum := "06c7dd028c05e6f34754290c7abc3247e75648a78d896c482bd17b21c6b4b5d5", func := "quantum/quantumlaw02.CursorMost", spec := "cursorMost", unfollowed := true, recurses := true, apart := false, narrowed := true }
def CursorMostUptoSaid : Prop := cursorMostUptoRow.holds Try.pinned (OpenSpec.upto cursorMostSpec)

/-- 'quantumlaw02.CursorFixed', WHERE WHAT IT READS IS OF BULK AT MOST 1048576: true; the input reads as it did. -/
def cursorFixedUptoRow : OpenClaim := { program := "ytgngeachgkappaa", sum := "06c7dd028c05e6f34754290c7abc3247e75648a78d896c482bd17b21c6b4b5d5", func := "quantum/quantumlaw02.CursorFixed", spec := "cursorFixed", unfollowed := true, recurses := true, apart := false, narrowed := true }
def CursorFixedUptoSaid : Prop := cursorFixedUptoRow.holds Try.pinned (OpenSpec.upto cursorFixedSpec)

/-- 'quantumlaw02.CursorReads', WHERE WHAT IT READS IS OF BULK AT MOST 1048576: true; the input reads as it did. -/
def cursorReadsUptoRow : OpenClaim := { program := "ytgngeachgkappaa", sum := "06c7dd028c05e6f34754290c7abc3247e75648a78d896c482bd17b21c6b4b5d5", func := "quantum/quantumlaw02.CursorReads", spec := "cursorReads", unfollowed := true, recurses := true, apart := false, narrowed := true }
def CursorReadsUptoSaid : Prop := cursorReadsUptoRow.holds Try.pinned (OpenSpec.upto cursorReadsSpec)

/-- 'quantumlaw02.CursorCounts', WHERE WHAT IT READS IS OF BULK AT MOST 1048576: true; the input reads as it did. -/
def cursorCountsUptoRow : OpenClaim := { program := "ytgngeachgkappaa", sum := "06c7dd028c05e6f34754290c7abc3247e75648a78d896c482bd17b21c6b4b5d5", func := "quantum/quantumlaw02.CursorCounts", spec := "cursorCounts", unfollowed := true, recurses := true, apart := false, narrowed := true }
def CursorCountsUptoSaid : Prop := cursorCountsUptoRow.holds Try.pinned (OpenSpec.upto cursorCountsSpec)

/-- 'quantumlaw02.CursorSmall', WHERE WHAT IT READS IS OF BULK AT MOST 1048576: true; the input reads as it did. -/
def cursorSmallUptoRow : OpenClaim := { program := "ytgngeachgkappaa", sum := "06c7dd028c05e6f34754290c7abc3247e75648a78d896c482bd17b21c6b4b5d5", func := "quantum/quantumlaw02.CursorSmall", spec := "cursorSmall", unfollowed := true, recurses := true, apart := false, narrowed := true }
def CursorSmallUptoSaid : Prop := cursorSmallUptoRow.holds Try.pinned (OpenSpec.upto cursorSmallSpec)

/-- 'quantumlaw02.CursorWrong', WHERE WHAT IT READS IS OF BULK AT MOST 1048576: true; the input reads as it did. -/
def cursorWrongUptoRow : OpenClaim := { program := "ytgngeachgkappaa", sum := "06c7dd028c05e6f34754290c7abc3247e75648a78d896c482bd17b21c6b4b5d5", func := "quantum/quantumlaw02.CursorWrong", spec := "cursorWrong", unfollowed := true, recurses := true, apart := false, narrowed := true }
def CursorWrongUptoSaid : Prop := cursorWrongUptoRow.holds Try.pinned (OpenSpec.upto cursorWrongSpec)

end Rows
end Go.Proofs.Ytgngeachgkappaa
