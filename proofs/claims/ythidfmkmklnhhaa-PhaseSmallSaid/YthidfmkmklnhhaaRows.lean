/-
  No cell of these rows narrows 'for every input' (looked for: loops, veiled, ifaces, maps, wideKeys, modest, calm, conditions, laid).
  DERIVED. THE GIVEN ROWS OF THIS SEAT. 10 by the template 'for every input the law returns true; each argument reads behind the call as it read before'; 0 by the template 'total and deterministic' (their statements: YthidfmkmklnhhaaTotals.lean).
  GIVEN WITH THE SEED: the statements are not yours to turn. If you find one false, say at which input.
  Laid BY PROGRAM, IN A SANDBOX (cutbox-rows.mjs): the forced cells as the released guide's own fill.sh prints them over the translation b1b4ab88aa6b9e0a… (all of the seat's roots in one cut). By AI agents, Wed Nov 11 2026. No macro, syntax, notation, axiom, sorry.
-/
import Derived.Test.YthidfmkmklnhhaaChecked
import GoSem.Claim
import GoSem.ClaimJoined
import GoSem.ClaimMapViews
import Derived.JoinedTies
import Derived.KernelRfl
namespace Go.Proofs.Ythidfmkmklnhhaa
/- THE CELL 'sum', in the pinned program and in every row, IS THE sha256 OF THE DUMP (.gsa) THAT YthidfmkmklnhhaaProg.lean LOADS. Nothing in Lean hashes anything: it is a label: what it is worth is what the hold of that sum in a sandbox is worth. -/
noncomputable def Try.pinned : Pinned := { name := "ythidfmkmklnhhaa", sum := "b1b4ab88aa6b9e0a35285222eba830d5c4efe15f14c420b1f0766f0fe0e80872", checked := Try.checked }
namespace Rows
def none {H : Type} : Left H := { results := [], args := [] }

/-- 'quantumlaw40.PhaseJoins': WHATEVER THE INPUT: true; the input reads as it did. -/
def phaseJoinsSpec : ChangeSpec := { name := "phaseJoins", fn := fun _ => fun
  | [d1, d2, d3] => { results := [.lit (.bool true)], args := [d1, d2, d3] }
  | _ => none }
def phaseJoinsRow : OpenClaim := { program := "ythidfmkmklnhhaa", sum := "b1b4ab88aa6b9e0a35285222eba830d5c4efe15f14c420b1f0766f0fe0e80872", func := "quantum/quantumlaw40.PhaseJoins", spec := "phaseJoins", inPlace := ["math.archTrunc", "math.Float64bits", "math.Float64frombits"], unfollowed := true, recurses := true, apart := false }
def PhaseJoinsSaid : Prop := phaseJoinsRow.holds Try.pinned (OpenSpec.ofChange phaseJoinsSpec)

/-- ITS FALSE NEIGHBOUR: 'it returns false'. Refute it at one input. -/
def phaseJoinsWrong : ChangeSpec := { name := "phaseJoins", fn := fun _ => fun
  | [d1, d2, d3] => { results := [.lit (.bool false)], args := [d1, d2, d3] }
  | _ => none }
def PhaseJoinsWrongFalsely : Prop := phaseJoinsRow.holds Try.pinned (OpenSpec.ofChange phaseJoinsWrong)

/-- 'quantumlaw40.PhaseShifts': WHATEVER THE INPUT: true; the input reads as it did. -/
def phaseShiftsSpec : ChangeSpec := { name := "phaseShifts", fn := fun _ => fun
  | [d1, d2, d3, d4] => { results := [.lit (.bool true)], args := [d1, d2, d3, d4] }
  | _ => none }
def phaseShiftsRow : OpenClaim := { program := "ythidfmkmklnhhaa", sum := "b1b4ab88aa6b9e0a35285222eba830d5c4efe15f14c420b1f0766f0fe0e80872", func := "quantum/quantumlaw40.PhaseShifts", spec := "phaseShifts", inPlace := ["math.archTrunc", "math.Float64bits", "math.Float64frombits"], unfollowed := true, recurses := true, apart := false }
def PhaseShiftsSaid : Prop := phaseShiftsRow.holds Try.pinned (OpenSpec.ofChange phaseShiftsSpec)

/-- ITS FALSE NEIGHBOUR: 'it returns false'. Refute it at one input. -/
def phaseShiftsWrong : ChangeSpec := { name := "phaseShifts", fn := fun _ => fun
  | [d1, d2, d3, d4] => { results := [.lit (.bool false)], args := [d1, d2, d3, d4] }
  | _ => none }
def PhaseShiftsWrongFalsely : Prop := phaseShiftsRow.holds Try.pinned (OpenSpec.ofChange phaseShiftsWrong)

/-- 'quantumlaw40.PhaseTimes': WHATEVER THE INPUT: true; the input reads as it did. -/
def phaseTimesSpec : ChangeSpec := { name := "phaseTimes", fn := fun _ => fun
  | [d1, d2] => { results := [.lit (.bool true)], args := [d1, d2] }
  | _ => none }
def phaseTimesRow : OpenClaim := { program := "ythidfmkmklnhhaa", sum := "b1b4ab88aa6b9e0a35285222eba830d5c4efe15f14c420b1f0766f0fe0e80872", func := "quantum/quantumlaw40.PhaseTimes", spec := "phaseTimes", inPlace := ["math.archTrunc", "math.Float64bits", "math.Float64frombits"], unfollowed := true, recurses := true, apart := false }
def PhaseTimesSaid : Prop := phaseTimesRow.holds Try.pinned (OpenSpec.ofChange phaseTimesSpec)

/-- ITS FALSE NEIGHBOUR: 'it returns false'. Refute it at one input. -/
def phaseTimesWrong : ChangeSpec := { name := "phaseTimes", fn := fun _ => fun
  | [d1, d2] => { results := [.lit (.bool false)], args := [d1, d2] }
  | _ => none }
def PhaseTimesWrongFalsely : Prop := phaseTimesRow.holds Try.pinned (OpenSpec.ofChange phaseTimesWrong)

/-- 'quantumlaw40.PhaseRhythm': WHATEVER THE INPUT: true; the input reads as it did. -/
def phaseRhythmSpec : ChangeSpec := { name := "phaseRhythm", fn := fun _ => fun
  | [d1, d2] => { results := [.lit (.bool true)], args := [d1, d2] }
  | _ => none }
def phaseRhythmRow : OpenClaim := { program := "ythidfmkmklnhhaa", sum := "b1b4ab88aa6b9e0a35285222eba830d5c4efe15f14c420b1f0766f0fe0e80872", func := "quantum/quantumlaw40.PhaseRhythm", spec := "phaseRhythm", inPlace := ["math.archTrunc", "math.Float64bits", "math.Float64frombits"], unfollowed := true, recurses := true, apart := false }
def PhaseRhythmSaid : Prop := phaseRhythmRow.holds Try.pinned (OpenSpec.ofChange phaseRhythmSpec)

/-- ITS FALSE NEIGHBOUR: 'it returns false'. Refute it at one input. -/
def phaseRhythmWrong : ChangeSpec := { name := "phaseRhythm", fn := fun _ => fun
  | [d1, d2] => { results := [.lit (.bool false)], args := [d1, d2] }
  | _ => none }
def PhaseRhythmWrongFalsely : Prop := phaseRhythmRow.holds Try.pinned (OpenSpec.ofChange phaseRhythmWrong)

/-- 'quantumlaw40.PhasePeriod': WHATEVER THE INPUT: true; the input reads as it did. -/
def phasePeriodSpec : ChangeSpec := { name := "phasePeriod", fn := fun _ => fun
  | [d1, d2, d3] => { results := [.lit (.bool true)], args := [d1, d2, d3] }
  | _ => none }
def phasePeriodRow : OpenClaim := { program := "ythidfmkmklnhhaa", sum := "b1b4ab88aa6b9e0a35285222eba830d5c4efe15f14c420b1f0766f0fe0e80872", func := "quantum/quantumlaw40.PhasePeriod", spec := "phasePeriod", inPlace := ["math.archTrunc", "math.Float64bits", "math.Float64frombits"], unfollowed := true, recurses := true, apart := false }
def PhasePeriodSaid : Prop := phasePeriodRow.holds Try.pinned (OpenSpec.ofChange phasePeriodSpec)

/-- ITS FALSE NEIGHBOUR: 'it returns false'. Refute it at one input. -/
def phasePeriodWrong : ChangeSpec := { name := "phasePeriod", fn := fun _ => fun
  | [d1, d2, d3] => { results := [.lit (.bool false)], args := [d1, d2, d3] }
  | _ => none }
def PhasePeriodWrongFalsely : Prop := phasePeriodRow.holds Try.pinned (OpenSpec.ofChange phasePeriodWrong)

/-- 'quantumlaw40.PhaseTells': WHATEVER THE INPUT: true; the input reads as it did. -/
def phaseTellsSpec : ChangeSpec := { name := "phaseTells", fn := fun _ => fun
  | [d1, d2, d3] => { results := [.lit (.bool true)], args := [d1, d2, d3] }
  | _ => none }
def phaseTellsRow : OpenClaim := { program := "ythidfmkmklnhhaa", sum := "b1b4ab88aa6b9e0a35285222eba830d5c4efe15f14c420b1f0766f0fe0e80872", func := "quantum/quantumlaw40.PhaseTells", spec := "phaseTells", inPlace := ["math.archTrunc", "math.Float64bits", "math.Float64frombits"], unfollowed := true, recurses := true, apart := false }
def PhaseTellsSaid : Prop := phaseTellsRow.holds Try.pinned (OpenSpec.ofChange phaseTellsSpec)

/-- ITS FALSE NEIGHBOUR: 'it returns false'. Refute it at one input. -/
def phaseTellsWrong : ChangeSpec := { name := "phaseTells", fn := fun _ => fun
  | [d1, d2, d3] => { results := [.lit (.bool false)], args := [d1, d2, d3] }
  | _ => none }
def PhaseTellsWrongFalsely : Prop := phaseTellsRow.holds Try.pinned (OpenSpec.ofChange phaseTellsWrong)

/-- 'quantumlaw40.PhaseBack': WHATEVER THE INPUT: true; the input reads as it did. -/
def phaseBackSpec : ChangeSpec := { name := "phaseBack", fn := fun _ => fun
  | [d] => { results := [.lit (.bool true)], args := [d] }
  | _ => none }
def phaseBackRow : OpenClaim := { program := "ythidfmkmklnhhaa", sum := "b1b4ab88aa6b9e0a35285222eba830d5c4efe15f14c420b1f0766f0fe0e80872", func := "quantum/quantumlaw40.PhaseBack", spec := "phaseBack", inPlace := ["math.archTrunc", "math.Float64bits", "math.Float64frombits"], unfollowed := true, recurses := true, apart := false }
def PhaseBackSaid : Prop := phaseBackRow.holds Try.pinned (OpenSpec.ofChange phaseBackSpec)

/-- ITS FALSE NEIGHBOUR: 'it returns false'. Refute it at one input. -/
def phaseBackWrong : ChangeSpec := { name := "phaseBack", fn := fun _ => fun
  | [d] => { results := [.lit (.bool false)], args := [d] }
  | _ => none }
def PhaseBackWrongFalsely : Prop := phaseBackRow.holds Try.pinned (OpenSpec.ofChange phaseBackWrong)

/-- 'quantumlaw40.PhaseNorms': WHATEVER THE INPUT: true; the input reads as it did. -/
def phaseNormsSpec : ChangeSpec := { name := "phaseNorms", fn := fun _ => fun
  | [d1, d2, d3] => { results := [.lit (.bool true)], args := [d1, d2, d3] }
  | _ => none }
def phaseNormsRow : OpenClaim := { program := "ythidfmkmklnhhaa", sum := "b1b4ab88aa6b9e0a35285222eba830d5c4efe15f14c420b1f0766f0fe0e80872", func := "quantum/quantumlaw40.PhaseNorms", spec := "phaseNorms", inPlace := ["math.archTrunc", "math.Float64bits", "math.Float64frombits"], unfollowed := true, recurses := true, apart := false }
def PhaseNormsSaid : Prop := phaseNormsRow.holds Try.pinned (OpenSpec.ofChange phaseNormsSpec)

/-- ITS FALSE NEIGHBOUR: 'it returns false'. Refute it at one input. -/
def phaseNormsWrong : ChangeSpec := { name := "phaseNorms", fn := fun _ => fun
  | [d1, d2, d3] => { results := [.lit (.bool false)], args := [d1, d2, d3] }
  | _ => none }
def PhaseNormsWrongFalsely : Prop := phaseNormsRow.holds Try.pinned (OpenSpec.ofChange phaseNormsWrong)

/-- 'quantumlaw40.PhaseWrong': WHATEVER THE INPUT: true; the input reads as it did. -/
def phaseWrongSpec : ChangeSpec := { name := "phaseWrong", fn := fun _ => fun
  | [d1, d2, d3] => { results := [.lit (.bool true)], args := [d1, d2, d3] }
  | _ => none }
def phaseWrongRow : OpenClaim := { program := "ythidfmkmklnhhaa", sum := "b1b4ab88aa6b9e0a35285222eba830d5c4efe15f14c420b1f0766f0fe0e80872", func := "quantum/quantumlaw40.PhaseWrong", spec := "phaseWrong", inPlace := ["math.archTrunc", "math.Float64bits", "math.Float64frombits"], unfollowed := true, recurses := true, apart := false }
def PhaseWrongSaid : Prop := phaseWrongRow.holds Try.pinned (OpenSpec.ofChange phaseWrongSpec)

/-- ITS FALSE NEIGHBOUR: 'it returns false'. Refute it at one input. -/
def phaseWrongWrong : ChangeSpec := { name := "phaseWrong", fn := fun _ => fun
  | [d1, d2, d3] => { results := [.lit (.bool false)], args := [d1, d2, d3] }
  | _ => none }
def PhaseWrongWrongFalsely : Prop := phaseWrongRow.holds Try.pinned (OpenSpec.ofChange phaseWrongWrong)

/-- 'quantumlaw40.PhaseSmall': WHATEVER THE INPUT: true; the input reads as it did. -/
def phaseSmallSpec : ChangeSpec := { name := "phaseSmall", fn := fun _ => fun
  | [] => { results := [.lit (.bool true)], args := [] }
  | _ => none }
def phaseSmallRow : OpenClaim := { program := "ythidfmkmklnhhaa", sum := "b1b4ab88aa6b9e0a35285222eba830d5c4efe15f14c420b1f0766f0fe0e80872", func := "quantum/quantumlaw40.PhaseSmall", spec := "phaseSmall", inPlace := ["math.archTrunc", "math.Float64bits", "math.Float64frombits"], unfollowed := true, recurses := true, apart := false }
def PhaseSmallSaid : Prop := phaseSmallRow.holds Try.pinned (OpenSpec.ofChange phaseSmallSpec)

/-- ITS FALSE NEIGHBOUR: 'it returns false'. Refute it at one input. -/
def phaseSmallWrong : ChangeSpec := { name := "phaseSmall", fn := fun _ => fun
  | [] => { results := [.lit (.bool false)], args := [] }
  | _ => none }
def PhaseSmallWrongFalsely : Prop := phaseSmallRow.holds Try.pinned (OpenSpec.ofChange phaseSmallWrong)

/- THE SECOND FORM. 'bulk': how many values and letters a reading holds, each counted each time it is reached (what is shared counts as often as it is met; a slice's spare places count too). A statement '..UptoSaid' is the law's where the arguments, and the package variables that the reading takes, are together of bulk at most 1048576: NARROWER than '..Said'. Prove '..Said' where nothing that the law and all that it calls make is longer than what came in: it says more and counts as full. Else prove '..UptoSaid'. A law counts once. -/
mutual
def uptoBulk {H : Type} : DataW H → Nat
  | .lit (.string bytes) => bytes.length + 1
  | .lit _ => 1
  | .nil => 1
  | .ptr d => uptoBulk d + 1
  | .slice elems spare => uptoBulkAll elems + uptoBulkAll spare + 1
  | .agg parts => uptoBulkAll parts + 1
  | .iface _ d => uptoBulk d + 1
  | .map entries => uptoBulkEntries entries + 1
  | .held _ => 1
def uptoBulkAll {H : Type} : List (DataW H) → Nat
  | [] => 0
  | d :: r => uptoBulk d + uptoBulkAll r
def uptoBulkEntries {H : Type} : List (Lit × DataW H) → Nat
  | [] => 0
  | x :: r => uptoBulkEntry x + uptoBulkEntries r
def uptoBulkEntry {H : Type} : Lit × DataW H → Nat
  | (.string bytes, d) => bytes.length + uptoBulk d + 1
  | (_, d) => uptoBulk d + 1
 end
def uptoSmall : (H : Type) → List (DataW H) → Bool := fun _ ds => decide (uptoBulkAll ds ≤ 1048576)
def OpenSpec.upto (s : _root_.Go.ChangeSpec) : _root_.Go.OpenSpec := { _root_.Go.OpenSpec.ofChange s with cond := some uptoSmall }

/-- 'quantumlaw40.PhaseJoins', WHERE WHAT IT READS IS OF BULK AT MOST 1048576: true; the input reads as it did. -/
def phaseJoinsUptoRow : OpenClaim := { program := "ythidfmkmklnhhaa", sum := "b1b4ab88aa6b9e0a35285222eba830d5c4efe15f14c420b1f0766f0fe0e80872", func := "quantum/quantumlaw40.PhaseJoins", spec := "phaseJoins", inPlace := ["math.archTrunc", "math.Float64bits", "math.Float64frombits"], unfollowed := true, recurses := true, apart := false, narrowed := true }
def PhaseJoinsUptoSaid : Prop := phaseJoinsUptoRow.holds Try.pinned (OpenSpec.upto phaseJoinsSpec)

/-- 'quantumlaw40.PhaseShifts', WHERE WHAT IT READS IS OF BULK AT MOST 1048576: true; the input reads as it did. -/
def phaseShiftsUptoRow : OpenClaim := { program := "ythidfmkmklnhhaa", sum := "b1b4ab88aa6b9e0a35285222eba830d5c4efe15f14c420b1f0766f0fe0e80872", func := "quantum/quantumlaw40.PhaseShifts", spec := "phaseShifts", inPlace := ["math.archTrunc", "math.Float64bits", "math.Float64frombits"], unfollowed := true, recurses := true, apart := false, narrowed := true }
def PhaseShiftsUptoSaid : Prop := phaseShiftsUptoRow.holds Try.pinned (OpenSpec.upto phaseShiftsSpec)

/-- 'quantumlaw40.PhaseTimes', WHERE WHAT IT READS IS OF BULK AT MOST 1048576: true; the input reads as it did. -/
def phaseTimesUptoRow : OpenClaim := { program := "ythidfmkmklnhhaa", sum := "b1b4ab88aa6b9e0a35285222eba830d5c4efe15f14c420b1f0766f0fe0e80872", func := "quantum/quantumlaw40.PhaseTimes", spec := "phaseTimes", inPlace := ["math.archTrunc", "math.Float64bits", "math.Float64frombits"], unfollowed := true, recurses := true, apart := false, narrowed := true }
def PhaseTimesUptoSaid : Prop := phaseTimesUptoRow.holds Try.pinned (OpenSpec.upto phaseTimesSpec)

/-- 'quantumlaw40.PhaseRhythm', WHERE WHAT IT READS IS OF BULK AT MOST 1048576: true; the input reads as it did. -/
def phaseRhythmUptoRow : OpenClaim := { program := "ythidfmkmklnhhaa", sum := "b1b4ab88aa6b9e0a35285222eba830d5c4efe15f14c420b1f0766f0fe0e80872", func := "quantum/quantumlaw40.PhaseRhythm", spec := "phaseRhythm", inPlace := ["math.archTrunc", "math.Float64bits", "math.Float64frombits"], unfollowed := true, recurses := true, apart := false, narrowed := true }
def PhaseRhythmUptoSaid : Prop := phaseRhythmUptoRow.holds Try.pinned (OpenSpec.upto phaseRhythmSpec)

/-- 'quantumlaw40.PhasePeriod', WHERE WHAT IT READS IS OF BULK AT MOST 1048576: true; the input reads as it did. -/
def phasePeriodUptoRow : OpenClaim := { program := "ythidfmkmklnhhaa", sum := "b1b4ab88aa6b9e0a35285222eba830d5c4efe15f14c420b1f0766f0fe0e80872", func := "quantum/quantumlaw40.PhasePeriod", spec := "phasePeriod", inPlace := ["math.archTrunc", "math.Float64bits", "math.Float64frombits"], unfollowed := true, recurses := true, apart := false, narrowed := true }
def PhasePeriodUptoSaid : Prop := phasePeriodUptoRow.holds Try.pinned (OpenSpec.upto phasePeriodSpec)

/-- 'quantumlaw40.PhaseTells', WHERE WHAT IT READS IS OF BULK AT MOST 1048576: true; the input reads as it did. -/
def phaseTellsUptoRow : OpenClaim := { program := "ythidfmkmklnhhaa", sum := "b1b4ab88aa6b9e0a35285222eba830d5c4efe15f14c420b1f0766f0fe0e80872", func := "quantum/quantumlaw40.PhaseTells", spec := "phaseTells", inPlace := ["math.archTrunc", "math.Float64bits", "math.Float64frombits"], unfollowed := true, recurses := true, apart := false, narrowed := true }
def PhaseTellsUptoSaid : Prop := phaseTellsUptoRow.holds Try.pinned (OpenSpec.upto phaseTellsSpec)

/-- 'quantumlaw40.PhaseBack', WHERE WHAT IT READS IS OF BULK AT MOST 1048576: true; the input reads as it did. -/
def phaseBackUptoRow : OpenClaim := { program := "ythidfmkmklnhhaa", sum := "b1b4ab88aa6b9e0a35285222eba830d5c4efe15f14c420b1f0766f0fe0e80872", func := "quantum/quantumlaw40.PhaseBack", spec := "phaseBack", inPlace := ["math.archTrunc", "math.Float64bits", "math.Float64frombits"], unfollowed := true, recurses := true, apart := false, narrowed := true }
def PhaseBackUptoSaid : Prop := phaseBackUptoRow.holds Try.pinned (OpenSpec.upto phaseBackSpec)

/-- 'quantumlaw40.PhaseNorms', WHERE WHAT IT READS IS OF BULK AT MOST 1048576: true; the input reads as it did. -/
def phaseNormsUptoRow : OpenClaim := { program := "ythidfmkmklnhhaa", sum := "b1b4ab88aa6b9e0a35285222eba830d5c4efe15f14c420b1f0766f0fe0e80872", func := "quantum/quantumlaw40.PhaseNorms", spec := "phaseNorms", inPlace := ["math.archTrunc", "math.Float64bits", "math.Float64frombits"], unfollowed := true, recurses := true, apart := false, narrowed := true }
def PhaseNormsUptoSaid : Prop := phaseNormsUptoRow.holds Try.pinned (OpenSpec.upto phaseNormsSpec)

/-- 'quantumlaw40.PhaseWrong', WHERE WHAT IT READS IS OF BULK AT MOST 1048576: true; the input reads as it did. -/
def phaseWrongUptoRow : OpenClaim := { program := "ythidfmkmklnhhaa", sum := "b1b4ab88aa6b9e0a35285222eba830d5c4efe15f14c420b1f0766f0fe0e80872", func := "quantum/quantumlaw40.PhaseWrong", spec := "phaseWrong", inPlace := ["math.archTrunc", "math.Float64bits", "math.Float64frombits"], unfollowed := true, recurses := true, apart := false, narrowed := true }
def PhaseWrongUptoSaid : Prop := phaseWrongUptoRow.holds Try.pinned (OpenSpec.upto phaseWrongSpec)

/-- 'quantumlaw40.PhaseSmall', WHERE WHAT IT READS IS OF BULK AT MOST 1048576: true; the input reads as it did. -/
def phaseSmallUptoRow : OpenClaim := { program := "ythidfmkmklnhhaa", sum := "b1b4ab88aa6b9e0a35285222eba830d5c4efe15f14c420b1f0766f0fe0e80872", func := "quantum/quantumlaw40.PhaseSmall", spec := "phaseSmall", inPlace := ["math.archTrunc", "math.Float64bits", "math.Float64frombits"], unfollowed := true, recurses := true, apart := false, narrowed := true }
def PhaseSmallUptoSaid : Prop := phaseSmallUptoRow.holds Try.pinned (OpenSpec.upto phaseSmallSpec)

end Rows
end Go.Proofs.Ythidfmkmklnhhaa
