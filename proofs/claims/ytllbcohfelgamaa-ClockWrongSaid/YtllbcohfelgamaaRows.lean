/-
  No cell of these rows narrows 'for every input' (looked for: loops, veiled, ifaces, maps, wideKeys, modest, calm, conditions, laid).
  DERIVED. THE GIVEN ROWS OF THIS SEAT. 8 by the template 'for every input the law returns true; each argument reads behind the call as it read before'; 0 by the template 'total and deterministic' (their statements: YtllbcohfelgamaaTotals.lean).
  GIVEN WITH THE SEED: the statements are not yours to turn. If you find one false, say at which input.
  Laid BY PROGRAM, IN A SANDBOX (cutbox-rows.mjs): the forced cells as the released guide's own fill.sh prints them over the translation d1692186998f2283… (all of the seat's roots in one cut). By AI agents, Wed Nov 11 2026. No macro, syntax, notation, axiom, sorry.
-/
import Derived.Test.YtllbcohfelgamaaChecked
import GoSem.Claim
import GoSem.ClaimJoined
import GoSem.ClaimMapViews
import Derived.JoinedTies
import Derived.KernelRfl
namespace Go.Proofs.Ytllbcohfelgamaa
/- THE CELL 'sum', in the pinned program and in every row, IS THE sha256 OF THE DUMP (.gsa) THAT YtllbcohfelgamaaProg.lean LOADS. Nothing in Lean hashes anything: it is a label: what it is worth is what the hold of that sum in a sandbox is worth. -/
noncomputable def Try.pinned : Pinned := { name := "ytllbcohfelgamaa", sum := "d1692186998f2283843e35928c31b3a804cc0fb8cfdbd8ebbcf5d5583f83c9f9", checked := Try.checked }
namespace Rows
def none {H : Type} : Left H := { results := [], args := [] }

/-- 'quantumlaw29.ClockAlone': WHATEVER THE INPUT: true; the input reads as it did. -/
def clockAloneSpec : ChangeSpec := { name := "clockAlone", fn := fun _ => fun
  | [d1, d2, d3, d4, d5] => { results := [.lit (.bool true)], args := [d1, d2, d3, d4, d5] }
  | _ => none }
def clockAloneRow : OpenClaim := { program := "ytllbcohfelgamaa", sum := "d1692186998f2283843e35928c31b3a804cc0fb8cfdbd8ebbcf5d5583f83c9f9", func := "quantum/quantumlaw29.ClockAlone", spec := "clockAlone", unfollowed := true, recurses := true, apart := false }
def ClockAloneSaid : Prop := clockAloneRow.holds Try.pinned (OpenSpec.ofChange clockAloneSpec)

/-- ITS FALSE NEIGHBOUR: 'it returns false'. Refute it at one input. -/
def clockAloneWrong : ChangeSpec := { name := "clockAlone", fn := fun _ => fun
  | [d1, d2, d3, d4, d5] => { results := [.lit (.bool false)], args := [d1, d2, d3, d4, d5] }
  | _ => none }
def ClockAloneWrongFalsely : Prop := clockAloneRow.holds Try.pinned (OpenSpec.ofChange clockAloneWrong)

/-- 'quantumlaw29.ClockEnds': WHATEVER THE INPUT: true; the input reads as it did. -/
def clockEndsSpec : ChangeSpec := { name := "clockEnds", fn := fun _ => fun
  | [d1, d2] => { results := [.lit (.bool true)], args := [d1, d2] }
  | _ => none }
def clockEndsRow : OpenClaim := { program := "ytllbcohfelgamaa", sum := "d1692186998f2283843e35928c31b3a804cc0fb8cfdbd8ebbcf5d5583f83c9f9", func := "quantum/quantumlaw29.ClockEnds", spec := "clockEnds", unfollowed := true, recurses := true, apart := false }
def ClockEndsSaid : Prop := clockEndsRow.holds Try.pinned (OpenSpec.ofChange clockEndsSpec)

/-- ITS FALSE NEIGHBOUR: 'it returns false'. Refute it at one input. -/
def clockEndsWrong : ChangeSpec := { name := "clockEnds", fn := fun _ => fun
  | [d1, d2] => { results := [.lit (.bool false)], args := [d1, d2] }
  | _ => none }
def ClockEndsWrongFalsely : Prop := clockEndsRow.holds Try.pinned (OpenSpec.ofChange clockEndsWrong)

/-- 'quantumlaw29.ClockFull': WHATEVER THE INPUT: true; the input reads as it did. -/
def clockFullSpec : ChangeSpec := { name := "clockFull", fn := fun _ => fun
  | [d1, d2] => { results := [.lit (.bool true)], args := [d1, d2] }
  | _ => none }
def clockFullRow : OpenClaim := { program := "ytllbcohfelgamaa", sum := "d1692186998f2283843e35928c31b3a804cc0fb8cfdbd8ebbcf5d5583f83c9f9", func := "quantum/quantumlaw29.ClockFull", spec := "clockFull", unfollowed := true, recurses := true, apart := false }
def ClockFullSaid : Prop := clockFullRow.holds Try.pinned (OpenSpec.ofChange clockFullSpec)

/-- ITS FALSE NEIGHBOUR: 'it returns false'. Refute it at one input. -/
def clockFullWrong : ChangeSpec := { name := "clockFull", fn := fun _ => fun
  | [d1, d2] => { results := [.lit (.bool false)], args := [d1, d2] }
  | _ => none }
def ClockFullWrongFalsely : Prop := clockFullRow.holds Try.pinned (OpenSpec.ofChange clockFullWrong)

/-- 'quantumlaw29.ClockActs': WHATEVER THE INPUT: true; the input reads as it did. -/
def clockActsSpec : ChangeSpec := { name := "clockActs", fn := fun _ => fun
  | [d1, d2] => { results := [.lit (.bool true)], args := [d1, d2] }
  | _ => none }
def clockActsRow : OpenClaim := { program := "ytllbcohfelgamaa", sum := "d1692186998f2283843e35928c31b3a804cc0fb8cfdbd8ebbcf5d5583f83c9f9", func := "quantum/quantumlaw29.ClockActs", spec := "clockActs", unfollowed := true, recurses := true, apart := false }
def ClockActsSaid : Prop := clockActsRow.holds Try.pinned (OpenSpec.ofChange clockActsSpec)

/-- ITS FALSE NEIGHBOUR: 'it returns false'. Refute it at one input. -/
def clockActsWrong : ChangeSpec := { name := "clockActs", fn := fun _ => fun
  | [d1, d2] => { results := [.lit (.bool false)], args := [d1, d2] }
  | _ => none }
def ClockActsWrongFalsely : Prop := clockActsRow.holds Try.pinned (OpenSpec.ofChange clockActsWrong)

/-- 'quantumlaw29.ClockTells': WHATEVER THE INPUT: true; the input reads as it did. -/
def clockTellsSpec : ChangeSpec := { name := "clockTells", fn := fun _ => fun
  | [d1, d2, d3, d4] => { results := [.lit (.bool true)], args := [d1, d2, d3, d4] }
  | _ => none }
def clockTellsRow : OpenClaim := { program := "ytllbcohfelgamaa", sum := "d1692186998f2283843e35928c31b3a804cc0fb8cfdbd8ebbcf5d5583f83c9f9", func := "quantum/quantumlaw29.ClockTells", spec := "clockTells", unfollowed := true, recurses := true, apart := false }
def ClockTellsSaid : Prop := clockTellsRow.holds Try.pinned (OpenSpec.ofChange clockTellsSpec)

/-- ITS FALSE NEIGHBOUR: 'it returns false'. Refute it at one input. -/
def clockTellsWrong : ChangeSpec := { name := "clockTells", fn := fun _ => fun
  | [d1, d2, d3, d4] => { results := [.lit (.bool false)], args := [d1, d2, d3, d4] }
  | _ => none }
def ClockTellsWrongFalsely : Prop := clockTellsRow.holds Try.pinned (OpenSpec.ofChange clockTellsWrong)

/-- 'quantumlaw29.ClockBack': WHATEVER THE INPUT: true; the input reads as it did. -/
def clockBackSpec : ChangeSpec := { name := "clockBack", fn := fun _ => fun
  | [d1, d2] => { results := [.lit (.bool true)], args := [d1, d2] }
  | _ => none }
def clockBackRow : OpenClaim := { program := "ytllbcohfelgamaa", sum := "d1692186998f2283843e35928c31b3a804cc0fb8cfdbd8ebbcf5d5583f83c9f9", func := "quantum/quantumlaw29.ClockBack", spec := "clockBack", unfollowed := true, recurses := true, apart := false }
def ClockBackSaid : Prop := clockBackRow.holds Try.pinned (OpenSpec.ofChange clockBackSpec)

/-- ITS FALSE NEIGHBOUR: 'it returns false'. Refute it at one input. -/
def clockBackWrong : ChangeSpec := { name := "clockBack", fn := fun _ => fun
  | [d1, d2] => { results := [.lit (.bool false)], args := [d1, d2] }
  | _ => none }
def ClockBackWrongFalsely : Prop := clockBackRow.holds Try.pinned (OpenSpec.ofChange clockBackWrong)

/-- 'quantumlaw29.ClockWrong': WHATEVER THE INPUT: true; the input reads as it did. -/
def clockWrongSpec : ChangeSpec := { name := "clockWrong", fn := fun _ => fun
  | [d1, d2, d3, d4] => { results := [.lit (.bool true)], args := [d1, d2, d3, d4] }
  | _ => none }
def clockWrongRow : OpenClaim := { program := "ytllbcohfelgamaa", sum := "d1692186998f2283843e35928c31b3a804cc0fb8cfdbd8ebbcf5d5583f83c9f9", func := "quantum/quantumlaw29.ClockWrong", spec := "clockWrong", unfollowed := true, recurses := true, apart := false }
def ClockWrongSaid : Prop := clockWrongRow.holds Try.pinned (OpenSpec.ofChange clockWrongSpec)

/-- ITS FALSE NEIGHBOUR: 'it returns false'. Refute it at one input. -/
def clockWrongWrong : ChangeSpec := { name := "clockWrong", fn := fun _ => fun
  | [d1, d2, d3, d4] => { results := [.lit (.bool false)], args := [d1, d2, d3, d4] }
  | _ => none }
def ClockWrongWrongFalsely : Prop := clockWrongRow.holds Try.pinned (OpenSpec.ofChange clockWrongWrong)

/-- 'quantumlaw29.ClockSmall': WHATEVER THE INPUT: true; the input reads as it did. -/
def clockSmallSpec : ChangeSpec := { name := "clockSmall", fn := fun _ => fun
  | [] => { results := [.lit (.bool true)], args := [] }
  | _ => none }
def clockSmallRow : OpenClaim := { program := "ytllbcohfelgamaa", sum := "d1692186998f2283843e35928c31b3a804cc0fb8cfdbd8ebbcf5d5583f83c9f9", func := "quantum/quantumlaw29.ClockSmall", spec := "clockSmall", unfollowed := true, recurses := true, apart := false }
def ClockSmallSaid : Prop := clockSmallRow.holds Try.pinned (OpenSpec.ofChange clockSmallSpec)

/-- ITS FALSE NEIGHBOUR: 'it returns false'. Refute it at one input. -/
def clockSmallWrong : ChangeSpec := { name := "clockSmall", fn := fun _ => fun
  | [] => { results := [.lit (.bool false)], args := [] }
  | _ => none }
def ClockSmallWrongFalsely : Prop := clockSmallRow.holds Try.pinned (OpenSpec.ofChange clockSmallWrong)

/- THE SECOND FORM. 'bulk': how many values and letters a reading holds, each counted each time it is reached (what is shared counts as often as it is met; a slice's spare places count too). A statement '..UptoSaid' is the law's where the arguments, and the package variables that the reading takes, are together of bulk at most 1048576: NARROWER than '..Said'. Prove '..Said' where nothing that the law and all that it calls make is longer than what came in: it says more and counts as full. Else prove '..UptoSaid'. A law counts once. -/
mutual
def uptoBulk {H : Type} : DataW H → Nat
  | .lit (.string bytes) => bytes.length + 1
  | .lit _ => 1
  | .nil => 1
  | .ptr d => uptoBulk d + 1
  | .slice elems spare => uptoBulkAll elems + uptoBulkAll spare + 1
  | .agg parts => uptoBulkAll parts + 1
  | .iface _ d => uptoBulk d + 1
  | .map entries => uptoBulkEntries entries + 1
  | .held _ => 1
def uptoBulkAll {H : Type} : List (DataW H) → Nat
  | [] => 0
  | d :: r => uptoBulk d + uptoBulkAll r
def uptoBulkEntries {H : Type} : List (Lit × DataW H) → Nat
  | [] => 0
  | x :: r => uptoBulkEntry x + uptoBulkEntries r
def uptoBulkEntry {H : Type} : Lit × DataW H → Nat
  | (.string bytes, d) => bytes.length + uptoBulk d + 1
  | (_, d) => uptoBulk d + 1
 end
def uptoSmall : (H : Type) → List (DataW H) → Bool := fun _ ds => decide (uptoBulkAll ds ≤ 1048576)
def OpenSpec.upto (s : _root_.Go.ChangeSpec) : _root_.Go.OpenSpec := { _root_.Go.OpenSpec.ofChange s with cond := some uptoSmall }

/-- 'quantumlaw29.ClockAlone', WHERE WHAT IT READS IS OF BULK AT MOST 1048576: true; the input reads as it did. -/
def clockAloneUptoRow : OpenClaim := { program := "ytllbcohfelgamaa", sum := "d1692186998f2283843e35928c31b3a804cc0fb8cfdbd8ebbcf5d5583f83c9f9", func := "quantum/quantumlaw29.ClockAlone", spec := "clockAlone", unfollowed := true, recurses := true, apart := false, narrowed := true }
def ClockAloneUptoSaid : Prop := clockAloneUptoRow.holds Try.pinned (OpenSpec.upto clockAloneSpec)

/-- 'quantumlaw29.ClockEnds', WHERE WHAT IT READS IS OF BULK AT MOST 1048576: true; the input reads as it did. -/
def clockEndsUptoRow : OpenClaim := { program := "ytllbcohfelgamaa", sum := "d1692186998f2283843e35928c31b3a804cc0fb8cfdbd8ebbcf5d5583f83c9f9", func := "quantum/quantumlaw29.ClockEnds", spec := "clockEnds", unfollowed := true, recurses := true, apart := false, narrowed := true }
def ClockEndsUptoSaid : Prop := clockEndsUptoRow.holds Try.pinned (OpenSpec.upto clockEndsSpec)

/-- 'quantumlaw29.ClockFull', WHERE WHAT IT READS IS OF BULK AT MOST 1048576: true; the input reads as it did. -/
def clockFullUptoRow : OpenClaim := { program := "ytllbcohfelgamaa", sum := "d1692186998f2283843e35928c31b3a804cc0fb8cfdbd8ebbcf5d5583f83c9f9", func := "quantum/quantumlaw29.ClockFull", spec := "clockFull", unfollowed := true, recurses := true, apart := false, narrowed := true }
def ClockFullUptoSaid : Prop := clockFullUptoRow.holds Try.pinned (OpenSpec.upto clockFullSpec)

/-- 'quantumlaw29.ClockActs', WHERE WHAT IT READS IS OF BULK AT MOST 1048576: true; the input reads as it did. -/
def clockActsUptoRow : OpenClaim := { program := "ytllbcohfelgamaa", sum := "d1692186998f2283843e35928c31b3a804cc0fb8cfdbd8ebbcf5d5583f83c9f9", func := "quantum/quantumlaw29.ClockActs", spec := "clockActs", unfollowed := true, recurses := true, apart := false, narrowed := true }
def ClockActsUptoSaid : Prop := clockActsUptoRow.holds Try.pinned (OpenSpec.upto clockActsSpec)

/-- 'quantumlaw29.ClockTells', WHERE WHAT IT READS IS OF BULK AT MOST 1048576: true; the input reads as it did. -/
def clockTellsUptoRow : OpenClaim := { program := "ytllbcohfelgamaa", sum := "d1692186998f2283843e35928c31b3a804cc0fb8cfdbd8ebbcf5d5583f83c9f9", func := "quantum/quantumlaw29.ClockTells", spec := "clockTells", unfollowed := true, recurses := true, apart := false, narrowed := true }
def ClockTellsUptoSaid : Prop := clockTellsUptoRow.holds Try.pinned (OpenSpec.upto clockTellsSpec)

/-- 'quantumlaw29.ClockBack', WHERE WHAT IT READS IS OF BULK AT MOST 1048576: true; the input reads as it did. -/
def clockBackUptoRow : OpenClaim := { program := "ytllbcohfelgamaa", sum := "d1692186998f2283843e35928c31b3a804cc0fb8cfdbd8ebbcf5d5583f83c9f9", func := "quantum/quantumlaw29.ClockBack", spec := "clockBack", unfollowed := true, recurses := true, apart := false, narrowed := true }
def ClockBackUptoSaid : Prop := clockBackUptoRow.holds Try.pinned (OpenSpec.upto clockBackSpec)

/-- 'quantumlaw29.ClockWrong', WHERE WHAT IT READS IS OF BULK AT MOST 1048576: true; the input reads as it did. -/
def clockWrongUptoRow : OpenClaim := { program := "ytllbcohfelgamaa", sum := "d1692186998f2283843e35928c31b3a804cc0fb8cfdbd8ebbcf5d5583f83c9f9", func := "quantum/quantumlaw29.ClockWrong", spec := "clockWrong", unfollowed := true, recurses := true, apart := false, narrowed := true }
def ClockWrongUptoSaid : Prop := clockWrongUptoRow.holds Try.pinned (OpenSpec.upto clockWrongSpec)

/-- 'quantumlaw29.ClockSmall', WHERE WHAT IT READS IS OF BULK AT MOST 1048576: true; the input reads as it did. -/
def clockSmallUptoRow : OpenClaim := { program := "ytllbcohfelgamaa", sum := "d1692186998f2283843e35928c31b3a804cc0fb8cfdbd8ebbcf5d5583f83c9f9", func := "quantum/quantumlaw29.ClockSmall", spec := "clockSmall", unfollowed := true, recurses := true, apart := false, narrowed := true }
def ClockSmallUptoSaid : Prop := clockSmallUptoRow.holds Try.pinned (OpenSpec.upto clockSmallSpec)

end Rows
end Go.Proofs.Ytllbcohfelgamaa
