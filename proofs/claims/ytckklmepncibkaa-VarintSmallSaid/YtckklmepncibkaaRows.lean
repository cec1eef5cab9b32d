/-
  No cell of these rows narrows 'for every input' (looked for: loops, veiled, ifaces, maps, wideKeys, modest, calm, conditions, laid).
  DERIVED. THE GIVEN ROWS OF THIS SEAT. 9 by the template 'for every input the law returns true; each argument reads behind the call as it read before'; 0 by the template 'total and deterministic' (their statements: YtckklmepncibkaaTotals.lean).
  GIVEN WITH THE SEED: the statements are not yours to turn. If you find one false, say at which input.
  Laid BY PROGRAM, IN A SANDBOX (cutbox-rows.mjs): the forced cells as the released guide's own fill.sh prints them over the translation 833e6489b5106c16… (all of the seat's roots in one cut). By AI agents, Wed Nov 11 2026. No macro, syntax, notation, axiom, sorry.
-/
import Derived.Test.YtckklmepncibkaaChecked
import GoSem.Claim
import GoSem.ClaimJoined
import GoSem.ClaimMapViews
import Derived.JoinedTies
import Derived.KernelRfl
namespace Go.Proofs.Ytckklmepncibkaa
/- THE CELL 'sum', in the pinned program and in every row, IS THE sha256 OF THE DUMP (.gsa) THAT YtckklmepncibkaaProg.lean LOADS. Nothing in Lean hashes anything: it is a label: what it is worth is what the hold of that sum in a sandbox is worth. -/
noncomputable def Try.pinned : Pinned := { name := "ytckklmepncibkaa", sum := "833e6489b5106c16333f4b2d3722159647f1b80ea0e3556be792eaafe2aebe33", checked := Try.checked }
namespace Rows
def none {H : Type} : Left H := { results := [], args := [] }

/-- 'quantumlaw01.VarintPrefix': WHATEVER THE INPUT: true; the input reads as it did. -/
def varintPrefixSpec : ChangeSpec := { name := "varintPrefix", fn := fun _ => fun
  | [d1, d2] => { results := [.lit (.bool true)], args := [d1, d2] }
  | _ => none }
def varintPrefixRow : OpenClaim := { program := "ytckklmepncibkaa", sum := "833e6489b5106c16333f4b2d3722159647f1b80ea0e3556be792eaafe2aebe33", func := "quantum/quantumlaw01.VarintPrefix", spec := "varintPrefix", unfollowed := true, recurses := true, apart := false }
def VarintPrefixSaid : Prop := varintPrefixRow.holds Try.pinned (OpenSpec.ofChange varintPrefixSpec)

/-- ITS FALSE NEIGHBOUR: 'it returns false'. Refute it at one input. -/
def varintPrefixWrong : ChangeSpec := { name := "varintPrefix", fn := fun _ => fun
  | [d1, d2] => { results := [.lit (.bool false)], args := [d1, d2] }
  | _ => none }
def VarintPrefixWrongFalsely : Prop := varintPrefixRow.holds Try.pinned (OpenSpec.ofChange varintPrefixWrong)

/-- 'quantumlaw01.VarintZigzag': WHATEVER THE INPUT: true; the input reads as it did. -/
def varintZigzagSpec : ChangeSpec := { name := "varintZigzag", fn := fun _ => fun
  | [d1, d2, d3] => { results := [.lit (.bool true)], args := [d1, d2, d3] }
  | _ => none }
def varintZigzagRow : OpenClaim := { program := "ytckklmepncibkaa", sum := "833e6489b5106c16333f4b2d3722159647f1b80ea0e3556be792eaafe2aebe33", func := "quantum/quantumlaw01.VarintZigzag", spec := "varintZigzag", unfollowed := true, recurses := true, apart := false }
def VarintZigzagSaid : Prop := varintZigzagRow.holds Try.pinned (OpenSpec.ofChange varintZigzagSpec)

/-- ITS FALSE NEIGHBOUR: 'it returns false'. Refute it at one input. -/
def varintZigzagWrong : ChangeSpec := { name := "varintZigzag", fn := fun _ => fun
  | [d1, d2, d3] => { results := [.lit (.bool false)], args := [d1, d2, d3] }
  | _ => none }
def VarintZigzagWrongFalsely : Prop := varintZigzagRow.holds Try.pinned (OpenSpec.ofChange varintZigzagWrong)

/-- 'quantumlaw01.VarintLists': WHATEVER THE INPUT: true; the input reads as it did. -/
def varintListsSpec : ChangeSpec := { name := "varintLists", fn := fun _ => fun
  | [d] => { results := [.lit (.bool true)], args := [d] }
  | _ => none }
def varintListsRow : OpenClaim := { program := "ytckklmepncibkaa", sum := "833e6489b5106c16333f4b2d3722159647f1b80ea0e3556be792eaafe2aebe33", func := "quantum/quantumlaw01.VarintLists", spec := "varintLists", unfollowed := true, recurses := true, apart := false }
def VarintListsSaid : Prop := varintListsRow.holds Try.pinned (OpenSpec.ofChange varintListsSpec)

/-- ITS FALSE NEIGHBOUR: 'it returns false'. Refute it at one input. -/
def varintListsWrong : ChangeSpec := { name := "varintLists", fn := fun _ => fun
  | [d] => { results := [.lit (.bool false)], args := [d] }
  | _ => none }
def VarintListsWrongFalsely : Prop := varintListsRow.holds Try.pinned (OpenSpec.ofChange varintListsWrong)

/-- 'quantumlaw01.VarintOne': WHATEVER THE INPUT: true; the input reads as it did. -/
def varintOneSpec : ChangeSpec := { name := "varintOne", fn := fun _ => fun
  | [d1, d2] => { results := [.lit (.bool true)], args := [d1, d2] }
  | _ => none }
def varintOneRow : OpenClaim := { program := "ytckklmepncibkaa", sum := "833e6489b5106c16333f4b2d3722159647f1b80ea0e3556be792eaafe2aebe33", func := "quantum/quantumlaw01.VarintOne", spec := "varintOne", unfollowed := true, recurses := true, apart := false }
def VarintOneSaid : Prop := varintOneRow.holds Try.pinned (OpenSpec.ofChange varintOneSpec)

/-- ITS FALSE NEIGHBOUR: 'it returns false'. Refute it at one input. -/
def varintOneWrong : ChangeSpec := { name := "varintOne", fn := fun _ => fun
  | [d1, d2] => { results := [.lit (.bool false)], args := [d1, d2] }
  | _ => none }
def VarintOneWrongFalsely : Prop := varintOneRow.holds Try.pinned (OpenSpec.ofChange varintOneWrong)

/-- 'quantumlaw01.VarintTells': WHATEVER THE INPUT: true; the input reads as it did. -/
def varintTellsSpec : ChangeSpec := { name := "varintTells", fn := fun _ => fun
  | [d1, d2] => { results := [.lit (.bool true)], args := [d1, d2] }
  | _ => none }
def varintTellsRow : OpenClaim := { program := "ytckklmepncibkaa", sum := "833e6489b5106c16333f4b2d3722159647f1b80ea0e3556be792eaafe2aebe33", func := "quantum/quantumlaw01.VarintTells", spec := "varintTells", unfollowed := true, recurses := true, apart := false }
def VarintTellsSaid : Prop := varintTellsRow.holds Try.pinned (OpenSpec.ofChange varintTellsSpec)

/-- ITS FALSE NEIGHBOUR: 'it returns false'. Refute it at one input. -/
def varintTellsWrong : ChangeSpec := { name := "varintTells", fn := fun _ => fun
  | [d1, d2] => { results := [.lit (.bool false)], args := [d1, d2] }
  | _ => none }
def VarintTellsWrongFalsely : Prop := varintTellsRow.holds Try.pinned (OpenSpec.ofChange varintTellsWrong)

/-- 'quantumlaw01.VarintReads': WHATEVER THE INPUT: true; the input reads as it did. -/
def varintReadsSpec : ChangeSpec := { name := "varintReads", fn := fun _ => fun
  | [d] => { results := [.lit (.bool true)], args := [d] }
  | _ => none }
def varintReadsRow : OpenClaim := { program := "ytckklmepncibkaa", sum := "833e6489b5106c16333f4b2d3722159647f1b80ea0e3556be792eaafe2aebe33", func := "quantum/quantumlaw01.VarintReads", spec := "varintReads", unfollowed := true, recurses := true, apart := false }
def VarintReadsSaid : Prop := varintReadsRow.holds Try.pinned (OpenSpec.ofChange varintReadsSpec)

/-- ITS FALSE NEIGHBOUR: 'it returns false'. Refute it at one input. -/
def varintReadsWrong : ChangeSpec := { name := "varintReads", fn := fun _ => fun
  | [d] => { results := [.lit (.bool false)], args := [d] }
  | _ => none }
def VarintReadsWrongFalsely : Prop := varintReadsRow.holds Try.pinned (OpenSpec.ofChange varintReadsWrong)

/-- 'quantumlaw01.VarintWrong': WHATEVER THE INPUT: true; the input reads as it did. -/
def varintWrongSpec : ChangeSpec := { name := "varintWrong", fn := fun _ => fun
  | [d1, d2, d3, d4] => { results := [.lit (.bool true)], args := [d1, d2, d3, d4] }
  | _ => none }
def varintWrongRow : OpenClaim := { program := "ytckklmepncibkaa", sum := "833e6489b5106c16333f4b2d3722159647f1b80ea0e3556be792eaafe2aebe33", func := "quantum/quantumlaw01.VarintWrong", spec := "varintWrong", unfollowed := true, recurses := true, apart := false }
def VarintWrongSaid : Prop := varintWrongRow.holds Try.pinned (OpenSpec.ofChange varintWrongSpec)

/-- ITS FALSE NEIGHBOUR: 'it returns false'. Refute it at one input. -/
def varintWrongWrong : ChangeSpec := { name := "varintWrong", fn := fun _ => fun
  | [d1, d2, d3, d4] => { results := [.lit (.bool false)], args := [d1, d2, d3, d4] }
  | _ => none }
def VarintWrongWrongFalsely : Prop := varintWrongRow.holds Try.pinned (OpenSpec.ofChange varintWrongWrong)

/-- 'quantumlaw01.VarintAll': WHATEVER THE INPUT: true; the input reads as it did. -/
def varintAllSpec : ChangeSpec := { name := "varintAll", fn := fun _ => fun
  | [d1, d2] => { results := [.lit (.bool true)], args := [d1, d2] }
  | _ => none }
def varintAllRow : OpenClaim := { program := "ytckklmepncibkaa", sum := "833e6489b5106c16333f4b2d3722159647f1b80ea0e3556be792eaafe2aebe33", func := "quantum/quantumlaw01.VarintAll", spec := "varintAll", unfollowed := true, recurses := true, apart := false }
def VarintAllSaid : Prop := varintAllRow.holds Try.pinned (OpenSpec.ofChange varintAllSpec)

/-- ITS FALSE NEIGHBOUR: 'it returns false'. Refute it at one input. -/
def varintAllWrong : ChangeSpec := { name := "varintAll", fn := fun _ => fun
  | [d1, d2] => { results := [.lit (.bool false)], args := [d1, d2] }
  | _ => none }
def VarintAllWrongFalsely : Prop := varintAllRow.holds Try.pinned (OpenSpec.ofChange varintAllWrong)

/-- 'quantumlaw01.VarintSmall': WHATEVER THE INPUT: true; the input reads as it did. -/
def varintSmallSpec : ChangeSpec := { name := "varintSmall", fn := fun _ => fun
  | [] => { results := [.lit (.bool true)], args := [] }
  | _ => none }
def varintSmallRow : OpenClaim := { program := "ytckklmepncibkaa", sum := "833e6489b5106c16333f4b2d3722159647f1b80ea0e3556be792eaafe2aebe33", func := "quantum/quantumlaw01.VarintSmall", spec := "varintSmall", unfollowed := true, recurses := true, apart := false }
def VarintSmallSaid : Prop := varintSmallRow.holds Try.pinned (OpenSpec.ofChange varintSmallSpec)

/-- ITS FALSE NEIGHBOUR: 'it returns false'. Refute it at one input. -/
def varintSmallWrong : ChangeSpec := { name := "varintSmall", fn := fun _ => fun
  | [] => { results := [.lit (.bool false)], args := [] }
  | _ => none }
def VarintSmallWrongFalsely : Prop := varintSmallRow.holds Try.pinned (OpenSpec.ofChange varintSmallWrong)

/- THE SECOND FORM. 'bulk': how many values and letters a reading holds, each counted each time it is reached (what is shared counts as often as it is met; a slice's spare places count too). A statement '..UptoSaid' is the law's where the arguments, and the package variables that the reading takes, are together of bulk at most 1048576: NARROWER than '..Said'. Prove '..Said' where nothing that the law and all that it calls make is longer than what came in: it says more and counts as full. Else prove '..UptoSaid'. A law counts once. -/
mutual
def uptoBulk {H : Type} : DataW H → Nat
  | .lit (.string bytes) => bytes.length + 1
  | .lit _ => 1
  | .nil => 1
  | .ptr d => uptoBulk d + 1
  | .slice elems spare => uptoBulkAll elems + uptoBulkAll spare + 1
  | .agg parts => uptoBulkAll parts + 1
  | .iface _ d => uptoBulk d + 1
  | .map entries => uptoBulkEntries entries + 1
  | .held _ => 1
def uptoBulkAll {H : Type} : List (DataW H) → Nat
  | [] => 0
  | d :: r => uptoBulk d + uptoBulkAll r
def uptoBulkEntries {H : Type} : List (Lit × DataW H) → Nat
  | [] => 0
  | x :: r => uptoBulkEntry x + uptoBulkEntries r
def uptoBulkEntry {H : Type} : Lit × DataW H → Nat
  | (.string bytes, d) => bytes.length + uptoBulk d + 1
  | (_, d) => uptoBulk d + 1
 end
def uptoSmall : (H : Type) → List (DataW H) → Bool := fun _ ds => decide (uptoBulkAll ds ≤ 1048576)
def OpenSpec.upto (s : _root_.Go.ChangeSpec) : _root_.Go.OpenSpec := { _root_.Go.OpenSpec.ofChange s with cond := some uptoSmall }

/-- 'quantumlaw01.VarintPrefix', WHERE WHAT IT READS IS OF BULK AT MOST 1048576: true; the input reads as it did. -/
def varintPrefixUptoRow : OpenClaim := { program := "ytckklmepncibkaa", sum := "833e6489b5106c16333f4b2d3722159647f1b80ea0e3556be792eaafe2aebe33", func := "quantum/quantumlaw01.VarintPrefix", spec := "varintPrefix", unfollowed := true, recurses := true, apart := false, narrowed := true }
def VarintPrefixUptoSaid : Prop := varintPrefixUptoRow.holds Try.pinned (OpenSpec.upto varintPrefixSpec)

/-- 'quantumlaw01.VarintZigzag', WHERE WHAT IT READS IS OF BULK AT MOST 1048576: true; the input reads as it did. -/
def varintZigzagUptoRow : OpenClaim := { program := "ytckklmepncibkaa", sum := "833e6489b5106c16333f4b2d3722159647f1b80ea0e3556be792eaafe2aebe33", func := "quantum/quantumlaw01.VarintZigzag", spec := "varintZigzag", unfollowed := true, recurses := true, apart := false, narrowed := true }
def VarintZigzagUptoSaid : Prop := varintZigzagUptoRow.holds Try.pinned (OpenSpec.upto varintZigzagSpec)

/-- 'quantumlaw01.VarintLists', WHERE WHAT IT READS IS OF BULK AT MOST 1048576: true; the input reads as it did. -/
def varintListsUptoRow : OpenClaim := { program := "ytckklmepncibkaa", sum := "833e6489b5106c16333f4b2d3722159647f1b80ea0e3556be792eaafe2aebe33", func := "quantum/quantumlaw01.VarintLists", spec := "varintLists", unfollowed := true, recurses := true, apart := false, narrowed := true }
def VarintListsUptoSaid : Prop := varintListsUptoRow.holds Try.pinned (OpenSpec.upto varintListsSpec)

/-- 'quantumlaw01.VarintOne', WHERE WHAT IT READS IS OF BULK AT MOST 1048576: true; the input reads as it did. -/
def varintOneUptoRow : OpenClaim := { program := "ytckklmepncibkaa", sum := "833e6489b5106c16333f4b2d3722159647f1b80ea0e3556be792eaafe2aebe33", func := "quantum/quantumlaw01.VarintOne", spec := "varintOne", unfollowed := true, recurses := true, apart := false, narrowed := true }
def VarintOneUptoSaid : Prop := varintOneUptoRow.holds Try.pinned (OpenSpec.upto varintOneSpec)

/-- 'quantumlaw01.VarintTells', WHERE WHAT IT READS IS OF BULK AT MOST 1048576: true; the input reads as it did. -/
def varintTellsUptoRow : OpenClaim := { program := "ytckklmepncibkaa", sum := "833e6489b5106c16333f4b2d3722159647f1b80ea0e3556be792eaafe2aebe33", func := "quantum/quantumlaw01.VarintTells", spec := "varintTells", unfollowed := true, recurses := true, apart := false, narrowed := true }
def VarintTellsUptoSaid : Prop := varintTellsUptoRow.holds Try.pinned (OpenSpec.upto varintTellsSpec)

/-- 'quantumlaw01.VarintReads', WHERE WHAT IT READS IS OF BULK AT MOST 1048576: true; the input reads as it did. -/
def varintReadsUptoRow : OpenClaim := { program := "ytckklmepncibkaa", sum := "833e6489b5106c16333f4b2d3722159647f1b80ea0e3556be792eaafe2aebe33", func := "quantum/quantumlaw01.VarintReads", spec := "varintReads", unfollowed := true, recurses := true, apart := false, narrowed := true }
def VarintReadsUptoSaid : Prop := varintReadsUptoRow.holds Try.pinned (OpenSpec.upto varintReadsSpec)

/-- 'quantumlaw01.VarintWrong', WHERE WHAT IT READS IS OF BULK AT MOST 1048576: true; the input reads as it did. -/
def varintWrongUptoRow : OpenClaim := { program := "ytckklmepncibkaa", sum := "833e6489b5106c16333f4b2d3722159647f1b80ea0e3556be792eaafe2aebe33", func := "quantum/quantumlaw01.VarintWrong", spec := "varintWrong", unfollowed := true, recurses := true, apart := false, narrowed := true }
def VarintWrongUptoSaid : Prop := varintWrongUptoRow.holds Try.pinned (OpenSpec.upto varintWrongSpec)

/-- 'quantumlaw01.VarintAll', WHERE WHAT IT READS IS OF BULK AT MOST 1048576: true; the input reads as it did. -/
def varintAllUptoRow : OpenClaim := { program := "ytckklmepncibkaa", sum := "833e6489b5106c16333f4b2d3722159647f1b80ea0e3556be792eaafe2aebe33", func := "quantum/quantumlaw01.VarintAll", spec := "varintAll", unfollowed := true, recurses := true, apart := false, narrowed := true }
def VarintAllUptoSaid : Prop := varintAllUptoRow.holds Try.pinned (OpenSpec.upto varintAllSpec)

/-- 'quantumlaw01.VarintSmall', WHERE WHAT IT READS IS OF BULK AT MOST 1048576: true; the input reads as it did. -/
def varintSmallUptoRow : OpenClaim := { program := "ytckklmepncibkaa", sum := "833e6489b5106c16333f4b2d3722159647f1b80ea0e3556be792eaafe2aebe33", func := "quantum/quantumlaw01.VarintSmall", spec := "varintSmall", unfollowed := true, recurses := true, apart := false, narrowed := true }
def VarintSmallUptoSaid : Prop := varintSmallUptoRow.holds Try.pinned (OpenSpec.upto varintSmallSpec)

end Rows
end Go.Proofs.Ytckklmepncibkaa
