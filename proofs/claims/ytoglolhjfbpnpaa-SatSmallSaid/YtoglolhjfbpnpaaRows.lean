/-
  No cell of these rows narrows 'for every input' (looked for: loops, veiled, ifaces, maps, wideKeys, modest, calm, conditions, laid).
  DERIVED. THE GIVEN ROWS OF THIS SEAT. 9 by the template 'for every input the law returns true; each argument reads behind the call as it read before'; 0 by the template 'total and deterministic' (their statements: YtoglolhjfbpnpaaTotals.lean).
  GIVEN WITH THE SEED: the statements are not yours to turn. If you find one false, say at which input.
  Laid BY PROGRAM, IN A SANDBOX (cutbox-rows.mjs): the forced cells as the released guide's own fill.sh prints them over the translation 9ea249831aa21b01… (all of the seat's roots in one cut). By AI agents, Wed Nov 11 2026. No macro, syntax, notation, axiom, sorry.
-/
import Derived.Test.YtoglolhjfbpnpaaChecked
import GoSem.Claim
import GoSem.ClaimJoined
import GoSem.ClaimMapViews
import Derived.JoinedTies
import Derived.KernelRfl
namespace Go.Proofs.Ytoglolhjfbpnpaa
/- THE CELL 'sum', in the pinned program and in every row, IS THE sha256 OF THE DUMP (.gsa) THAT YtoglolhjfbpnpaaProg.lean LOADS. Nothing in Lean hashes anything: it is a label: what it is worth is what the hold of that sum in a sandbox is worth. -/
noncomputable def Try.pinned : Pinned := { name := "ytoglolhjfbpnpaa", sum := "9ea249831aa21b01b34a7706d37e042a45bac11f71da1c0e30f0a989f2c6b4b0", checked := Try.checked }
namespace Rows
def none {H : Type} : Left H := { results := [], args := [] }

/-- 'quantumlaw15.SatTells': WHATEVER THE INPUT: true; the input reads as it did. -/
def satTellsSpec : ChangeSpec := { name := "satTells", fn := fun _ => fun
  | [d1, d2, d3] => { results := [.lit (.bool true)], args := [d1, d2, d3] }
  | _ => none }
def satTellsRow : OpenClaim := { program := "ytoglolhjfbpnpaa", sum := "9ea249831aa21b01b34a7706d37e042a45bac11f71da1c0e30f0a989f2c6b4b0", func := "quantum/quantumlaw15.SatTells", spec := "satTells", unfollowed := true, recurses := true, apart := false }
def SatTellsSaid : Prop := satTellsRow.holds Try.pinned (OpenSpec.ofChange satTellsSpec)

/-- ITS FALSE NEIGHBOUR: 'it returns false'. Refute it at one input. -/
def satTellsWrong : ChangeSpec := { name := "satTells", fn := fun _ => fun
  | [d1, d2, d3] => { results := [.lit (.bool false)], args := [d1, d2, d3] }
  | _ => none }
def SatTellsWrongFalsely : Prop := satTellsRow.holds Try.pinned (OpenSpec.ofChange satTellsWrong)

/-- 'quantumlaw15.SatDivides': WHATEVER THE INPUT: true; the input reads as it did. -/
def satDividesSpec : ChangeSpec := { name := "satDivides", fn := fun _ => fun
  | [d1, d2, d3] => { results := [.lit (.bool true)], args := [d1, d2, d3] }
  | _ => none }
def satDividesRow : OpenClaim := { program := "ytoglolhjfbpnpaa", sum := "9ea249831aa21b01b34a7706d37e042a45bac11f71da1c0e30f0a989f2c6b4b0", func := "quantum/quantumlaw15.SatDivides", spec := "satDivides", unfollowed := true, recurses := true, apart := false }
def SatDividesSaid : Prop := satDividesRow.holds Try.pinned (OpenSpec.ofChange satDividesSpec)

/-- ITS FALSE NEIGHBOUR: 'it returns false'. Refute it at one input. -/
def satDividesWrong : ChangeSpec := { name := "satDivides", fn := fun _ => fun
  | [d1, d2, d3] => { results := [.lit (.bool false)], args := [d1, d2, d3] }
  | _ => none }
def SatDividesWrongFalsely : Prop := satDividesRow.holds Try.pinned (OpenSpec.ofChange satDividesWrong)

/-- 'quantumlaw15.SatWhole': WHATEVER THE INPUT: true; the input reads as it did. -/
def satWholeSpec : ChangeSpec := { name := "satWhole", fn := fun _ => fun
  | [d1, d2, d3] => { results := [.lit (.bool true)], args := [d1, d2, d3] }
  | _ => none }
def satWholeRow : OpenClaim := { program := "ytoglolhjfbpnpaa", sum := "9ea249831aa21b01b34a7706d37e042a45bac11f71da1c0e30f0a989f2c6b4b0", func := "quantum/quantumlaw15.SatWhole", spec := "satWhole", unfollowed := true, recurses := true, apart := false }
def SatWholeSaid : Prop := satWholeRow.holds Try.pinned (OpenSpec.ofChange satWholeSpec)

/-- ITS FALSE NEIGHBOUR: 'it returns false'. Refute it at one input. -/
def satWholeWrong : ChangeSpec := { name := "satWhole", fn := fun _ => fun
  | [d1, d2, d3] => { results := [.lit (.bool false)], args := [d1, d2, d3] }
  | _ => none }
def SatWholeWrongFalsely : Prop := satWholeRow.holds Try.pinned (OpenSpec.ofChange satWholeWrong)

/-- 'quantumlaw15.SatShifts': WHATEVER THE INPUT: true; the input reads as it did. -/
def satShiftsSpec : ChangeSpec := { name := "satShifts", fn := fun _ => fun
  | [d1, d2, d3, d4] => { results := [.lit (.bool true)], args := [d1, d2, d3, d4] }
  | _ => none }
def satShiftsRow : OpenClaim := { program := "ytoglolhjfbpnpaa", sum := "9ea249831aa21b01b34a7706d37e042a45bac11f71da1c0e30f0a989f2c6b4b0", func := "quantum/quantumlaw15.SatShifts", spec := "satShifts", unfollowed := true, recurses := true, apart := false }
def SatShiftsSaid : Prop := satShiftsRow.holds Try.pinned (OpenSpec.ofChange satShiftsSpec)

/-- ITS FALSE NEIGHBOUR: 'it returns false'. Refute it at one input. -/
def satShiftsWrong : ChangeSpec := { name := "satShifts", fn := fun _ => fun
  | [d1, d2, d3, d4] => { results := [.lit (.bool false)], args := [d1, d2, d3, d4] }
  | _ => none }
def SatShiftsWrongFalsely : Prop := satShiftsRow.holds Try.pinned (OpenSpec.ofChange satShiftsWrong)

/-- 'quantumlaw15.SatProducts': WHATEVER THE INPUT: true; the input reads as it did. -/
def satProductsSpec : ChangeSpec := { name := "satProducts", fn := fun _ => fun
  | [d1, d2, d3, d4] => { results := [.lit (.bool true)], args := [d1, d2, d3, d4] }
  | _ => none }
def satProductsRow : OpenClaim := { program := "ytoglolhjfbpnpaa", sum := "9ea249831aa21b01b34a7706d37e042a45bac11f71da1c0e30f0a989f2c6b4b0", func := "quantum/quantumlaw15.SatProducts", spec := "satProducts", unfollowed := true, recurses := true, apart := false }
def SatProductsSaid : Prop := satProductsRow.holds Try.pinned (OpenSpec.ofChange satProductsSpec)

/-- ITS FALSE NEIGHBOUR: 'it returns false'. Refute it at one input. -/
def satProductsWrong : ChangeSpec := { name := "satProducts", fn := fun _ => fun
  | [d1, d2, d3, d4] => { results := [.lit (.bool false)], args := [d1, d2, d3, d4] }
  | _ => none }
def SatProductsWrongFalsely : Prop := satProductsRow.holds Try.pinned (OpenSpec.ofChange satProductsWrong)

/-- 'quantumlaw15.SatWrong': WHATEVER THE INPUT: true; the input reads as it did. -/
def satWrongSpec : ChangeSpec := { name := "satWrong", fn := fun _ => fun
  | [d1, d2, d3] => { results := [.lit (.bool true)], args := [d1, d2, d3] }
  | _ => none }
def satWrongRow : OpenClaim := { program := "ytoglolhjfbpnpaa", sum := "9ea249831aa21b01b34a7706d37e042a45bac11f71da1c0e30f0a989f2c6b4b0", func := "quantum/quantumlaw15.SatWrong", spec := "satWrong", unfollowed := true, recurses := true, apart := false }
def SatWrongSaid : Prop := satWrongRow.holds Try.pinned (OpenSpec.ofChange satWrongSpec)

/-- ITS FALSE NEIGHBOUR: 'it returns false'. Refute it at one input. -/
def satWrongWrong : ChangeSpec := { name := "satWrong", fn := fun _ => fun
  | [d1, d2, d3] => { results := [.lit (.bool false)], args := [d1, d2, d3] }
  | _ => none }
def SatWrongWrongFalsely : Prop := satWrongRow.holds Try.pinned (OpenSpec.ofChange satWrongWrong)

/-- 'quantumlaw15.SatSums': WHATEVER THE INPUT: true; the input reads as it did. -/
def satSumsSpec : ChangeSpec := { name := "satSums", fn := fun _ => fun
  | [d] => { results := [.lit (.bool true)], args := [d] }
  | _ => none }
def satSumsRow : OpenClaim := { program := "ytoglolhjfbpnpaa", sum := "9ea249831aa21b01b34a7706d37e042a45bac11f71da1c0e30f0a989f2c6b4b0", func := "quantum/quantumlaw15.SatSums", spec := "satSums", unfollowed := true, recurses := true, apart := false }
def SatSumsSaid : Prop := satSumsRow.holds Try.pinned (OpenSpec.ofChange satSumsSpec)

/-- ITS FALSE NEIGHBOUR: 'it returns false'. Refute it at one input. -/
def satSumsWrong : ChangeSpec := { name := "satSums", fn := fun _ => fun
  | [d] => { results := [.lit (.bool false)], args := [d] }
  | _ => none }
def SatSumsWrongFalsely : Prop := satSumsRow.holds Try.pinned (OpenSpec.ofChange satSumsWrong)

/-- 'quantumlaw15.SatSmall': WHATEVER THE INPUT: true; the input reads as it did. -/
def satSmallSpec : ChangeSpec := { name := "satSmall", fn := fun _ => fun
  | [] => { results := [.lit (.bool true)], args := [] }
  | _ => none }
def satSmallRow : OpenClaim := { program := "ytoglolhjfbpnpaa", sum := "9ea249831aa21b01b34a7706d37e042a45bac11f71da1c0e30f0a989f2c6b4b0", func := "quantum/quantumlaw15.SatSmall", spec := "satSmall", unfollowed := true, recurses := true, apart := false }
def SatSmallSaid : Prop := satSmallRow.holds Try.pinned (OpenSpec.ofChange satSmallSpec)

/-- ITS FALSE NEIGHBOUR: 'it returns false'. Refute it at one input. -/
def satSmallWrong : ChangeSpec := { name := "satSmall", fn := fun _ => fun
  | [] => { results := [.lit (.bool false)], args := [] }
  | _ => none }
def SatSmallWrongFalsely : Prop := satSmallRow.holds Try.pinned (OpenSpec.ofChange satSmallWrong)

/-- 'quantumlaw15.SatStops': WHATEVER THE INPUT: true; the input reads as it did. -/
def satStopsSpec : ChangeSpec := { name := "satStops", fn := fun _ => fun
  | [d1, d2, d3] => { results := [.lit (.bool true)], args := [d1, d2, d3] }
  | _ => none }
def satStopsRow : OpenClaim := { program := "ytoglolhjfbpnpaa", sum := "9ea249831aa21b01b34a7706d37e042a45bac11f71da1c0e30f0a989f2c6b4b0", func := "quantum/quantumlaw15.SatStops", spec := "satStops", unfollowed := true, recurses := true, apart := false }
def SatStopsSaid : Prop := satStopsRow.holds Try.pinned (OpenSpec.ofChange satStopsSpec)

/-- ITS FALSE NEIGHBOUR: 'it returns false'. Refute it at one input. -/
def satStopsWrong : ChangeSpec := { name := "satStops", fn := fun _ => fun
  | [d1, d2, d3] => { results := [.lit (.bool false)], args := [d1, d2, d3] }
  | _ => none }
def SatStopsWrongFalsely : Prop := satStopsRow.holds Try.pinned (OpenSpec.ofChange satStopsWrong)

/- THE SECOND FORM. 'bulk': how many values and letters a reading holds, each counted each time it is reached (what is shared counts as often as it is met; a slice's spare places count too). A statement '..UptoSaid' is the law's where the arguments, and the package variables that the reading takes, are together of bulk at most 1048576: NARROWER than '..Said'. Prove '..Said' where nothing that the law and all that it calls make is longer than what came in: it says more and counts as full. Else prove '..UptoSaid'. A law counts once. -/
mutual
def uptoBulk {H : Type} : DataW H → Nat
  | .lit (.string bytes) => bytes.length + 1
  | .lit _ => 1
  | .nil => 1
  | .ptr d => uptoBulk d + 1
  | .slice elems spare => uptoBulkAll elems + uptoBulkAll spare + 1
  | .agg parts => uptoBulkAll parts + 1
  | .iface _ d => uptoBulk d + 1
  | .map entries => uptoBulkEntries entries + 1
  | .held _ => 1
def uptoBulkAll {H : Type} : List (DataW H) → Nat
  | [] => 0
  | d :: r => uptoBulk d + uptoBulkAll r
def uptoBulkEntries {H : Type} : List (Lit × DataW H) → Nat
  | [] => 0
  | x :: r => uptoBulkEntry x + uptoBulkEntries r
def uptoBulkEntry {H : Type} : Lit × DataW H → Nat
  | (.string bytes, d) => bytes.length + uptoBulk d + 1
  | (_, d) => uptoBulk d + 1
 end
def uptoSmall : (H : Type) → List (DataW H) → Bool := fun _ ds => decide (uptoBulkAll ds ≤ 1048576)
def OpenSpec.upto (s : _root_.Go.ChangeSpec) : _root_.Go.OpenSpec := { _root_.Go.OpenSpec.ofChange s with cond := some uptoSmall }

/-- 'quantumlaw15.SatTells', WHERE WHAT IT READS IS OF BULK AT MOST 1048576: true; the input reads as it did. -/
def satTellsUptoRow : OpenClaim := { program := "ytoglolhjfbpnpaa", sum := "9ea249831aa21b01b34a7706d37e042a45bac11f71da1c0e30f0a989f2c6b4b0", func := "quantum/quantumlaw15.SatTells", spec := "satTells", unfollowed := true, recurses := true, apart := false, narrowed := true }
def SatTellsUptoSaid : Prop := satTellsUptoRow.holds Try.pinned (OpenSpec.upto satTellsSpec)

/-- 'quantumlaw15.SatDivides', WHERE WHAT IT READS IS OF BULK AT MOST 1048576: true; the input reads as it did. -/
def satDividesUptoRow : OpenClaim := { program := "ytoglolhjfbpnpaa", sum := "9ea249831aa21b01b34a7706d37e042a45bac11f71da1c0e30f0a989f2c6b4b0", func := "quantum/quantumlaw15.SatDivides", spec := "satDivides", unfollowed := true, recurses := true, apart := false, narrowed := true }
def SatDividesUptoSaid : Prop := satDividesUptoRow.holds Try.pinned (OpenSpec.upto satDividesSpec)

/-- 'quantumlaw15.SatWhole', WHERE WHAT IT READS IS OF BULK AT MOST 1048576: true; the input reads as it did. -/
def satWholeUptoRow : OpenClaim := { program := "ytoglolhjfbpnpaa", sum := "9ea249831aa21b01b34a7706d37e042a45bac11f71da1c0e30f0a989f2c6b4b0", func := "quantum/quantumlaw15.SatWhole", spec := "satWhole", unfollowed := true, recurses := true, apart := false, narrowed := true }
def SatWholeUptoSaid : Prop := satWholeUptoRow.holds Try.pinned (OpenSpec.upto satWholeSpec)

/-- 'quantumlaw15.SatShifts', WHERE WHAT IT READS IS OF BULK AT MOST 1048576: true; the input reads as it did. -/
def satShiftsUptoRow : OpenClaim := { program := "ytoglolhjfbpnpaa", sum := "9ea249831aa21b01b34a7706d37e042a45bac11f71da1c0e30f0a989f2c6b4b0", func := "quantum/quantumlaw15.SatShifts", spec := "satShifts", unfollowed := true, recurses := true, apart := false, narrowed := true }
def SatShiftsUptoSaid : Prop := satShiftsUptoRow.holds Try.pinned (OpenSpec.upto satShiftsSpec)

/-- 'quantumlaw15.SatProducts', WHERE WHAT IT READS IS OF BULK AT MOST 1048576: true; the input reads as it did. -/
def satProductsUptoRow : OpenClaim := { program := "ytoglolhjfbpnpaa", sum := "9ea249831aa21b01b34a7706d37e042a45bac11f71da1c0e30f0a989f2c6b4b0", func := "quantum/quantumlaw15.SatProducts", spec := "satProducts", unfollowed := true, recurses := true, apart := false, narrowed := true }
def SatProductsUptoSaid : Prop := satProductsUptoRow.holds Try.pinned (OpenSpec.upto satProductsSpec)

/-- 'quantumlaw15.SatWrong', WHERE WHAT IT READS IS OF BULK AT MOST 1048576: true; the input reads as it did. -/
def satWrongUptoRow : OpenClaim := { program := "ytoglolhjfbpnpaa", sum := "9ea249831aa21b01b34a7706d37e042a45bac11f71da1c0e30f0a989f2c6b4b0", func := "quantum/quantumlaw15.SatWrong", spec := "satWrong", unfollowed := true, recurses := true, apart := false, narrowed := true }
def SatWrongUptoSaid : Prop := satWrongUptoRow.holds Try.pinned (OpenSpec.upto satWrongSpec)

/-- 'quantumlaw15.SatSums', WHERE WHAT IT READS IS OF BULK AT MOST 1048576: true; the input reads as it did. -/
def satSumsUptoRow : OpenClaim := { program := "ytoglolhjfbpnpaa", sum := "9ea249831aa21b01b34a7706d37e042a45bac11f71da1c0e30f0a989f2c6b4b0", func := "quantum/quantumlaw15.SatSums", spec := "satSums", unfollowed := true, recurses := true, apart := false, narrowed := true }
def SatSumsUptoSaid : Prop := satSumsUptoRow.holds Try.pinned (OpenSpec.upto satSumsSpec)

/-- 'quantumlaw15.SatSmall', WHERE WHAT IT READS IS OF BULK AT MOST 1048576: true; the input reads as it did. -/
def satSmallUptoRow : OpenClaim := { program := "ytoglolhjfbpnpaa", sum := "9ea249831aa21b01b34a7706d37e042a45bac11f71da1c0e30f0a989f2c6b4b0", func := "quantum/quantumlaw15.SatSmall", spec := "satSmall", unfollowed := true, recurses := true, apart := false, narrowed := true }
def SatSmallUptoSaid : Prop := satSmallUptoRow.holds Try.pinned (OpenSpec.upto satSmallSpec)

/-- 'quantumlaw15.SatStops', WHERE WHAT IT READS IS OF BULK AT MOST 1048576: true; the input reads as it did. -/
def satStopsUptoRow : OpenClaim := { program := "ytoglolhjfbpnpaa", sum := "9ea249831aa21b01b34a7706d37e042a45bac11f71da1c0e30f0a989f2c6b4b0", func := "quantum/quantumlaw15.SatStops", spec := "satStops", unfollowed := true, recurses := true, apart := false, narrowed := true }
def SatStopsUptoSaid : Prop := satStopsUptoRow.holds Try.pinned (OpenSpec.upto satStopsSpec)

end Rows
end Go.Proofs.Ytoglolhjfbpnpaa
