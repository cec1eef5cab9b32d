/- Walks: RingTells; what a row of acts is. -/
import Derived.Test.YtgomnifcgaigkaaProg
import Derived.Test.YtgomnifcgaigkaaHc
import Derived.Test.YtgomnifcgaigkaaFr
import Derived.ChangeOld
import Derived.OpenShut
import Derived.ShutString
import Derived.ProofKit
import Derived.Test.YtgomnifcgaigkaaArg
namespace Go.Proofs.Ytgomnifcgaigkaa
open Go.RowKit Go.Shelf Go.ChangeShapes Go.WideShapes Go.ChangeAt
set_option linter.unusedVariables false

def SeesR (w : World) (A : Option Addr) (len cap : Nat) (zs : List (Int × Int)) : Prop := Sees w 2 A len cap (zs.flatMap ceA) ∧ ∀ z ∈ zs, 0 ≤ z.1 ∧ z.1 < 256
set_option maxRecDepth 20000 in
theorem open_actR {H : Type} {enc : TypeId × Value → H} {w : World} {base : Nat} {held : Bool} {fuel : Nat} {x : DataW H × List MemPlace} {A : Option Addr} {len cap : Nat}
    (h : DataW.trod enc Try.prog w base (fun _ => true) held fuel 57 (Value.slice A len cap).cells.toList = some x) : ∃ zs, SeesR w A len cap zs := by
  refine open_rows (P := Try.prog) ceA (fun z => 0 ≤ z.1 ∧ z.1 < 256) (s := 2) (fun _ => rfl) (by decide) Try.underlying57 (by kernel_rfl) (fun n cs y hy => ?_) h
  obtain ⟨xs, k, _, _, hlen, hxl, hf⟩ := DataW.trod_struct Try.underlying60 hy
  have hl : cs.length = 2 := by rw [hlen]; kernel_rfl
  match xs, hxl, cs, hl with
  | [y0, y1], _, [v0, v1], _ =>
    have g0 := hf 0 _ rfl
    have g1 := hf 1 _ rfl
    have ci : Try.prog.cellsOf 3 = 1 := by kernel_rfl
    have cb : Try.prog.cellsOf 5 = 1 := by kernel_rfl
    simp [cb] at g0
    simp [ci] at g1
    obtain ⟨n0, e0, _, w0⟩ := DataW.trod_int Try.underlying5 g0
    obtain ⟨n1, e1, _, w1⟩ := DataW.trod_int Try.underlying3 g1
    simp at e0 e1
    exact ⟨(n0, n1), by simp [ceA, e0, e1], (wf_u8 w0).1, by have := (wf_u8 w0).2; simp only []; omega⟩

set_option maxRecDepth 20000 in
theorem RingTells_any (n : Int) (Z : Option Addr) (k cz : Nat) (zs : List (Int × Int)) (w : World) (hz : SeesR w Z k cz zs) :
    Calls Try.prog 9 #[.int .i64 n, .slice Z k cz] w fun e w' => e = .returned (.bool true) ∧ Below w.heap.size w w' := by
  obtain ⟨hz, hk⟩ := hz
  go_enter Try.func9, Try.ntmps9
  go_wp2_with (first
    | (go_at_call 11; refine (awake_any _).mono ?_; rintro e w2 ⟨rfl, k2⟩; have b2 := below_step b1 k2)
    | (go_at_call 27; refine (tells_any n Z k cz zs _ hz hk).mono ?_; rintro e w1 ⟨rfl, b1⟩))
  go_ret
  exact ⟨rfl, b2⟩
end Go.Proofs.Ytgomnifcgaigkaa
