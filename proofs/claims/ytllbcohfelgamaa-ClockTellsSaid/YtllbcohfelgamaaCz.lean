/- Walks: what the rows of a slice of stamps are. -/
import Derived.Test.YtllbcohfelgamaaProg
import Derived.Test.YtllbcohfelgamaaCf
import Derived.Test.YtllbcohfelgamaaFr
namespace Go.Proofs.Ytllbcohfelgamaa
open Go.RowKit Go.ChangeShapes Go.WideShapes
set_option linter.unusedVariables false

def SeesS (w : World) (A : Option Addr) (len cap : Nat) (zs : List (Int × Int)) : Prop := Sees w 2 A len cap (flat zs)
theorem open_stamps {H : Type} {enc : TypeId × Value → H} {w : World} {base : Nat} {spare : Nat → Bool} {held : Bool} {fuel : Nat} {x : DataW H × List MemPlace} {A : Option Addr} {len cap : Nat}
    (h : DataW.trod enc Try.prog w base spare held fuel 45 (Value.slice A len cap).cells.toList = some x) : ∃ zs, SeesS w A len cap zs := by
  obtain ⟨zs, h1, _⟩ := open_rows (P := Try.prog) (fun s : Int × Int => [.int .i64 s.1, .int .i64 s.2]) (fun _ => True) (s := 2) (fun _ => rfl) (by decide) Try.underlying45 (by kernel_rfl) (fun n cs y hy => by
    obtain ⟨xs, k, _, _, hlen, hxl, hf⟩ := DataW.trod_struct Try.underlying52 hy
    have hl : cs.length = 2 := by rw [hlen]; kernel_rfl
    match xs, hxl, cs, hl with
    | [y0, y1], _, [v0, v1], _ =>
      have g0 := hf 0 _ rfl
      have g1 := hf 1 _ rfl
      have ci : Try.prog.cellsOf 3 = 1 := by kernel_rfl
      simp [ci] at g0 g1
      obtain ⟨n0, e0, _⟩ := DataW.trod_int Try.underlying3 g0
      obtain ⟨n1, e1, _⟩ := DataW.trod_int Try.underlying3 g1
      simp at e0 e1
      exact ⟨(n0, n1), by simp [e0, e1], trivial⟩) h
  exact ⟨zs, h1⟩
end Go.Proofs.Ytllbcohfelgamaa
