/- Pieces as they came in. -/
import Derived.Test.YtgngeachgkappaaProg
import Derived.Test.YtgngeachgkappaaWz
import Derived.Test.YtgngeachgkappaaXk
namespace Go.Proofs.Ytgngeachgkappaa
open Go.RowKit Go.ChangeShapes Go.WideShapes Go.ChangeAt
set_option linter.unusedVariables false

def SeesPs (w : World) (A : Option Addr) (n c : Nat) (zs : List PieceV) : Prop := SeesP w A n c zs ∧ ∀ z ∈ zs, GoodP w z

set_option maxRecDepth 20000 in
theorem open_pieces {H : Type} {enc : TypeId × Value → H} {w : World} {base : Nat} {held : Bool} {fuel : Nat} {x : DataW H × List MemPlace} {A : Option Addr} {len cap : Nat}
    (h : DataW.trod enc Try.prog w base (fun _ => true) held fuel 22 (Value.slice A len cap).cells.toList = some x) : ∃ zs, SeesPs w A len cap zs := by
  obtain ⟨zs, h1, h2⟩ := open_rows (P := Try.prog) pcCells (GoodP w) (s := 4) (fun _ => rfl) (by decide) Try.underlying22 (by kernel_rfl) (fun n cs y hy => by
    obtain ⟨xs, k, _, _, hlen, hxl, hf⟩ := DataW.trod_struct Try.underlying33 hy
    have hl : cs.length = 4 := by rw [hlen]; kernel_rfl
    match xs, hxl, cs, hl with
    | [y0, y1, y2, y3], _, [v0, v1, v2, v3], _ =>
      have g0 := hf 0 _ rfl
      have g1 := hf 1 _ rfl
      have g2 := hf 2 _ rfl
      have g3 := hf 3 _ rfl
      have cb : Try.prog.cellsOf 5 = 1 := by kernel_rfl
      have cu : Try.prog.cellsOf 30 = 1 := by kernel_rfl
      have cs : Try.prog.cellsOf 31 = 1 := by kernel_rfl
      simp [cb] at g0 g1
      simp [cu] at g2
      simp [cs] at g3
      obtain ⟨n0, e0, _, w0⟩ := DataW.trod_int Try.underlying5 g0
      obtain ⟨n1, e1, _, w1⟩ := DataW.trod_int Try.underlying5 g1
      obtain ⟨n2, e2, _, w2⟩ := DataW.trod_int Try.underlying30 g2
      obtain ⟨Y, ny, cy, l, e3, s3, b3⟩ := open_row8 g3
      simp at e0 e1 e2
      obtain ⟨kd, rfl, hk⟩ := nat_of_u8 w0
      obtain ⟨m, rfl, hm⟩ := nat_of_u8 w1
      obtain ⟨u, rfl, hu⟩ := nat_of_u64 w2
      exact ⟨(kd, m, u, Y, ny, cy, l), by simp [pcCells, e0, e1, e2, e3], ⟨hk, hm, hu, s3, b3⟩⟩) h
  exact ⟨zs, h1, h2⟩
end Go.Proofs.Ytgngeachgkappaa
