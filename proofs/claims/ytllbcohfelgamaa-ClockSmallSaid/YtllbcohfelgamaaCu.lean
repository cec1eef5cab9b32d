/- Walks: ClockActs; what the rows of acts and of stamps are. -/
import Derived.Test.YtllbcohfelgamaaProg
import Derived.Test.YtllbcohfelgamaaCt
import Derived.Test.YtllbcohfelgamaaFr
namespace Go.Proofs.Ytllbcohfelgamaa
open Go.RowKit Go.ChangeShapes Go.WideShapes
set_option linter.unusedVariables false

def SeesA (w : World) (A : Option Addr) (len cap : Nat) (zs : List (Int × Int × Bool)) : Prop := Sees w 3 A len cap (flatA zs)
theorem open_acts {H : Type} {enc : TypeId × Value → H} {w : World} {base : Nat} {spare : Nat → Bool} {held : Bool} {fuel : Nat} {x : DataW H × List MemPlace} {A : Option Addr} {len cap : Nat}
    (h : DataW.trod enc Try.prog w base spare held fuel 43 (Value.slice A len cap).cells.toList = some x) : ∃ zs, SeesA w A len cap zs := by
  obtain ⟨zs, h1, _⟩ := open_rows (P := Try.prog) (fun s : Int × Int × Bool => [.int .i64 s.1, .int .i64 s.2.1, .bool s.2.2]) (fun _ => True) (s := 3) (fun _ => rfl) (by decide) Try.underlying43 (by kernel_rfl) (fun n cs y hy => by
    obtain ⟨xs, k, _, _, hlen, hxl, hf⟩ := DataW.trod_struct Try.underlying58 hy
    have hl : cs.length = 3 := by rw [hlen]; kernel_rfl
    match xs, hxl, cs, hl with
    | [y0, y1, y2], _, [v0, v1, v2], _ =>
      have g0 := hf 0 _ rfl
      have g1 := hf 1 _ rfl
      have g2 := hf 2 _ rfl
      have ci : Try.prog.cellsOf 3 = 1 := by kernel_rfl
      have cb : Try.prog.cellsOf 4 = 1 := by kernel_rfl
      simp [ci] at g0 g1
      simp [cb] at g2
      obtain ⟨n0, e0, _⟩ := DataW.trod_int Try.underlying3 g0
      obtain ⟨n1, e1, _⟩ := DataW.trod_int Try.underlying3 g1
      obtain ⟨n2, e2, _⟩ := DataW.trod_bool Try.underlying4 g2
      simp at e0 e1 e2
      exact ⟨(n0, n1, n2), by simp [e0, e1, e2], trivial⟩) h
  exact ⟨zs, h1⟩

set_option maxRecDepth 20000 in
theorem ClockActs_any (A : Option Addr) (n c : Nat) (l : List Int) (X : Option Addr) (k cx : Nat) (acts : List (Int × Int × Bool)) (w : World) (h : Sees w 1 A n c (l.map (Value.int .i64))) (hx : Sees w 3 X k cx (flatA acts)) :
    Calls Try.prog 6 #[.slice A n c, .slice X k cx] w fun e w' => e = .returned (.bool true) ∧ Below w.heap.size w w' := by
  go_enter Try.func6, Try.ntmps6
  go_wp2_with (first
    | (go_at_call 11; refine (awake_any _).mono ?_; rintro e w2 ⟨rfl, k2⟩; have b2 := below_step b1 k2)
    | (go_at_call 21; refine (does_any A n c l X k cx acts _ h hx).mono ?_; rintro e w1 ⟨rfl, b1⟩))
  go_ret
  exact ⟨rfl, b2⟩
end Go.Proofs.Ytllbcohfelgamaa
