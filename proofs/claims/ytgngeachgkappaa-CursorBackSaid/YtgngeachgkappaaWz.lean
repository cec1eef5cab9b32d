/- Walks: CursorReads; what a row of acts is. -/
import Derived.Test.YtgngeachgkappaaProg
import Derived.Test.YtgngeachgkappaaWy
import Derived.Test.YtgngeachgkappaaArg
import Derived.Test.YtgngeachgkappaaWj
import Derived.OpenShut
import Derived.ShutString
import Derived.ChangeOld
import Derived.ProofKit
namespace Go.Proofs.Ytgngeachgkappaa
open Go.RowKit Go.ChangeShapes Go.WideShapes Go.ChangeAt
set_option linter.unusedVariables false

theorem open_row8 {H : Type} {enc : TypeId × Value → H} {w : World} {base : Nat} {held : Bool} {n : Nat} {v : Value} {y : DataW H × List MemPlace}
    (h : DataW.trod enc Try.prog w base (fun _ => true) held n 31 [v] = some y) : ∃ Y ny cy l, v = .slice Y ny cy ∧ Sees w 1 Y ny cy (l.map (Value.int .u8)) ∧ Bytes l := by
  rcases open_ints Try.underlying31 Try.underlying5 (by kernel_rfl) h with ⟨hcs, _⟩ | ⟨x, l, c, zs, hcs, _, hl, hm, hz, _, hcell, hwz⟩
  · simp at hcs
    exact ⟨none, 0, 0, [], hcs, Sees.nil _ _ _ _ (Nat.zero_le _) (fun _ => rfl), fun x hx => by cases hx⟩
  · simp at hcs
    obtain ⟨h1, h2⟩ := sees_in (k := .u8) (w := w) (a := some x) (len := l) (cap := c) (zs := zs) (Or.inr ⟨x, rfl, hl, hm, by simpa using hz, hcell, hwz⟩)
    exact ⟨some x, l, c, zs.take l, hcs, h1, fun u hu => wf_u8 (h2 u hu)⟩

set_option maxRecDepth 20000 in
theorem open_actW {H : Type} {enc : TypeId × Value → H} {w : World} {base : Nat} {held : Bool} {fuel : Nat} {x : DataW H × List MemPlace} {A : Option Addr} {len cap : Nat}
    (h : DataW.trod enc Try.prog w base (fun _ => true) held fuel 43 (Value.slice A len cap).cells.toList = some x) : ∃ zs, SeesAct w A len cap zs := by
  refine open_rows (P := Try.prog) actCells (ActOk w) (s := 5) (fun _ => rfl) (by decide) Try.underlying43 (by kernel_rfl) (fun n cs y hy => ?_) h
  obtain ⟨xs, k, _, _, hlen, hxl, hf⟩ := DataW.trod_struct Try.underlying64 hy
  have hl : cs.length = 5 := by rw [hlen]; kernel_rfl
  match xs, hxl, cs, hl with
  | [y0, y1, y2, y3, y4], _, [v0, v1, v2, v3, v4], _ =>
    have g0 := hf 0 _ rfl
    have g1 := hf 1 _ rfl
    have g2 := hf 2 _ rfl
    have g3 := hf 3 _ rfl
    have g4 := hf 4 _ rfl
    have ci : Try.prog.cellsOf 3 = 1 := by kernel_rfl
    have cb : Try.prog.cellsOf 5 = 1 := by kernel_rfl
    have cu : Try.prog.cellsOf 30 = 1 := by kernel_rfl
    have cs : Try.prog.cellsOf 31 = 1 := by kernel_rfl
    simp [cb] at g0
    simp [ci] at g1 g2
    simp [cu] at g3
    simp [cs] at g4
    obtain ⟨n0, e0, _, w0⟩ := DataW.trod_int Try.underlying5 g0
    obtain ⟨n1, e1, _, w1⟩ := DataW.trod_int Try.underlying3 g1
    obtain ⟨n2, e2, _, w2⟩ := DataW.trod_int Try.underlying3 g2
    obtain ⟨n3, e3, _, w3⟩ := DataW.trod_int Try.underlying30 g3
    obtain ⟨Y, ny, cy, l, e4, s4, b4⟩ := open_row8 g4
    simp at e0 e1 e2 e3
    obtain ⟨kd, rfl, hk⟩ := nat_of_u8 w0
    have h1 := wf_i64 w1
    have h2 := wf_i64 w2
    have h3 := wf_u64 w3
    exact ⟨(kd, n1, n2, n3, Y, ny, cy), by simp [actCells, e0, e1, e2, e3, e4], ⟨hk, h1.1, h1.2, h2.1, h2.2, h3.1, h3.2, l, s4, b4⟩⟩

set_option maxRecDepth 20000 in
theorem CursorReads_any (A : Option Addr) (n c : Nat) (bs : List Int) (Z : Option Addr) (k cz : Nat) (acts : List ActV) (w : World) (h : Sees w 1 A n c (bs.map (Value.int .u8))) (hb : Bytes bs) (hz : SeesAct w Z k cz acts) :
    Calls Try.prog 7 #[.slice A n c, .slice Z k cz] w fun e w' => e = .returned (.bool true) ∧ Below w.heap.size w w' := by
  go_enter Try.func7, Try.ntmps7
  go_wp2_with (first
    | (go_at_call 11; refine (awake_any _).mono ?_; rintro e w2 ⟨rfl, k2⟩; have b2 := below_step b1 k2)
    | (go_at_call 31; refine (reads_any A n c bs Z k cz acts _ h hb hz).mono ?_; rintro e w1 ⟨rfl, b1⟩))
  go_ret
  exact ⟨rfl, b2⟩
end Go.Proofs.Ytgngeachgkappaa
