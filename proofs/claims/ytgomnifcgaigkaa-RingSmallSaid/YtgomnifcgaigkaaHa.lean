/- Walks: stands (RingTells). -/
import Derived.Test.YtgomnifcgaigkaaProg
import Derived.Test.YtgomnifcgaigkaaGx
import Derived.Test.YtgomnifcgaigkaaGt2
import Derived.Deep.RegionHeld3
namespace Go.Proofs.Ytgomnifcgaigkaa
open Go.RowKit Go.Shelf
set_option linter.unusedVariables false

theorem below_cellA {w w' : World} (h : Below w.heap.size w w') {a : Addr} {v : Value} (hc : w.cell? a = some v) : w'.cell? a = some v := (h.cell (World.block_lt_of_cell? _ _ hc)).trans hc
theorem keep5d {W w : World} {b : Nat} {v0 v1 v2 v3 v4 : Value} (h : w.cell? ⟨b, 0, none⟩ = some v0 ∧ w.cell? ⟨b, 1, none⟩ = some v1 ∧ w.cell? ⟨b, 2, none⟩ = some v2 ∧ w.cell? ⟨b, 3, none⟩ = some v3 ∧ w.cell? ⟨b, 4, none⟩ = some v4 ∧ Below W.heap.size W w) :
    w.drew.cell? ⟨b, 0, none⟩ = some v0 ∧ w.drew.cell? ⟨b, 1, none⟩ = some v1 ∧ w.drew.cell? ⟨b, 2, none⟩ = some v2 ∧ w.drew.cell? ⟨b, 3, none⟩ = some v3 ∧ w.drew.cell? ⟨b, 4, none⟩ = some v4 ∧ Below W.heap.size W w.drew := ⟨h.1, h.2.1, h.2.2.1, h.2.2.2.1, h.2.2.2.2.1, h.2.2.2.2.2.drew⟩
theorem keep5s {W w w' : World} {b : Nat} {v0 v1 v2 v3 v4 : Value} (h : w.cell? ⟨b, 0, none⟩ = some v0 ∧ w.cell? ⟨b, 1, none⟩ = some v1 ∧ w.cell? ⟨b, 2, none⟩ = some v2 ∧ w.cell? ⟨b, 3, none⟩ = some v3 ∧ w.cell? ⟨b, 4, none⟩ = some v4 ∧ Below W.heap.size W w) (k : Below w.heap.size w w') :
    w'.cell? ⟨b, 0, none⟩ = some v0 ∧ w'.cell? ⟨b, 1, none⟩ = some v1 ∧ w'.cell? ⟨b, 2, none⟩ = some v2 ∧ w'.cell? ⟨b, 3, none⟩ = some v3 ∧ w'.cell? ⟨b, 4, none⟩ = some v4 ∧ Below W.heap.size W w' := ⟨below_cellA k h.1, below_cellA k h.2.1, below_cellA k h.2.2.1, below_cellA k h.2.2.2.1, below_cellA k h.2.2.2.2.1, below_step h.2.2.2.2.2 k⟩

theorem LenN_any (B p g : Nat) (S : RS (Int × Int)) (w : World) (h : RngI w B p g S) (n : Nat) (hn : S.L.length = n) :
    Calls Try.prog 19 #[.pointer (some ⟨p, 0, none⟩)] w fun e w' => e = .returned (.int .i64 (n : Int)) ∧ w = w' := by
  subst hn
  exact LenR_any B p g S w h
theorem LenZ_any (B p g : Nat) (S : RS (Int × Int)) (w : World) (h : RngI w B p g S) (hn : S.L.length = 0) :
    Calls Try.prog 19 #[.pointer (some ⟨p, 0, none⟩)] w fun e w' => e = .returned (.int .i64 0) ∧ w = w' := by
  have := LenR_any B p g S w h
  rw [hn] at this
  exact this

theorem FirstR_none (B p g : Nat) (o ac rf cap : Int) (w : World) (h : RngI w B p g ⟨o, ac, rf, cap, []⟩) :
    Calls Try.prog 47 #[.pointer (some ⟨p, 0, none⟩)] w fun e w' => e = .returned (.tuple #[.agg #[.int .i64 0, .int .i64 0], .bool false]) ∧ Below w.heap.size w w' := by
  obtain ⟨A, n, c, f, hR⟩ := h
  exact FirstI_none B p g A n c f o ac rf cap w hR
theorem FirstR_some (B p g : Nat) (o ac rf cap : Int) (x : Int × Int) (L : List (Int × Int)) (w : World) (h : RngI w B p g ⟨o, ac, rf, cap, x :: L⟩) :
    Calls Try.prog 47 #[.pointer (some ⟨p, 0, none⟩)] w fun e w' => e = .returned (.tuple #[.agg #[.int .i64 x.1, .int .i64 x.2], .bool true]) ∧ Below w.heap.size w w' := by
  obtain ⟨A, n, c, f, hR⟩ := h
  exact FirstI_some B p g A n c f o ac rf cap x L w hR

end Go.Proofs.Ytgomnifcgaigkaa
