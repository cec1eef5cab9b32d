/- Walks: RingSums. -/
import Derived.Test.YtgomnifcgaigkaaProg
import Derived.Test.YtgomnifcgaigkaaGm
namespace Go.Proofs.Ytgomnifcgaigkaa
open Go.RowKit Go.Shelf
set_option linter.unusedVariables false

/-- How many were refused before some slots. -/
def bef : List (Int × Int) → Int
  | [] => 0
  | x :: r => x.2 + bef r
def NN (L : List (Int × Int)) : Prop := ∀ x ∈ L, 0 ≤ x.2
theorem bef_app (a b : List (Int × Int)) : bef (a ++ b) = bef a + bef b := by
  induction a with
  | nil => simp [bef]
  | cons x r ih => simp only [List.cons_append, bef, ih]; omega
theorem bef_pos {L : List (Int × Int)} (h : NN L) : 0 ≤ bef L := by
  induction L with
  | nil => exact Int.le_refl _
  | cons x r ih =>
    have h1 := h x (by simp)
    have h2 := ih (fun y hy => h y (by simp [hy]))
    simp only [bef]; omega
theorem NN.take {L : List (Int × Int)} (h : NN L) (m : Nat) : NN (L.take m) := fun x hx => h x (List.mem_of_mem_take hx)
theorem NN.drop {L : List (Int × Int)} (h : NN L) (m : Nat) : NN (L.drop m) := fun x hx => h x (List.mem_of_mem_drop hx)
theorem bef_split (L : List (Int × Int)) (m : Nat) : bef (L.take m) + bef (L.drop m) = bef L := by rw [← bef_app, List.take_append_drop]
theorem bef_le {L : List (Int × Int)} (h : NN L) (m : Nat) : 0 ≤ bef (L.take m) ∧ bef (L.take m) ≤ bef L := by
  have h1 := bef_split L m
  have h2 := bef_pos (h.take m)
  have h3 := bef_pos (h.drop m)
  omega
theorem bef_step {L : List (Int × Int)} {m : Nat} {x : Int × Int} (h : L[m]? = some x) : bef (L.take (m + 1)) = bef (L.take m) + x.2 := by
  rw [take_one' h, bef_app]; simp [bef]

/-- What holds between two acts: the sums so far. -/
def SumsI (w : World) (B p g : Nat) (k sum out : Int) (wr : World) : Prop := ∃ (o cap : Int) (L : List (Int × Int)), RngI wr B p g ⟨o, out + L.length, sum + bef L + o, cap, L⟩ ∧ Cnt k (⟨o, out + L.length, sum + bef L + o, cap, L⟩ : RS (Int × Int)) ∧ NN L ∧ Below w.heap.size w wr ∧ 0 ≤ sum ∧ 0 ≤ out
/-- What holds when an act is over, and the slots T came of it. -/
def SumsX (w : World) (B p g : Nat) (k sum out : Int) (A : Option Addr) (nn c : Nat) (T : List (Int × Int)) (o cap : Int) (L : List (Int × Int)) (wr : World) : Prop :=
  HeldRow wr 29 2 (.slice A nn c) nn (T.flatMap ceI) p g ∧ T.length = nn ∧ nn ≤ 65536 ∧ RngI wr B p g ⟨o, out + L.length, sum + bef T + bef L + o, cap, L⟩ ∧ Cnt k (⟨o, out + L.length, sum + bef T + bef L + o, cap, L⟩ : RS (Int × Int)) ∧ NN T ∧ NN L ∧ Below w.heap.size w wr ∧ 0 ≤ sum ∧ 0 ≤ out

theorem sums_put {w w' : World} {B p g' : Nat} {k sum out x o cap : Int} {L : List (Int × Int)} (hN : NN L) (h0 : 0 ≤ sum ∧ 0 ≤ out) (hc0 : Cnt k (⟨o, out + L.length, sum + bef L + o, cap, L⟩ : RS (Int × Int)))
    (h1 : RngI w' B p g' (putR (fun o => (x, o)) ⟨o, out + L.length, sum + bef L + o, cap, L⟩).1) (h2 : Cnt (k + 1) (putR (fun o => (x, o)) (⟨o, out + L.length, sum + bef L + o, cap, L⟩ : RS (Int × Int))).1) (h3 : Below w.heap.size w w') :
    ∃ o5 cap5 L5, SumsX w B p g' (k + 1) sum out none 0 0 [] o5 cap5 L5 w' := by
  have ho : 0 ≤ o := hc0.1
  have hr : HeldRow w' 29 2 (.slice none 0 0) 0 (([] : List (Int × Int)).flatMap ceI) p g' := ⟨0, World.ownsRow_nil _ _ _ _, by simp [Value.ownBlock], by simp [Value.ownBlock]⟩
  by_cases hl : (L.length : Int) = cap
  · have e1 : putR (fun o => (x, o)) (⟨o, out + L.length, sum + bef L + o, cap, L⟩ : RS (Int × Int)) = (⟨o + 1, out + L.length, sum + bef L + o + 1, cap, L⟩, 4) := if_pos hl
    rw [e1] at h1 h2
    have e2 : sum + bef L + o + 1 = sum + bef [] + bef L + (o + 1) := by simp only [bef]; omega
    simp only [e2] at h1 h2
    exact ⟨_, _, L, hr, rfl, by decide, h1, h2, fun x hx => by simp at hx, hN, h3, h0.1, h0.2⟩
  · have e1 : putR (fun o => (x, o)) (⟨o, out + L.length, sum + bef L + o, cap, L⟩ : RS (Int × Int)) = (⟨0, out + L.length + 1, sum + bef L + o, cap, L ++ [(x, o)]⟩, 0) := if_neg hl
    rw [e1] at h1 h2
    have e2 : sum + bef L + o = sum + bef [] + bef (L ++ [(x, o)]) + 0 := by rw [bef_app]; simp only [bef]; omega
    have e3 : out + (L.length : Int) + 1 = out + ((L ++ [(x, o)]).length : Int) := by simp; omega
    simp only [e2, e3] at h1 h2
    refine ⟨_, _, L ++ [(x, o)], hr, rfl, by decide, h1, h2, fun x hx => by simp at hx, fun y hy => ?_, h3, h0.1, h0.2⟩
    rcases List.mem_append.1 hy with hy | hy
    · exact hN y hy
    · simp at hy; subst hy; exact ho

theorem sums_take {w w' : World} {B p g m nn : Nat} {k sum out o cap : Int} {L : List (Int × Int)} {A : Option Addr} {c : Nat} (hN : NN L) (h0 : 0 ≤ sum ∧ 0 ≤ out) (hn : (L.take m).length = nn) (hl : L.length ≤ 65536)
    (h1 : RngI w' B p g ⟨o, out + L.length, sum + bef L + o, cap, L.drop m⟩) (h2 : Cnt k (⟨o, out + L.length, sum + bef L + o, cap, L.drop m⟩ : RS (Int × Int))) (h3 : Below w.heap.size w w')
    (hr : HeldRow w' 29 2 (.slice A nn c) nn ((L.take m).flatMap ceI) p g) : SumsX w B p g k sum (out + nn) A nn c (L.take m) o cap (L.drop m) w' := by
  have e2 : sum + bef L + o = sum + bef (L.take m) + bef (L.drop m) + o := by have := bef_split L m; omega
  have e4 : (L.take m).length + (L.drop m).length = L.length := by rw [← List.length_append, List.take_append_drop]
  have e3 : out + (L.length : Int) = out + (nn : Int) + ((L.drop m).length : Int) := by omega
  simp only [e2, e3] at h1 h2
  exact ⟨hr, hn, by omega, h1, h2, hN.take m, hN.drop m, h3, h0.1, by have := h0.2; omega⟩

theorem sums_drain {w w' : World} {B p g nn : Nat} {k sum out o cap : Int} {L : List (Int × Int)} {A : Option Addr} {c : Nat} (hN : NN L) (h0 : 0 ≤ sum ∧ 0 ≤ out) (hn : L.length = nn) (hl : L.length ≤ 65536) (ho : 0 ≤ o)
    (h1 : RngI w' B p g ⟨0, out + L.length, sum + bef L + o, cap, []⟩) (h2 : Cnt k (⟨0, out + L.length, sum + bef L + o, cap, []⟩ : RS (Int × Int))) (h3 : Below w.heap.size w w')
    (hr : HeldRow w' 29 2 (.slice A nn c) nn (L.flatMap ceI) p g) : SumsX w B p g k (sum + o) (out + nn) A nn c L 0 cap [] w' := by
  have e2 : sum + bef L + o = sum + o + bef L + bef [] + 0 := by simp only [bef]; omega
  have e3 : out + (L.length : Int) = out + (nn : Int) + (([] : List (Int × Int)).length : Int) := by simp; omega
  simp only [e2, e3] at h1 h2
  exact ⟨hr, hn, by omega, h1, h2, hN, fun x hx => by simp at hx, h3, by have := h0.1; omega, by have := h0.2; omega⟩
end Go.Proofs.Ytgomnifcgaigkaa
