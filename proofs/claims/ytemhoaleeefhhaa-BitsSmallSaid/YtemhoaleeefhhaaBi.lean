/- Rank in one contract, Count, Before. -/
import Derived.Test.YtemhoaleeefhhaaProg
import Derived.Test.YtemhoaleeefhhaaBh
import Derived.Deep.RegionHeld3
namespace Go.Proofs.Ytemhoaleeefhhaa
open Go.RowKit
set_option linter.unusedVariables false

theorem rankF_le (l : List Int) (N i : Int) : rankF l N i ≤ 65536 := by
  unfold rankF
  split
  · rename_i h
    have := cnt_le l (min i N).toNat
    have := h.2.1
    omega
  · omega
theorem Rank_any (N i : Int) (A : Option Addr) (n c : Nat) (l : List Int) (w : World) (hs : Sees w 1 A n c (l.map (Value.int .u64))) (hw : W64 l) :
    Calls Try.prog 18 #[setv N A n c, .int .i64 i] w fun e w' => e = .returned (.int .i64 (rankF l N i : Int)) ∧ Below w.heap.size w w' := by
  unfold rankF
  by_cases hr : RightW N l
  · rw [if_pos hr]
    by_cases hi : i ≤ 0
    · refine (Rank_no N i A n c l w hs hw (.inr hi)).mono fun e w' h => ⟨?_, h.2⟩
      rw [h.1]
      have : (min i N).toNat = 0 := by have := hr.1; omega
      rw [this]; rfl
    · exact Rank_yes N i A n c (min i N).toNat l w hs hw hr (by omega) (by have := hr.1; omega)
  · rw [if_neg hr]
    exact Rank_no N i A n c l w hs hw (.inl hr)

set_option maxRecDepth 20000 in
theorem Count_any (N : Int) (A : Option Addr) (n c : Nat) (l : List Int) (w : World) (hs : Sees w 1 A n c (l.map (Value.int .u64))) (hw : W64 l) :
    Calls Try.prog 17 #[setv N A n c] w fun e w' => e = .returned (.int .i64 (rankF l N 65536 : Int)) ∧ Below w.heap.size w w' := by
  have HS := Lib.hid hs
  have HB := Lib.hid ((Below.refl w.heap.size w).alloc (Nat.le_refl _) (.cells #[.int .i64 N, .slice A n c] 24))
  have HS2 := Lib.hid (hs.box (.cells #[.int .i64 N, .slice A n c] 24))
  clear hs
  go_enter Try.func17, Try.ntmps17
  go_wp2_with (first
    | (go_at_call 18; refine (Rank_any N 65536 A n c l _ HS.out hw).mono ?_; rintro e w1 ⟨rfl, k1⟩)
    | (go_at_call 18; refine (Rank_any N 65536 A n c l _ HS2.out hw).mono ?_; rintro e w1 ⟨rfl, k1⟩))
  go_ret
  exact ⟨rfl, by first | exact k1 | exact below_step HB.out k1⟩

theorem below_cellA {w w' : World} (h : Below w.heap.size w w') {a : Addr} {v : Value} (hc : w.cell? a = some v) : w'.cell? a = some v := (h.cell (World.block_lt_of_cell? _ _ hc)).trans hc
theorem keep3 {W w w' : World} {a b : Addr} {u v : Value} (h : w.cell? a = some u ∧ w.cell? b = some v ∧ Below W.heap.size W w) (k : Below w.heap.size w w') : w'.cell? a = some u ∧ w'.cell? b = some v ∧ Below W.heap.size W w' := ⟨below_cellA k h.1, below_cellA k h.2.1, below_step h.2.2 k⟩
theorem keep0 {W w : World} {a b : Addr} {u v : Value} (h : w.cell? a = some u ∧ w.cell? b = some v ∧ Below W.heap.size W w) : w.drew.cell? a = some u ∧ w.drew.cell? b = some v ∧ Below W.heap.size W w.drew := ⟨h.1, h.2.1, h.2.2.drew⟩

/-- What Before tells. -/
def beforeF (l : List Int) (N i : Int) : Option Nat := selF l N ((rankF l N i : Int) - 1)
set_option maxRecDepth 20000 in
theorem Before_any (N i : Int) (A : Option Addr) (n c : Nat) (l : List Int) (w : World) (hs : Sees w 1 A n c (l.map (Value.int .u64))) (hw : W64 l) :
    Calls Try.prog 21 #[setv N A n c, .int .i64 i] w fun e w' => e = .returned (optV (beforeF l N i)) ∧ Below w.heap.size w w' := by
  have hrk := rankF_le l N i
  unfold beforeF
  have HS := Lib.hid (hs.box (.cells #[.int .i64 N, .slice A n c] 24))
  have HB := Lib.hid ((Below.refl w.heap.size w).alloc (Nat.le_refl _) (.cells #[.int .i64 N, .slice A n c] 24))
  obtain ⟨r, hr⟩ : ∃ r, rankF l N i = r := ⟨_, rfl⟩
  rw [hr] at hrk ⊢
  have HR := Lib.hid hr
  have hr1 : (r : Int) ≤ 65536 := by omega
  have hwr : IntKind.i64.wrap ((r : Int) - 1) = (r : Int) - 1 := IntWalk.i64_in _ (by omega)
  obtain ⟨o, ho⟩ : ∃ o, selF l N ((r : Int) - 1) = o := ⟨_, rfl⟩
  rw [ho]
  have HO := Lib.hid ho
  clear hs hr ho
  obtain ⟨a, b, hab⟩ : ∃ (a : Int) (b : Bool), optV o = .tuple #[.int .i64 a, .bool b] := by
    cases o with
    | none => exact ⟨0, false, rfl⟩
    | some m => exact ⟨m, true, rfl⟩
  rw [hab]
  have HAB := Lib.hid hab
  clear hab
  go_enter Try.func21, Try.ntmps21
  go_wp2_with fail
  have c0 : (w.alloc (.cells #[.int .i64 N, .slice A n c] 24)).cell? ⟨w.heap.size, 0, none⟩ = some (.int .i64 N) := by simp
  have c1 : (w.alloc (.cells #[.int .i64 N, .slice A n c] 24)).cell? ⟨w.heap.size, 1, none⟩ = some (.slice A n c) := by simp
  generalize w.alloc (.cells #[.int .i64 N, .slice A n c] 24) = W at c0 c1 HS HB ⊢
  have hS : W.cell? ⟨w.heap.size, 0, none⟩ = some (.int .i64 N) ∧ W.cell? ⟨w.heap.size, 1, none⟩ = some (.slice A n c) ∧ Below W.heap.size W W := ⟨c0, c1, Below.refl _ _⟩
  clear c0 c1
  go_region_held3 (fun w' => w'.cell? ⟨w.heap.size, 0, none⟩ = some (.int .i64 N) ∧ w'.cell? ⟨w.heap.size, 1, none⟩ = some (.slice A n c) ∧ Below W.heap.size W w') (first | exact keep0 hS | exact keep3 (by assumption) (by assumption) | assumption) (first
    | (go_at_call 19; refine (Select_any N ((r : Int) - 1) A n c l _ (HS.out.below (And.right (And.right (by assumption))) (Nat.le_refl _)) hw (by omega)).mono ?_; rw [HO.out, HAB.out]; rintro e w' ⟨rfl, kk⟩)
    | (go_at_call 18; refine (Rank_any N i A n c l _ (HS.out.below (And.right (And.right (by assumption))) (Nat.le_refl _)) hw).mono ?_; rw [HR.out]; rintro e w' ⟨rfl, kk⟩))
  rename_i hH
  go_wp2
  go_ret2
  exact ⟨rfl, below_step HB.out hH.2.2⟩
end Go.Proofs.Ytemhoaleeefhhaa
