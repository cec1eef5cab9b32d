/- Runs in one contract. -/
import Derived.Test.YtemhoaleeefhhaaProg
import Derived.Test.YtemhoaleeefhhaaBj
namespace Go.Proofs.Ytemhoaleeefhhaa
open Go.RowKit Go.Shelf
set_option linter.unusedVariables false

set_option maxRecDepth 20000 in
theorem Runs_no (N : Int) (A : Option Addr) (n c : Nat) (l : List Int) (w : World) (hs : Sees w 1 A n c (l.map (Value.int .u64))) (hw : W64 l) (hr : ¬ RightW N l) :
    Calls Try.prog 29 #[setv N A n c] w fun e w' => e = .returned (.slice none 0 0) ∧ Below w.heap.size w w' := by
  have hB0 : Below w.heap.size w ((w.alloc (.cells #[.int .i64 N, .slice A n c] 24)).alloc (.cells #[.slice none 0 0] 45)) := ((Below.refl _ _).alloc (Nat.le_refl _) _).alloc (by simp) _
  have bO := Boxed.new (w.alloc (.cells #[.int .i64 N, .slice A n c] 24)) 45 (.slice none 0 0)
  rw [World.size_alloc] at bO
  have HR := Lib.hid (decide_eq_false hr)
  have HSE := Lib.hid (hs.below hB0 (Nat.le_refl _))
  have HB0 := Lib.hid (And.intro hB0 bO)
  clear hs hr hB0 bO
  go_enter Try.func29, Try.ntmps29
  go_wp2_with (go_at_call 34; refine (Right_any N A n c l _ HSE.out hw).mono ?_; rw [HR.out]; rintro e w1 ⟨rfl, k1⟩; have y1 := (show Boxed w1 (w.heap.size + 1) 45 (.slice none 0 0) from (k1.block (w.heap.size + 1) HB0.out.2.lt).trans HB0.out.2).cell; have R1 := Lib.hid k1; clear k1)
  go_ret
  exact ⟨rfl, below_step HB0.out.1 R1.out⟩
theorem Runs_any (N : Int) (A : Option Addr) (n c : Nat) (l : List Int) (w : World) (hs : Sees w 1 A n c (l.map (Value.int .u64))) (hw : W64 l) :
    Calls Try.prog 29 #[setv N A n c] w fun e w' => ∃ A' c', e = .returned (.slice A' (runsF l N).length c') ∧ w'.ownsRow w.heap.size 47 2 (.slice A' (runsF l N).length c') (runsF l N).length (flatR (runsF l N)) ∧ Below w.heap.size w w' := by
  unfold runsF
  by_cases hr : RightW N l
  · rw [if_pos hr]
    obtain ⟨M, rfl⟩ : ∃ M : Nat, N = (M : Int) := ⟨N.toNat, by have := hr.1; omega⟩
    rw [Int.toNat_natCast]
    exact callsIn_wide.1 (Runs_in M A n c l w hs hw hr)
  · rw [if_neg hr]
    exact (Runs_no N A n c l w hs hw hr).mono fun e w' ⟨he, hb⟩ => ⟨none, 0, he, World.ownsRow_nil _ _ _ _, hb⟩
end Go.Proofs.Ytemhoaleeefhhaa
