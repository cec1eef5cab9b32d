/- Walks: the reference's Until, Tick. -/
import Derived.Test.YtllbcohfelgamaaProg
import Derived.Test.YtllbcohfelgamaaCp
namespace Go.Proofs.Ytllbcohfelgamaa
open Go.RowKit
set_option linter.unusedVariables false

set_option maxRecDepth 20000 in
set_option maxHeartbeats 1600000 in
theorem refUntil_any (A : Option Addr) (n c : Nat) (xs : List Int) (cpu t : Int) (w : World) (h : Sees w 1 A n c (xs.map (Value.int .i64))) (hn : n ≤ 100000) (hok : OkT xs) :
    Calls Try.prog 38 #[.slice A n c, .int .i64 cpu, .int .i64 t] w fun e w' => ∃ A' c', e = .returned (.tuple #[.slice A' n c', .int .i64 (untilF xs cpu t).2.1, .int .i64 (untilF xs cpu t).2.2]) ∧ Sees w' 1 A' n c' ((untilF xs cpu t).1.map (Value.int .i64)) ∧ From w A A' ∧ Below w.heap.size w w' := by
  have hl := h.length
  unfold untilF
  by_cases h1 : cpu < 0 ∨ (xs.length : Int) ≤ cpu
  · rw [if_pos h1]
    rw [hl] at h1
    have HS := Lib.hid h
    clear h hl
    by_cases h0 : cpu < 0
    · go_enter Try.func38, Try.ntmps38
      go_wp2
      go_ret3
      exact ⟨A, c, rfl, HS.out, Or.inl rfl, Below.refl _ _⟩
    · have d0 : decide (cpu < 0) = false := by simp; omega
      have d1 : decide ((n : Int) ≤ cpu) = true := by simp; omega
      clear h1
      go_enter Try.func38, Try.ntmps38
      go_wp2
      go_ret3
      exact ⟨A, c, rfl, HS.out, Or.inl rfl, Below.refl _ _⟩
  · rw [if_neg h1]
    obtain ⟨k, rfl⟩ : ∃ k : Nat, cpu = (k : Int) := ⟨cpu.toNat, by omega⟩
    have hk : k < n := by omega
    have hx := hok.at_ (k := k) (by omega)
    rw [Int.toNat_natCast]
    have d0 : decide ((k : Int) < 0) = false := by simp
    have d1 : decide ((n : Int) ≤ (k : Int)) = false := by simp; omega
    have d1' : decide (n ≤ k) = false := by simp; omega
    have hk2 : (k : Int) < (n : Int) := by omega
    obtain ⟨b1, o1, hA1, g1⟩ := h.int hk
    cases hA1
    obtain ⟨x, ex⟩ : ∃ x, xs.getD k 0 = x := ⟨_, rfl⟩
    rw [ex] at g1 hx
    rw [ex]
    have HS := Lib.hid h
    have HK := Lib.hid hk
    have HN := Lib.hid hn
    clear h hl h1 hk hn ex
    by_cases h2 : t < 0 ∨ 281474976710656 < t
    · rw [if_pos h2]
      rcases h2 with h2 | h2
      · go_enter Try.func38, Try.ntmps38
        go_wp2
        go_ret3
        exact ⟨_, c, rfl, HS.out, Or.inl rfl, Below.refl _ _⟩
      · have h3 : ¬ t < 0 := by omega
        go_enter Try.func38, Try.ntmps38
        go_wp2
        go_ret3
        exact ⟨_, c, rfl, HS.out, Or.inl rfl, Below.refl _ _⟩
    · rw [if_neg h2]
      have h3 : ¬ t < 0 := by omega
      have h4 : ¬ 281474976710656 < t := by omega
      by_cases h5 : t < x
      · rw [if_pos h5]
        clear h2
        go_enter Try.func38, Try.ntmps38
        go_wp2
        go_ret3
        exact ⟨_, c, rfl, HS.out, Or.inl rfl, Below.refl _ _⟩
      · rw [if_neg h5]
        have hlt := World.block_lt_of_cell? _ _ g1
        clear h2
        go_enter Try.func38, Try.ntmps38
        have hsub : IntKind.i64.wrap (t - x) = t - x := IntWalk.i64_in _ (by omega)
        go_wp2_with fail
        go_region_with (go_at_call 51; refine (with_any _ _ _ k xs t _ (by first | exact HS.out | exact HS.out.drew) HN.out HK.out).mono ?_; rintro e w2 ⟨A2, c2, rfl, s2, f2, b2⟩; have g2 := (b2.cell (p := ⟨b1, o1 + k, none⟩) hlt).trans g1)
        all_goals try simp only [Act.put, List.getElem_toArray, List.getElem_cons_succ, List.getElem_cons_zero, List.setIfInBounds_toArray, List.set_cons_succ, List.set_cons_zero]
        all_goals go_wp2
        all_goals go_ret3
        all_goals exact ⟨A2, c2, rfl, s2, by exact f2, by first | exact b2 | exact below_step ((Below.refl w.heap.size w).drew) b2⟩
end Go.Proofs.Ytllbcohfelgamaa
