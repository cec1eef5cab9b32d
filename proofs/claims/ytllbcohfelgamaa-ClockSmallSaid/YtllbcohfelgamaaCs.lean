/- Walks: the reference's Tick. -/
import Derived.Test.YtllbcohfelgamaaProg
import Derived.Test.YtllbcohfelgamaaCq
import Derived.Test.YtllbcohfelgamaaCr
namespace Go.Proofs.Ytllbcohfelgamaa
open Go.RowKit
set_option linter.unusedVariables false

set_option maxRecDepth 20000 in
set_option maxHeartbeats 1600000 in
theorem refTick_any (A : Option Addr) (n c : Nat) (xs : List Int) (cpu d : Int) (w : World) (h : Sees w 1 A n c (xs.map (Value.int .i64))) (hn : n ≤ 100000) (hok : OkT xs) :
    Calls Try.prog 39 #[.slice A n c, .int .i64 cpu, .int .i64 d] w fun e w' => ∃ A' c', e = .returned (.tuple #[.slice A' n c', .int .i64 (tickF xs cpu d).2.1, .int .i64 (tickF xs cpu d).2.2]) ∧ Sees w' 1 A' n c' ((tickF xs cpu d).1.map (Value.int .i64)) ∧ From w A A' ∧ Below w.heap.size w w' := by
  have hl := h.length
  unfold tickF
  by_cases h1 : cpu < 0 ∨ (xs.length : Int) ≤ cpu
  · rw [if_pos h1]
    rw [hl] at h1
    have HS := Lib.hid h
    clear h hl
    by_cases h0 : cpu < 0
    · go_enter Try.func39, Try.ntmps39
      go_wp2
      go_ret3
      exact ⟨A, c, rfl, HS.out, Or.inl rfl, Below.refl _ _⟩
    · have d0 : decide (cpu < 0) = false := by simp; omega
      have d1 : decide ((n : Int) ≤ cpu) = true := by simp; omega
      clear h1
      go_enter Try.func39, Try.ntmps39
      go_wp2
      go_ret3
      exact ⟨A, c, rfl, HS.out, Or.inl rfl, Below.refl _ _⟩
  · rw [if_neg h1]
    obtain ⟨k, rfl⟩ : ∃ k : Nat, cpu = (k : Int) := ⟨cpu.toNat, by omega⟩
    have hk : k < n := by omega
    have hx := hok.at_ (k := k) (by omega)
    rw [Int.toNat_natCast]
    have d0 : decide ((k : Int) < 0) = false := by simp
    have d1 : decide ((n : Int) ≤ (k : Int)) = false := by simp; omega
    have d1' : decide (n ≤ k) = false := by simp; omega
    have hk2 : (k : Int) < (n : Int) := by omega
    obtain ⟨b1, o1, hA1, g1⟩ := h.int hk
    cases hA1
    obtain ⟨x, ex⟩ : ∃ x, xs.getD k 0 = x := ⟨_, rfl⟩
    rw [ex] at g1 hx
    rw [ex]
    have HS := Lib.hid h
    have HK := Lib.hid hk
    have HN := Lib.hid hn
    clear h hl h1 hk hn ex
    by_cases h2 : d < 0
    · rw [if_pos h2]
      go_enter Try.func39, Try.ntmps39
      go_wp2
      go_ret3
      exact ⟨_, c, rfl, HS.out, Or.inl rfl, Below.refl _ _⟩
    · rw [if_neg h2]
      by_cases h5 : 281474976710656 - x < d
      · rw [if_pos h5]
        by_cases h4 : 281474976710656 < d
        · clear h5
          go_enter Try.func39, Try.ntmps39
          go_wp2
          go_ret3
          exact ⟨_, c, rfl, HS.out, Or.inl rfl, Below.refl _ _⟩
        · have h6 : decide ((281474976710656 : Int) < x + d) = true := by simp; omega
          clear h5
          go_enter Try.func39, Try.ntmps39
          go_wp2
          go_ret3
          exact ⟨_, c, rfl, HS.out, Or.inl rfl, Below.refl _ _⟩
      · rw [if_neg h5]
        have h4 : ¬ 281474976710656 < d := by omega
        have h6 : decide ((281474976710656 : Int) < x + d) = false := by simp; omega
        have hsum : IntKind.i64.wrap (x + d) = x + d := IntWalk.i64_in _ (by omega)
        have hlt := World.block_lt_of_cell? _ _ g1
        clear h5
        go_enter Try.func39, Try.ntmps39
        go_wp2_with fail
        go_region_with (go_at_call 51; refine (with_any _ _ _ k xs (x + d) _ (by first | exact HS.out | exact HS.out.drew) HN.out HK.out).mono ?_; rintro e w2 ⟨A2, c2, rfl, s2, f2, b2⟩; have g2 := (b2.cell (p := ⟨b1, o1 + k, none⟩) hlt).trans g1)
        all_goals try simp only [Act.put, List.getElem_toArray, List.getElem_cons_succ, List.getElem_cons_zero, List.setIfInBounds_toArray, List.set_cons_succ, List.set_cons_zero]
        all_goals go_wp2
        all_goals go_ret3
        all_goals exact ⟨A2, c2, rfl, s2, by exact f2, by first | exact b2 | exact below_step ((Below.refl w.heap.size w).drew) b2⟩
end Go.Proofs.Ytllbcohfelgamaa
