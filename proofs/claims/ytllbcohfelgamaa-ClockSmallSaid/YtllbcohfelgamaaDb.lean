/- Walks: nobody. -/
import Derived.Test.YtllbcohfelgamaaProg
import Derived.Test.YtllbcohfelgamaaDa
namespace Go.Proofs.Ytllbcohfelgamaa
open Go.RowKit
set_option linter.unusedVariables false

set_option maxRecDepth 20000 in
set_option maxHeartbeats 1600000 in
theorem nobody_any (w : World) : Calls Try.prog 27 #[] w fun e w' => e = .returned (.bool true) ∧ Below w.heap.size w w' := by
  obtain ⟨g, hg⟩ : ∃ g, w.heap.size = g := ⟨_, rfl⟩
  obtain ⟨wF, hF⟩ : ∃ wF, (w.alloc (.cells #[.pointer none, .slice none 0 0] 61)).alloc (.cells #[.pointer none, .pointer (some ⟨g, 0, none⟩)] 25) = wF := ⟨_, rfl⟩
  have hB : Below g w wF := by rw [← hF, ← hg]; exact ((Below.refl _ _).alloc (Nat.le_refl _) _).alloc (by simp) _
  have hsz : wF.heap.size = g + 2 := by rw [← hF]; simp [hg]
  have hv : ∀ i, i < 2 → ∃ v, wF.cell? ⟨g + 1, (i : Nat), none⟩ = some v ∧ NoClk wF v := by
    have h1 : wF.heap[g + 1]? = some (.cells #[.pointer none, .pointer (some ⟨g, 0, none⟩)] 25 (0, 0)) := by
      rw [← hF, ← hg]
      have := heap_alloc_new (w.alloc (.cells #[.pointer none, .slice none 0 0] 61)) (.cells #[.pointer none, .pointer (some ⟨w.heap.size, 0, none⟩)] 25)
      simpa using this
    have h0 : wF.heap[g]? = some (.cells #[.pointer none, .slice none 0 0] 61 (0, 0)) := by
      rw [← hF, ← hg, heap_alloc_old _ _ (by simp)]
      exact heap_alloc_new _ _
    intro i hi
    match i, hi with
    | 0, _ => exact ⟨.pointer none, by simp [World.cell?, h1], Or.inl rfl⟩
    | 1, _ => exact ⟨.pointer (some ⟨g, 0, none⟩), by simp [World.cell?, h1], Or.inr ⟨g, rfl, h0⟩⟩
  have HF := Lib.hid hF
  have HG := Lib.hid hg
  have HV := Lib.hid hv
  have HB := Lib.hid hB
  have HS := Lib.hid hsz
  clear hF hg hv hB hsz
  go_enter Try.func27, Try.ntmps27
  go_wp2
  rw [HG.out, HF.out]
  go_loopw [17] (fun i wr => ∃ i1 : Nat, Hid (i1 ≤ 2) ∧ i = .int .i64 (i1 : Int) ∧ Below wF.heap.size wF wr) (fun i _ => 2 - (intOf i).toNat)
  case atStart => exact ⟨0, Lib.hid (by omega), rfl, Below.refl _ _⟩
  case round =>
    obtain ⟨i1, HI, rfl, hb⟩ := hrel
    by_cases hlt : i1 < 2
    · obtain ⟨v, hv, hn⟩ := HV.out i1 hlt
      have hc : wr.cell? ⟨g + 1, i1, none⟩ = some v := by rw [hb.cell (by rw [HS.out]; simp)]; exact hv
      have HN : Hid (NoClk wr v) := Lib.hid (by
        rcases hn with rfl | ⟨p, rfl, h⟩
        · exact Or.inl rfl
        · refine Or.inr ⟨p, rfl, ?_⟩
          rw [hb.block p (lt_of_heap h)]; exact h)
      have d1 : decide ((i1 : Int) < 2) = true := by simp; omega
      have hi1 : (i1 : Int) ≤ 1 := by omega
      have HI1 := Lib.hid hlt
      clear hlt hv hn
      go_wp2_with (first
        | (go_at_call 25; refine (Now_none _ _ _ HN.out).mono ?_; rintro e w1 ⟨rfl, rfl⟩)
        | (go_at_call 14; refine (Tick_none _ _ _ _ HN.out).mono ?_; rintro e w1 ⟨rfl, rfl⟩)
        | (go_at_call 17; refine (Until_none _ _ _ _ HN.out).mono ?_; rintro e w1 ⟨rfl, rfl⟩)
        | (go_at_call 19; refine (Behind_none _ _ HN.out).mono ?_; rintro e w1 ⟨rfl, rfl⟩)
        | (go_at_call 20; refine (Ahead_none _ _ HN.out).mono ?_; rintro e w1 ⟨rfl, rfl⟩)
        | (go_at_call 37; refine (Len_none _ _ HN.out).mono ?_; rintro e w1 ⟨rfl, rfl⟩)
        | (go_at_call 15; refine (All_none _ _ HN.out).mono ?_; rintro e w1 ⟨rfl, rfl⟩))
      go_roundw
      case rel => exact ⟨i1 + 1, Lib.hid HI1.out, by go_num, hb⟩
      case measure => have := HI1.out; simp [intOf]; omega
    · have d1 : decide ((i1 : Int) < 2) = false := by simp; omega
      clear hlt
      go_wp2
      go_ret
      exact ⟨rfl, by rw [HG.out]; exact HB.out.trans (hb.mono (by rw [HS.out]; omega))⟩
end Go.Proofs.Ytllbcohfelgamaa
