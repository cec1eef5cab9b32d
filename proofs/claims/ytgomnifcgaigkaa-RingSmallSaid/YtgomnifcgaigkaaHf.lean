/- Walks: none (RingSmall). -/
import Derived.Test.YtgomnifcgaigkaaProg
import Derived.Test.YtgomnifcgaigkaaHe
namespace Go.Proofs.Ytgomnifcgaigkaa
open Go.RowKit Go.Shelf
set_option linter.unusedVariables false

theorem cellBelow {w w' : World} (h : Below w.heap.size w w') {a : Addr} {v : Value} (hc : w.cell? a = some v) : w'.cell? a = some v := (h.cell (World.block_lt_of_cell? _ _ hc)).trans hc

set_option maxRecDepth 20000 in
set_option maxHeartbeats 1600000 in
theorem none_any (w : World) : Calls Try.prog 28 #[] w fun e w' => e = .returned (.bool true) ∧ Below w.heap.size w w' := by
  obtain ⟨g, hg⟩ : ∃ g, w.heap.size = g := ⟨_, rfl⟩
  obtain ⟨wF, hF⟩ : ∃ wF, (w.alloc (.cells #[.slice none 0 0, .int .i64 0, .int .i64 0, .int .i64 0, .int .i64 0, .int .i64 0, .int .i64 0] 73)).alloc (.cells #[.pointer none, .pointer (some ⟨g, 0, none⟩)] 24) = wF := ⟨_, rfl⟩
  have hB : Below g w wF := by rw [← hF, ← hg]; exact ((Below.refl _ _).alloc (Nat.le_refl _) _).alloc (by simp) _
  have hsz : wF.heap.size = g + 2 := by rw [← hF]; simp [hg]
  have hv : ∀ i, i < 2 → ∃ v, wF.cell? ⟨g + 1, (i : Nat), none⟩ = some v ∧ NoR wF v := by
    have h1 : wF.heap[g + 1]? = some (.cells #[.pointer none, .pointer (some ⟨g, 0, none⟩)] 24 (0, 0)) := by
      rw [← hF, ← hg]
      have := heap_alloc_new (w.alloc (.cells #[.slice none 0 0, .int .i64 0, .int .i64 0, .int .i64 0, .int .i64 0, .int .i64 0, .int .i64 0] 73)) (.cells #[.pointer none, .pointer (some ⟨w.heap.size, 0, none⟩)] 24)
      simpa using this
    have h0 : wF.heap[g]? = some (.cells #[.slice none 0 0, .int .i64 0, .int .i64 0, .int .i64 0, .int .i64 0, .int .i64 0, .int .i64 0] 73 (0, 0)) := by
      rw [← hF, ← hg, heap_alloc_old _ _ (by simp)]
      exact heap_alloc_new _ _
    intro i hi
    match i, hi with
    | 0, _ => exact ⟨.pointer none, by simp [World.cell?, h1], Or.inl rfl⟩
    | 1, _ => exact ⟨.pointer (some ⟨g, 0, none⟩), by simp [World.cell?, h1], Or.inr ⟨g, rfl, by simp [World.cell?, h0]⟩⟩
  have HF := Lib.hid hF
  have HG := Lib.hid hg
  have HV := Lib.hid hv
  have HB := Lib.hid hB
  have HS := Lib.hid hsz
  clear hF hg hv hB hsz
  go_enter Try.func28, Try.ntmps28
  go_wp2
  rw [HG.out, HF.out]
  go_loopw [14] (fun i wr => ∃ i1 : Nat, Hid (i1 ≤ 2) ∧ i = .int .i64 (i1 : Int) ∧ Below wF.heap.size wF wr) (fun i _ => 2 - (intOf i).toNat)
  case atStart => exact ⟨0, Lib.hid (by omega), rfl, Below.refl _ _⟩
  case round =>
    obtain ⟨i1, HI, rfl, hb⟩ := hrel
    by_cases hlt : i1 < 2
    · obtain ⟨v, hv, hn⟩ := HV.out i1 hlt
      have hc : wr.cell? ⟨g + 1, i1, none⟩ = some v := by rw [hb.cell (by rw [HS.out]; simp)]; exact hv
      have HN : Hid (NoR wr v) := Lib.hid (hn.below hb (Nat.le_refl _))
      have d1 : decide ((i1 : Int) < 2) = true := by simp; omega
      have hi1 : (i1 : Int) ≤ 1 := by omega
      have HI1 := Lib.hid hlt
      clear hlt hv hn
      go_wp2_with (first
        | (go_at_call 47; have _q := R2; refine (First_none _ _ (HN.out.below (below_step R1.out R2.out) (Nat.le_refl _))).mono ?_; rintro e w3 ⟨rfl, b3⟩; have R3 := Lib.hid b3; clear b3)
        | (go_at_call 16; have _q := R1; refine (Drain_none _ _ (HN.out.below R1.out (Nat.le_refl _))).mono ?_; rintro e w2 ⟨rfl, b2⟩; have R2 := Lib.hid b2; clear b2)
        | (go_at_call 15; refine (Take_none _ _ _ HN.out).mono ?_; rintro e w1 ⟨rfl, b1⟩; have R1 := Lib.hid b1; clear b1))
      have hb3 := below_step (below_step R1.out R2.out) R3.out
      have hnw : Below w3.heap.size w3 (w3.alloc (.cells #[.int .i64 0, .int .i64 0] 29)) := (Below.refl _ _).alloc (Nat.le_refl _) _
      have hy := heap_alloc_new w3 (.cells #[.int .i64 0, .int .i64 0] 29)
      generalize w3.alloc (.cells #[.int .i64 0, .int .i64 0] 29) = W3 at hnw hy ⊢
      have HN3 : Hid (NoR W3 v) := Lib.hid (HN.out.below (below_step hb3 hnw) (Nat.le_refl _))
      have HC : Hid (W3.cell? ⟨w3.heap.size, 0, none⟩ = some (.int .i64 0) ∧ W3.cell? ⟨w3.heap.size, 1, none⟩ = some (.int .i64 0)) := Lib.hid ⟨by simp [World.cell?, hy], by simp [World.cell?, hy]⟩
      have HB3 := Lib.hid (below_step hb (below_step hb3 hnw))
      have Q0 := Lib.hid (Below.refl W3.heap.size W3)
      clear hb3 hnw hy hb hc
      generalize w3.heap.size = G at HC ⊢
      go_wp2_with (first
        | (go_at_call 18; have _q := Q6; refine (Refused_none _ _ (HN3.out.below Q6.out (Nat.le_refl _))).mono ?_; rintro e u7 ⟨rfl, bb⟩; have Q7 := Lib.hid (below_step Q6.out bb); clear bb; have gd0 := cellBelow Q7.out HC.out.1; have gd1 := cellBelow Q7.out HC.out.2)
        | (go_at_call 17; have _q := Q5; refine (Accepted_none _ _ (HN3.out.below Q5.out (Nat.le_refl _))).mono ?_; rintro e u6 ⟨rfl, bb⟩; have Q6 := Lib.hid (below_step Q5.out bb); clear bb)
        | (go_at_call 20; have _q := Q4; refine (Open_none _ _ (HN3.out.below Q4.out (Nat.le_refl _))).mono ?_; rintro e u5 ⟨rfl, bb⟩; have Q5 := Lib.hid (below_step Q4.out bb); clear bb)
        | (go_at_call 48; have _q := Q3; refine (Capacity_none _ _ (HN3.out.below Q3.out (Nat.le_refl _))).mono ?_; rintro e u4 ⟨rfl, bb⟩; have Q4 := Lib.hid (below_step Q3.out bb); clear bb)
        | (go_at_call 19; have _q := Q2; refine (Len_none _ _ (HN3.out.below Q2.out (Nat.le_refl _))).mono ?_; rintro e u3 ⟨rfl, bb⟩; have Q3 := Lib.hid (below_step Q2.out bb); clear bb)
        | (go_at_call 26; have _q := Q1; refine (All_none _ _ (HN3.out.below Q1.out (Nat.le_refl _))).mono ?_; rintro e u2 ⟨rfl, bb⟩; have Q2 := Lib.hid (below_step Q1.out bb); clear bb)
        | (go_at_call 14; have _q := Q0; refine (Put_none _ _ _ (HN3.out.below Q0.out (Nat.le_refl _))).mono ?_; rintro e u1 ⟨rfl, bb⟩; have Q1 := Lib.hid (below_step Q0.out bb); clear bb))
      go_roundw
      case rel => exact ⟨i1 + 1, Lib.hid HI1.out, by go_num, below_step HB3.out Q7.out⟩
      case measure => have := HI1.out; simp [intOf]; omega
    · have d1 : decide ((i1 : Int) < 2) = false := by simp; omega
      clear hlt
      go_wp2
      go_ret
      exact ⟨rfl, by rw [HG.out]; exact HB.out.trans (hb.mono (by rw [HS.out]; omega))⟩
end Go.Proofs.Ytgomnifcgaigkaa
