/- Walks: nobody (CursorSmall). -/
import Derived.Test.YtgngeachgkappaaProg
import Derived.Test.YtgngeachgkappaaXf
namespace Go.Proofs.Ytgngeachgkappaa
open Go.RowKit
set_option linter.unusedVariables false

set_option maxRecDepth 20000 in
set_option maxHeartbeats 3200000 in
theorem nobody_any (w : World) : Calls Try.prog 33 #[] w fun e w' => e = .returned (.bool true) ∧ Below w.heap.size w w' := by
  obtain ⟨g, hg⟩ : ∃ g, w.heap.size = g := ⟨_, rfl⟩
  obtain ⟨wF, hF⟩ : ∃ wF, (w.alloc (.cells #[.slice none 0 0, .int .i64 0, .pointer none] 77)).alloc (.cells #[.pointer none, .pointer (some ⟨g, 0, none⟩)] 38) = wF := ⟨_, rfl⟩
  have hB : Below g w wF := by rw [← hF, ← hg]; exact ((Below.refl _ _).alloc (Nat.le_refl _) _).alloc (by simp) _
  have hsz : wF.heap.size = g + 2 := by rw [← hF]; simp [hg]
  have hv : ∀ i, i < 2 → ∃ v, wF.cell? ⟨g + 1, (i : Nat), none⟩ = some v ∧ NoRd wF v := by
    have h1 : wF.heap[g + 1]? = some (.cells #[.pointer none, .pointer (some ⟨g, 0, none⟩)] 38 (0, 0)) := by
      rw [← hF, ← hg]
      have := heap_alloc_new (w.alloc (.cells #[.slice none 0 0, .int .i64 0, .pointer none] 77)) (.cells #[.pointer none, .pointer (some ⟨w.heap.size, 0, none⟩)] 38)
      simpa using this
    have h0 : wF.heap[g]? = some (.cells #[.slice none 0 0, .int .i64 0, .pointer none] 77 (0, 0)) := by
      rw [← hF, ← hg, heap_alloc_old _ _ (by simp)]
      exact heap_alloc_new _ _
    intro i hi
    match i, hi with
    | 0, _ => exact ⟨.pointer none, by simp [World.cell?, h1], Or.inl rfl⟩
    | 1, _ => exact ⟨.pointer (some ⟨g, 0, none⟩), by simp [World.cell?, h1], Or.inr ⟨g, rfl, by simp [World.cell?, h0]⟩⟩
  have HF := Lib.hid hF
  have HG := Lib.hid hg
  have HV := Lib.hid hv
  have HB := Lib.hid hB
  have HS := Lib.hid hsz
  clear hF hg hv hB hsz
  go_enter Try.func33, Try.ntmps33
  go_wp2
  rw [HG.out, HF.out]
  go_loopw [22] (fun i wr => ∃ i1 : Nat, Hid (i1 ≤ 2) ∧ i = .int .i64 (i1 : Int) ∧ Below wF.heap.size wF wr) (fun i _ => 2 - (intOf i).toNat)
  case atStart => exact ⟨0, Lib.hid (by omega), rfl, Below.refl _ _⟩
  case round =>
    obtain ⟨i1, HI, rfl, hb⟩ := hrel
    by_cases hlt : i1 < 2
    · obtain ⟨v, hv, hn⟩ := HV.out i1 hlt
      have hc : wr.cell? ⟨g + 1, i1, none⟩ = some v := by rw [hb.cell (by rw [HS.out]; simp)]; exact hv
      have HN : Hid (NoRd wr v) := Lib.hid (hn.below hb (Nat.le_refl _))
      have d1 : decide ((i1 : Int) < 2) = true := by simp; omega
      have hi1 : (i1 : Int) ≤ 1 := by omega
      have HI1 := Lib.hid hlt
      have Q0 := Lib.hid (Below.refl wr.heap.size wr)
      clear hlt hv hn
      go_wp2_with (first
        | (go_at_call 19; have _q := Q7; refine (LeftR_none _ _ (HN.out.below Q7.out (Nat.le_refl _))).mono ?_; rintro e u8 ⟨rfl, bb⟩; have Q8 := Lib.hid (below_step Q7.out bb); clear bb)
        | (go_at_call 18; have _q := Q6; refine (AtR_none _ _ (HN.out.below Q6.out (Nat.le_refl _))).mono ?_; rintro e u7 ⟨rfl, bb⟩; have Q7 := Lib.hid (below_step Q6.out bb); clear bb)
        | (go_at_call 20; have _q := Q5; refine (EndR_none _ _ (HN.out.below Q5.out (Nat.le_refl _))).mono ?_; rintro e u6 ⟨rfl, bb⟩; have Q6 := Lib.hid (below_step Q5.out bb); clear bb)
        | (go_at_call 32; have _q := Q4; refine (CountR_none _ _ _ _ (HN.out.below Q4.out (Nat.le_refl _))).mono ?_; rintro e u5 ⟨rfl, bb⟩; have Q5 := Lib.hid (below_step Q4.out bb); clear bb)
        | (go_at_call 23; have _q := Q3; refine (NumberR_none _ _ _ (HN.out.below Q3.out (Nat.le_refl _))).mono ?_; rintro e u4 ⟨rfl, bb⟩; have Q4 := Lib.hid (below_step Q3.out bb); clear bb)
        | (go_at_call 28; have _q := Q2; refine (FixedR_none _ _ _ (HN.out.below Q2.out (Nat.le_refl _))).mono ?_; rintro e u3 ⟨rfl, bb⟩; have Q3 := Lib.hid (below_step Q2.out bb); clear bb)
        | (go_at_call 29; have _q := Q1; refine (BytesR_none _ _ _ (HN.out.below Q1.out (Nat.le_refl _))).mono ?_; rintro e u2 ⟨rfl, bb⟩; have Q2 := Lib.hid (below_step Q1.out bb); clear bb)
        | (go_at_call 24; have _q := Q0; refine (ByteR_none _ _ (HN.out.below Q0.out (Nat.le_refl _))).mono ?_; rintro e u1 ⟨rfl, bb⟩; have Q1 := Lib.hid (below_step Q0.out bb); clear bb))
      go_roundw
      case rel => exact ⟨i1 + 1, Lib.hid HI1.out, by go_num, hb.trans (Q8.out.mono hb.size)⟩
      case measure => have := HI1.out; simp [intOf]; omega
    · have d1 : decide ((i1 : Int) < 2) = false := by simp; omega
      clear hlt
      have HBR : Hid (Below g w wr) := Lib.hid (HB.out.trans (hb.mono (by rw [HS.out]; omega)))
      have HGR : Hid (g ≤ wr.heap.size) := Lib.hid (by have := hb.size; rw [HS.out] at this; omega)
      clear hb HV HF HS HB
      obtain ⟨g2, hg2⟩ : ∃ g2, wr.heap.size = g2 := ⟨_, rfl⟩
      obtain ⟨wG, hG⟩ : ∃ wG, (wr.alloc (.cells #[.slice none 0 0, .int .i64 0, .pointer none] 71)).alloc (.cells #[.pointer none, .pointer (some ⟨g2, 0, none⟩)] 25) = wG := ⟨_, rfl⟩
      have hB2 : Below g w wG := by rw [← hG]; exact (HBR.out.alloc HGR.out _).alloc (by have := HGR.out; simp; omega) _
      have hsz2 : wG.heap.size = g2 + 2 := by rw [← hG]; simp [hg2]
      have hv2 : ∀ i, i < 2 → ∃ v, wG.cell? ⟨g2 + 1, (i : Nat), none⟩ = some v ∧ NoWr wG v := by
        have h1 : wG.heap[g2 + 1]? = some (.cells #[.pointer none, .pointer (some ⟨g2, 0, none⟩)] 25 (0, 0)) := by
          rw [← hG, ← hg2]
          have := heap_alloc_new (wr.alloc (.cells #[.slice none 0 0, .int .i64 0, .pointer none] 71)) (.cells #[.pointer none, .pointer (some ⟨wr.heap.size, 0, none⟩)] 25)
          simpa using this
        have h0 : wG.heap[g2]? = some (.cells #[.slice none 0 0, .int .i64 0, .pointer none] 71 (0, 0)) := by
          rw [← hG, ← hg2, heap_alloc_old _ _ (by simp)]
          exact heap_alloc_new _ _
        intro i hi
        match i, hi with
        | 0, _ => exact ⟨.pointer none, by simp [World.cell?, h1], Or.inl rfl⟩
        | 1, _ => exact ⟨.pointer (some ⟨g2, 0, none⟩), by simp [World.cell?, h1], Or.inr ⟨g2, rfl, by simp [World.cell?, h0]⟩⟩
      have HF := Lib.hid hG
      have HG2 := Lib.hid hg2
      have HV := Lib.hid hv2
      have HB := Lib.hid hB2
      have HS := Lib.hid hsz2
      have HGZ : Hid (g ≤ wG.heap.size) := Lib.hid (by rw [hsz2]; have := HGR.out; omega)
      clear hG hg2 hv2 hB2 hsz2
      go_wp2
      rw [HG2.out, HF.out]
      go_loopw [87] (fun i wr => ∃ i1 : Nat, Hid (i1 ≤ 2) ∧ i = .int .i64 (i1 : Int) ∧ Below wG.heap.size wG wr) (fun i _ => 2 - (intOf i).toNat)
      case atStart => exact ⟨0, Lib.hid (by omega), rfl, Below.refl _ _⟩
      case round =>
        obtain ⟨i1, HI, rfl, hb⟩ := hrel
        by_cases hlt : i1 < 2
        · obtain ⟨v, hv, hn⟩ := HV.out i1 hlt
          have hc : wr.cell? ⟨g2 + 1, i1, none⟩ = some v := by rw [hb.cell (by rw [HS.out]; simp)]; exact hv
          have HN : Hid (NoWr wr v) := Lib.hid (hn.below hb (Nat.le_refl _))
          have d1 : decide ((i1 : Int) < 2) = true := by simp; omega
          have hi1 : (i1 : Int) ≤ 1 := by omega
          have HI1 := Lib.hid hlt
          have Q0 := Lib.hid (Below.refl wr.heap.size wr)
          clear hlt hv hn
          go_wp2_with (first
            | (go_at_call 15; have _q := Q5; refine (OutW_none _ _ (HN.out.below Q5.out (Nat.le_refl _))).mono ?_; rintro e u6 ⟨rfl, bb⟩; have Q6 := Lib.hid (below_step Q5.out bb); clear bb)
            | (go_at_call 14; have _q := Q4; refine (LenW_none _ _ (HN.out.below Q4.out (Nat.le_refl _))).mono ?_; rintro e u5 ⟨rfl, bb⟩; have Q5 := Lib.hid (below_step Q4.out bb); clear bb)
            | (go_at_call 34; have _q := Q3; refine (NumberW_none _ 1 (by decide) _ (HN.out.below Q3.out (Nat.le_refl _))).mono ?_; rintro e u4 ⟨rfl, bb⟩; have Q4 := Lib.hid (below_step Q3.out bb); clear bb)
            | (go_at_call 25; have _q := Q2; refine (FixedW_none _ _ _ _ (HN.out.below Q2.out (Nat.le_refl _))).mono ?_; rintro e u3 ⟨rfl, bb⟩; have Q3 := Lib.hid (below_step Q2.out bb); clear bb)
            | (go_at_call 26; have _q := Q1; refine (BytesW_none _ _ _ _ _ (HN.out.below Q1.out (Nat.le_refl _))).mono ?_; rintro e u2 ⟨rfl, bb⟩; have Q2 := Lib.hid (below_step Q1.out bb); clear bb)
            | (go_at_call 27; have _q := Q0; refine (ByteW_none _ _ _ (HN.out.below Q0.out (Nat.le_refl _))).mono ?_; rintro e u1 ⟨rfl, bb⟩; have Q1 := Lib.hid (below_step Q0.out bb); clear bb))
          go_roundw
          case rel => exact ⟨i1 + 1, Lib.hid HI1.out, by go_num, hb.trans (Q6.out.mono hb.size)⟩
          case measure => have := HI1.out; simp [intOf]; omega
        · have d1 : decide ((i1 : Int) < 2) = false := by simp; omega
          clear hlt
          have HF2 := Lib.hid (HB.out.trans (hb.mono HGZ.out))
          clear hb
          go_wp2_with (go_at_call 48; refine (Read_any none 0 0 [] _ (Sees.nil _ _ _ _ (by decide) (fun _ => rfl)) (fun x hx => by cases hx)).mono ?_; rw [show rd [] = (0, 0, 10) from rfl]; rintro e w9 ⟨rfl, b9⟩)
          go_ret
          exact ⟨rfl, by rw [HG.out]; exact HF2.out.trans (b9.mono (by have h := HF2.out.size; rw [HG.out] at h; exact h))⟩
end Go.Proofs.Ytgngeachgkappaa
