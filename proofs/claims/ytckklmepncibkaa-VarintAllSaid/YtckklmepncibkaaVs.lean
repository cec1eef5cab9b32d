/- Walks: VarintAll. -/
import Derived.Test.YtckklmepncibkaaProg
import Derived.Test.YtckklmepncibkaaVq
namespace Go.Proofs.Ytckklmepncibkaa
open Go.RowKit
set_option linter.unusedVariables false

theorem rdAll_cases {l : List Int} (hl : Bytes l) : (∃ f, f ≠ 0 ∧ rdAll l = ([], f)) ∨ (∃ ks : List Nat, rdAll l = (ks.map Int.ofNat, 0) ∧ (∀ k ∈ ks, k < 18446744073709551616) ∧ encAll ks = l) := by
  by_cases h : (rdAll l).2 = 0
  · obtain ⟨ks, h1, h2, h3⟩ := rdAll_form hl h
    exact .inr ⟨ks, Prod.ext h1 h, h2, h3⟩
  · exact .inl ⟨(rdAll l).2, h, Prod.ext (rdAllF_bad _ _ h) rfl⟩

set_option maxRecDepth 20000 in
set_option maxHeartbeats 1600000 in
theorem VarintAll_any (A : Option Addr) (n c : Nat) (l0 : List Nat) (B : Option Addr) (n2 c2 : Nat) (b0 : List Int) (w : World) (h : Sees w 1 A n c ((l0.map Int.ofNat).map (Value.int .u64))) (hl0 : ∀ x ∈ l0, x < 18446744073709551616)
    (h2 : Sees w 1 B n2 c2 (b0.map (Value.int .u8))) (hb0 : Bytes b0) :
    Calls Try.prog 10 #[.slice A n c, .slice B n2 c2] w fun e w' => e = .returned (.bool true) ∧ Below w.heap.size w w' := by
  obtain ⟨kl, hl1, hl2, _, hl3⟩ := min_is n 200
  obtain ⟨kb, hb1, hb2, _, hb3⟩ := min_is n2 400
  have hsA := h.pre hl1
  rw [Nat.mul_one, ← List.map_take, ← List.map_take] at hsA
  have hl : ∀ x ∈ l0.take kl, x < 18446744073709551616 := fun x hx => hl0 x (List.mem_of_mem_take hx)
  have hsB := h2.pre hb1
  rw [Nat.mul_one, ← List.map_take] at hsB
  have hby := hb0.take kb
  have hcA := h.cap
  have hcB := h2.cap
  generalize l0.take kl = l at hsA hl
  generalize b0.take kb = b at hsB hby
  have hcutA := fun w => run_cutr E_u64 A n c kl (Nat.le_trans hl1 hcA) w
  have hcutB := fun w => run_cutr E_u8 B n2 c2 kb (Nat.le_trans hb1 hcB) w
  clear h h2 hl0 hb0
  go_enter Try.func10, Try.ntmps10
  go_wp2_with (go_at_call 12; refine (awake_any _).mono ?_; rintro e w1 ⟨rfl, hb1⟩; have hB1 := hb1.drew; clear hb1)
  refine wp_region_any (by kernel_rfl) ?_
  change wpAny _ _ _ _ _ _ _ (World.drew _)
  refine wpAny_take (i := 0) (v := (.slice A n c)) rfl (by kernel_rfl) (by kernel_rfl) (by kernel_rfl) (fun _ _ _ h => h) (Or.inl ⟨by rfl, fun w => by go_simp⟩) ?_
  simp only [Act.put, List.getElem_toArray, List.getElem_cons_succ, List.getElem_cons_zero, List.setIfInBounds_toArray, List.set_cons_succ, List.set_cons_zero]
  refine wpAny_take (i := 1) (v := (.slice A n c)) rfl (by kernel_rfl) (by kernel_rfl) (by kernel_rfl) (fun _ _ _ h => h) (Or.inl ⟨by rfl, fun w => by go_simp⟩) ?_
  simp only [Act.put, List.getElem_toArray, List.getElem_cons_succ, List.getElem_cons_zero, List.setIfInBounds_toArray, List.set_cons_succ, List.set_cons_zero]
  refine wpAny_take (i := 2) (v := .int .i64 (n : Int)) rfl (by kernel_rfl) (by kernel_rfl) (by kernel_rfl) (fun _ _ _ h => h) (Or.inl ⟨by rfl, fun w => by go_simp⟩) ?_
  simp only [Act.put, List.getElem_toArray, List.getElem_cons_succ, List.getElem_cons_zero, List.setIfInBounds_toArray, List.set_cons_succ, List.set_cons_zero]
  refine wpAny_take (i := 3) (v := .int .i64 (kl : Int)) rfl (by kernel_rfl) (by kernel_rfl) (by kernel_rfl) (fun _ _ _ h => h) (Or.inl ⟨by rfl, fun w => by exact exec_min rfl rfl rfl rfl hl3 w⟩) ?_
  simp only [Act.put, List.getElem_toArray, List.getElem_cons_succ, List.getElem_cons_zero, List.setIfInBounds_toArray, List.set_cons_succ, List.set_cons_zero]
  refine wpAny_take (i := 4) (v := .slice A kl c) rfl (by kernel_rfl) (by kernel_rfl) (by kernel_rfl) (fun _ _ _ h => h) (Or.inl ⟨by rfl, fun w => by go_simp⟩) ?_
  simp only [Act.put, List.getElem_toArray, List.getElem_cons_succ, List.getElem_cons_zero, List.setIfInBounds_toArray, List.set_cons_succ, List.set_cons_zero]
  refine wpAny_take (i := 5) (v := (.slice B n2 c2)) rfl (by kernel_rfl) (by kernel_rfl) (by kernel_rfl) (fun _ _ _ h => h) (Or.inl ⟨by rfl, fun w => by go_simp⟩) ?_
  simp only [Act.put, List.getElem_toArray, List.getElem_cons_succ, List.getElem_cons_zero, List.setIfInBounds_toArray, List.set_cons_succ, List.set_cons_zero]
  refine wpAny_take (i := 6) (v := (.slice B n2 c2)) rfl (by kernel_rfl) (by kernel_rfl) (by kernel_rfl) (fun _ _ _ h => h) (Or.inl ⟨by rfl, fun w => by go_simp⟩) ?_
  simp only [Act.put, List.getElem_toArray, List.getElem_cons_succ, List.getElem_cons_zero, List.setIfInBounds_toArray, List.set_cons_succ, List.set_cons_zero]
  refine wpAny_take (i := 7) (v := .int .i64 (n2 : Int)) rfl (by kernel_rfl) (by kernel_rfl) (by kernel_rfl) (fun _ _ _ h => h) (Or.inl ⟨by rfl, fun w => by go_simp⟩) ?_
  simp only [Act.put, List.getElem_toArray, List.getElem_cons_succ, List.getElem_cons_zero, List.setIfInBounds_toArray, List.set_cons_succ, List.set_cons_zero]
  refine wpAny_take (i := 8) (v := .int .i64 (kb : Int)) rfl (by kernel_rfl) (by kernel_rfl) (by kernel_rfl) (fun _ _ _ h => h) (Or.inl ⟨by rfl, fun w => by exact exec_min rfl rfl rfl rfl hb3 w⟩) ?_
  simp only [Act.put, List.getElem_toArray, List.getElem_cons_succ, List.getElem_cons_zero, List.setIfInBounds_toArray, List.set_cons_succ, List.set_cons_zero]
  refine wpAny_take (i := 9) (v := .slice B kb c2) rfl (by kernel_rfl) (by kernel_rfl) (by kernel_rfl) (fun _ _ _ h => h) (Or.inl ⟨by rfl, fun w => by go_simp⟩) ?_
  simp only [Act.put, List.getElem_toArray, List.getElem_cons_succ, List.getElem_cons_zero, List.setIfInBounds_toArray, List.set_cons_succ, List.set_cons_zero]
  refine wpAny_take (i := 10) (v := .slice A kl c) rfl (by kernel_rfl) (by kernel_rfl) (by kernel_rfl) (fun _ _ _ h => h) (Or.inl ⟨by rfl, fun w => by go_simp⟩) ?_
  simp only [Act.put, List.getElem_toArray, List.getElem_cons_succ, List.getElem_cons_zero, List.setIfInBounds_toArray, List.set_cons_succ, List.set_cons_zero]
  refine wpAny_take (i := 11) (v := .slice B kb c2) rfl (by kernel_rfl) (by kernel_rfl) (by kernel_rfl) (fun _ _ _ h => h) (Or.inl ⟨by rfl, fun w => by go_simp⟩) ?_
  simp only [Act.put, List.getElem_toArray, List.getElem_cons_succ, List.getElem_cons_zero, List.setIfInBounds_toArray, List.set_cons_succ, List.set_cons_zero]
  refine wpAny_done (by kernel_rfl) ?_ _
  have hA1 := hsA.below hB1 (Nat.le_refl _)
  have hB1' := hsB.below hB1 (Nat.le_refl _)
  obtain ⟨N, hN⟩ : ∃ N, (encAll l).length = N := ⟨_, rfl⟩
  have hNb : N ≤ 2000 := by have := encAll_len l; have := hsA.length; simp at this; omega
  have hrd := rdAll_enc hl
  have hlen : l.length = kl := by have := hsA.length; simpa using this
  have HN := Lib.hid hN
  have HRD := Lib.hid hrd
  have HLEN := Lib.hid hlen
  clear hN hrd hlen hcutA hcutB hl3 hb3
  go_wp2_with (first
    | (go_at_call 23; refine (WriteAll_any _ _ _ l _ (by exact hA1) hl (by omega)).mono ?_; rw [HN.out]; rintro e w2 ⟨v2, rfl, hown2, hb2⟩; obtain ⟨A2, c2', rfl⟩ := own_form hown2)
    | (go_at_call 22; refine (ReadAll_any _ _ _ (encAll l) _ (by exact sees_own hown2) (encAll_bytes l) (by omega)).mono ?_; simp only [HRD.out, List.length_map, HLEN.out]; rintro e w3 ⟨v3, rfl, hown3, hb3⟩; obtain ⟨A3, c3, rfl⟩ := own_form hown3))
  have hS2 := (sees_own hown2).below hb3 (Nat.le_refl _)
  have hS3 := sees_own hown3
  have hA3 := hA1.below (below_step hb2 hb3) (Nat.le_refl _)
  have hB3 := hB1'.below (below_step hb2 hb3) (Nat.le_refl _)
  have hW3 := hB1.trans ((below_step hb2 hb3).mono hB1.size)
  clear hown2 hown3 hb2 hb3 hA1 hB1' hsA hsB hB1
  go_loopw [8, 34] (fun sv i wr => ∃ (k s : Nat), k ≤ kl ∧ i = .int .i64 k ∧ sv = .int .i64 (s : Int) ∧ s ≤ 10 * k ∧ Hid (s = (encAll (l.take k)).length) ∧ Below w3.heap.size w3 wr) (fun _ i _ => kl - (intOf i).toNat)
  case atStart => exact ⟨0, 0, by omega, rfl, rfl, by omega, Lib.hid rfl, Below.refl _ _⟩
  case round =>
    obtain ⟨k, s, hk, rfl, rfl, hsk, HS, hb⟩ := hrel
    by_cases hlt : k < kl
    · obtain ⟨b1, o1, rfl, g1⟩ := (hA3.below hb (Nat.le_refl _)).int hlt
      rw [cast_getD] at g1
      have hmem : l.getD k 0 ∈ l := by
        have hk2 : k < l.length := by rw [HLEN.out]; exact hlt
        rw [List.getD, List.getElem?_eq_getElem hk2]; exact List.getElem_mem _
      have hx := hl _ hmem
      have hstep : (encAll (l.take (k + 1))).length = (encAll (l.take k)).length + (enc (l.getD k 0)).length := by
        rw [take_one_nat (by rw [HLEN.out]; exact hlt), encAll_snoc, List.length_append]
      have hle := enc_len (l.getD k 0)
      clear hmem
      generalize l.getD k 0 = x at g1 hx hstep hle
      obtain ⟨m, hm⟩ : ∃ m, (enc x).length = m := ⟨_, rfl⟩
      rw [hm] at hstep hle
      have HST := Lib.hid hstep
      have HM := Lib.hid hm
      clear hstep hm
      go_wp2_with (go_at_call 19; refine (Size_any x hx _).mono ?_; rw [HM.out]; rintro e w4 ⟨rfl, hb4⟩)
      go_roundw
      case rel => exact ⟨k + 1, s + m, by omega, by go_num, by go_num, by omega, Lib.hid (by rw [HST.out, HS.out]), hb.trans (hb4.mono hb.size)⟩
      case measure => simp [intOf]; omega
    · obtain rfl : k = kl := by omega
      have hs : s = N := by rw [HS.out, ← HN.out, List.take_of_length_le (by rw [HLEN.out]; omega)]
      subst hs
      clear HS hlt
      have hS2' := hS2.below hb (Nat.le_refl _)
      have hS3' := hS3.below hb (Nat.le_refl _)
      have hA3' := hA3.below hb (Nat.le_refl _)
      have hB3' := hB3.below hb (Nat.le_refl _)
      have hW3' := hW3.trans (hb.mono hW3.size)
      clear hS2 hS3 hA3 hB3 hb hW3
      have hbl := hB3'.length
      rcases rdAll_cases hby with ⟨f, hf, hrb⟩ | ⟨ks, hrb, hks, henc⟩
      · have HRB := Lib.hid hrb
        have hf' : (f != 0) = true := by simp [hf]
        clear hrb hbl
        go_wp2_with (first
          | (go_at_call 24; refine (SameNums_any _ _ _ _ _ _ _ _ _ (by exact hS3') (by exact hA3')).mono ?_; rw [eqL_self]; rintro e w5 ⟨rfl, hb5⟩)
          | (go_at_call 22; refine (ReadAll_any _ _ _ b _ (by exact hB3'.below hb5 (Nat.le_refl _)) hby (by omega)).mono ?_; rw [HRB.out]; rintro e w6 ⟨v6, rfl, hown6, hb6⟩; obtain ⟨A6, c6, rfl⟩ := own_form hown6))
        go_ret
        exact ⟨rfl, hW3'.trans ((below_step hb5 hb6).mono hW3'.size)⟩
      · have hkl : ks.length ≤ kb := by have := encAll_ge ks; rw [henc] at this; omega
        have HRB := Lib.hid hrb
        have HENC := Lib.hid henc
        clear hrb henc hbl
        go_wp2_with (first
          | (go_at_call 24; refine (SameNums_any _ _ _ _ _ _ _ _ _ (by exact hS3') (by exact hA3')).mono ?_; rw [eqL_self]; rintro e w5 ⟨rfl, hb5⟩)
          | (go_at_call 22; refine (ReadAll_any _ _ _ b _ (by exact hB3'.below hb5 (Nat.le_refl _)) hby (by omega)).mono ?_; simp only [HRB.out]; rintro e w6 ⟨v6, rfl, hown6, hb6⟩; obtain ⟨A6, c6, rfl⟩ := own_form hown6; rw [List.length_map] at hown6)
          | (go_at_call 23; refine (WriteAll_any _ _ _ ks _ (by simpa using sees_own hown6) hks (by omega)).mono ?_; rw [HENC.out]; rintro e w7 ⟨v7, rfl, hown7, hb7⟩; obtain ⟨A7, c7, rfl⟩ := own_form hown7)
          | (go_at_call 15; refine (SameBytes_any _ _ _ _ _ _ _ _ _ (by exact sees_own hown7) (by exact hB3'.below (below_step (below_step hb5 hb6) hb7) (Nat.le_refl _))).mono ?_; rw [eqL_self]; rintro e w8 ⟨rfl, hb8⟩))
        go_ret
        exact ⟨rfl, hW3'.trans ((below_step (below_step (below_step hb5 hb6) hb7) hb8).mono hW3'.size)⟩
end Go.Proofs.Ytckklmepncibkaa
