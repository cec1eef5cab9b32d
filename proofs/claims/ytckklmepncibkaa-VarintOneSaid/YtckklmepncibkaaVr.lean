/- Walks: VarintOne, bytes that are read. -/
import Derived.Test.YtckklmepncibkaaProg
import Derived.Test.YtckklmepncibkaaVq
namespace Go.Proofs.Ytckklmepncibkaa
open Go.RowKit
set_option linter.unusedVariables false

set_option maxRecDepth 20000 in
set_option maxHeartbeats 600000 in
theorem VarintOne_ok (x : Nat) (A : Option Addr) (n c : Nat) (l0 : List Int) (w : World) (hx : x < 18446744073709551616) (h : Sees w 1 A n c (l0.map (Value.int .u8))) (hl0 : Bytes l0) (y m : Nat) (hrl0 : rd (l0.take (min n 20)) = ((y : Int), (m : Int), 0)) (m1 : 1 ≤ m) (m2 : m ≤ min n 20) (hy : y < 18446744073709551616) (hym : enc y = (l0.take (min n 20)).take m) :
    Calls Try.prog 6 #[.int .u64 (x : Int), .slice A n c] w fun e w' => e = .returned (.bool true) ∧ Below w.heap.size w w' := by
  obtain ⟨na, hna⟩ : ∃ n, (enc x).length = n := ⟨_, rfl⟩
  have a1 : 1 ≤ na := hna ▸ enc_pos x
  have a2 : na ≤ 10 := hna ▸ enc_len x
  have hncap := h.cap
  have hcm := h.capm
  obtain ⟨k, hk1, hk2, _, hk3⟩ := min_is n 20
  have hkm : min n 20 = k := by omega
  rw [hkm] at hrl0 m2 hym
  have hs := h.pre hk1
  rw [Nat.mul_one, ← List.map_take] at hs
  have hl := hl0.take k
  generalize l0.take k = l at hs hl hrl0 hym
  have hsee := hs
  clear hs h hl0
  have hcut := fun w => run_cutr E_u8 A n c k (by omega) w
  have hrd := rd_enc hx l
  have hfit : rd (enc x ++ l) = ((x : Int), (na : Int), 0) := by rw [hrd, hna]
  have HRL := Lib.hid hrl0
  have HNA := Lib.hid hna
  have HRD := Lib.hid hfit
  have HL := Lib.hid hsee.length
  clear hna hrd hfit hrl0
  rcases hk3 with ⟨hc1, rfl⟩ | ⟨hc1, rfl⟩
  case inl =>
    go_enter Try.func6, Try.ntmps6
    go_wp2_with (first
      | (go_at_call 12; refine (awake_any _).mono ?_; rintro e w1 ⟨rfl, hb1⟩; have hB := hb1; clear hb1)
      | (go_at_call 13; refine (Write_any x hx _).mono ?_; rw [HNA.out]; rintro e w2 ⟨v2, rfl, hown2, hb2⟩; obtain ⟨A2, c2, rfl⟩ := own_form hown2; have hS2 := (sees_own hown2).pre3 (Nat.le_refl _); rw [Nat.mul_one, List.take_of_length_le (by simp [HNA.out])] at hS2; have hcut3 := fun w => run_cut3 E_u8 A2 na c2 na (sees_own hown2).cap w; have hB2 := below_step hB hb2)
      | (go_at_call 19; refine (Size_any x hx _).mono ?_; rw [HNA.out]; rintro e w3 ⟨rfl, hb3⟩)
      | (at_builtin; refine wpList_appV E_u8 rfl _ _ rfl rfl (hS2.below hb3 (Nat.le_refl _)) rfl (hsee.below (below_step hB2 hb3) (Nat.le_refl _)) (ints1 _ _) (by simp [maxLen]; omega) (by omega) ?_; intro A4 c4 w4 hS4 hb4; have hB4 := below_step (below_step hB2 hb3) hb4; rw [← List.map_append] at hS4)
      | (go_at_call 14; refine (Read_any _ _ _ _ _ (by first | exact hS4 | exact hsee.below hB5 (Nat.le_refl _)) (by first | exact (enc_bytes x).app hl | exact hl)).mono ?_; (first
          | (rw [HRD.out]; rintro e w5 ⟨rfl, hb5⟩; have hB5 := below_step hB4 hb5)
          | (rw [HRL.out]; rintro e w6 ⟨rfl, hb6⟩; have hB6 := below_step hB5 hb6))))
    have g1 : decide (1 ≤ (m : Int)) = true := by simp; omega
    have g2 := m2
    have g3 : decide ((m : Int) ≤ (k : Int)) = true := by simp; exact m2
    have hcutm := fun (n : Nat) w => run_cutr E_u8 A n c m (Nat.le_trans m2 hsee.cap) w
    have hsm := hsee.pre m2
    rw [Nat.mul_one, ← List.map_take, ← hym] at hsm
    clear hS4 hB4 hb5 hb6 hB5 hb4 hb3 hcut hcut3 hB2 hS2 HNA HRD HRL
    clear hkm hk1 hk2 hncap hcm HL hl hym m1 m2 a1 a2
    refine wp_region_any (by kernel_rfl) ?_
    change wpAny _ _ _ _ _ _ _ (World.drew _)
    refine wpAny_take (i := 0) (v := .int .i64 (m : Int)) rfl (by kernel_rfl) (by kernel_rfl) (by kernel_rfl) (fun _ _ _ h => h) (Or.inl ⟨by rfl, fun w => by go_simp⟩) ?_
    simp only [Act.put, List.getElem_toArray, List.getElem_cons_succ, List.getElem_cons_zero, List.setIfInBounds_toArray, List.set_cons_succ, List.set_cons_zero]
    refine wpAny_take (i := 1) (v := .bool true) rfl (by kernel_rfl) (by kernel_rfl) (by kernel_rfl) (fun _ _ _ h => h) (Or.inl ⟨by rfl, fun w => by go_simp⟩) ?_
    simp only [Act.put, List.getElem_toArray, List.getElem_cons_succ, List.getElem_cons_zero, List.setIfInBounds_toArray, List.set_cons_succ, List.set_cons_zero]
    refine wpAny_take (i := 2) (v := .bool true) rfl (by kernel_rfl) (by kernel_rfl) (by kernel_rfl) (fun _ _ _ h => h) (Or.inl ⟨by rfl, fun w => by go_simp⟩) ?_
    simp only [Act.put, List.getElem_toArray, List.getElem_cons_succ, List.getElem_cons_zero, List.setIfInBounds_toArray, List.set_cons_succ, List.set_cons_zero]
    refine wpAny_take (i := 3) (v := .int .i64 (m : Int)) rfl (by kernel_rfl) (by kernel_rfl) (by kernel_rfl) (fun _ _ _ h => h) (Or.inl ⟨by rfl, fun w => by go_simp⟩) ?_
    simp only [Act.put, List.getElem_toArray, List.getElem_cons_succ, List.getElem_cons_zero, List.setIfInBounds_toArray, List.set_cons_succ, List.set_cons_zero]
    refine wpAny_take (i := 4) (v := .slice A k c) rfl (by kernel_rfl) (by kernel_rfl) (by kernel_rfl) (fun _ _ _ h => h) (Or.inl ⟨by rfl, fun w => by go_simp⟩) ?_
    simp only [Act.put, List.getElem_toArray, List.getElem_cons_succ, List.getElem_cons_zero, List.setIfInBounds_toArray, List.set_cons_succ, List.set_cons_zero]
    refine wpAny_take (i := 5) (v := .int .i64 (k : Int)) rfl (by kernel_rfl) (by kernel_rfl) (by kernel_rfl) (fun _ _ _ h => h) (Or.inl ⟨by rfl, fun w => by go_simp⟩) ?_
    simp only [Act.put, List.getElem_toArray, List.getElem_cons_succ, List.getElem_cons_zero, List.setIfInBounds_toArray, List.set_cons_succ, List.set_cons_zero]
    refine wpAny_take (i := 6) (v := .bool true) rfl (by kernel_rfl) (by kernel_rfl) (by kernel_rfl) (fun _ _ _ h => h) (Or.inl ⟨by rfl, fun w => by go_simp⟩) ?_
    simp only [Act.put, List.getElem_toArray, List.getElem_cons_succ, List.getElem_cons_zero, List.setIfInBounds_toArray, List.set_cons_succ, List.set_cons_zero]
    refine wpAny_take (i := 7) (v := .bool true) rfl (by kernel_rfl) (by kernel_rfl) (by kernel_rfl) (fun _ _ _ h => h) (Or.inl ⟨by rfl, fun w => by go_simp⟩) ?_
    simp only [Act.put, List.getElem_toArray, List.getElem_cons_succ, List.getElem_cons_zero, List.setIfInBounds_toArray, List.set_cons_succ, List.set_cons_zero]
    refine wpAny_take (i := 8) (v := .bool true) rfl (by kernel_rfl) (by kernel_rfl) (by kernel_rfl) (fun _ _ _ h => h) (Or.inl ⟨by rfl, fun w => by go_simp⟩) ?_
    simp only [Act.put, List.getElem_toArray, List.getElem_cons_succ, List.getElem_cons_zero, List.setIfInBounds_toArray, List.set_cons_succ, List.set_cons_zero]
    refine wpAny_take (i := 9) (v := .int .u64 (y : Int)) rfl (by kernel_rfl) (by kernel_rfl) (by kernel_rfl) (fun _ _ _ h => h) (Or.inl ⟨by rfl, fun w => by go_simp⟩) ?_
    simp only [Act.put, List.getElem_toArray, List.getElem_cons_succ, List.getElem_cons_zero, List.setIfInBounds_toArray, List.set_cons_succ, List.set_cons_zero]
    refine wpAny_take (i := 11) (v := .slice A k c) rfl (by kernel_rfl) (by kernel_rfl) (by kernel_rfl) (fun _ _ _ h => h) (Or.inl ⟨by rfl, fun w => by go_simp⟩) ?_
    simp only [Act.put, List.getElem_toArray, List.getElem_cons_succ, List.getElem_cons_zero, List.setIfInBounds_toArray, List.set_cons_succ, List.set_cons_zero]
    refine wpAny_take (i := 12) (v := .int .i64 (m : Int)) rfl (by kernel_rfl) (by kernel_rfl) (by kernel_rfl) (fun _ _ _ h => h) (Or.inl ⟨by rfl, fun w => by go_simp⟩) ?_
    simp only [Act.put, List.getElem_toArray, List.getElem_cons_succ, List.getElem_cons_zero, List.setIfInBounds_toArray, List.set_cons_succ, List.set_cons_zero]
    refine wpAny_take (i := 13) (v := .slice A m c) rfl (by kernel_rfl) (by kernel_rfl) (by kernel_rfl) (fun _ _ _ h => h) (Or.inl ⟨by rfl, fun w => by go_simp⟩) ?_
    simp only [Act.put, List.getElem_toArray, List.getElem_cons_succ, List.getElem_cons_zero, List.setIfInBounds_toArray, List.set_cons_succ, List.set_cons_zero]
    refine wpAny_ready (rs := [10]) (by kernel_rfl) (by simp) ?_
    refine AllReady.cons rfl (fun K hK => ?_) AllReady.nil
    go_simp
    go_wp2_with (go_at_call 13; refine (Write_any y hy _).mono ?_; rintro e w7 ⟨v7, rfl, hown7, hb7⟩; obtain ⟨A7, c7, rfl⟩ := own_form hown7)
    have hsm7 := (hsm.below hB6 (Nat.le_refl _)).drew.below hb7 (Nat.le_refl _)
    have hB7 := hB6.drew.trans (hb7.mono hB6.size)
    refine wpAny_ready (rs := [14]) (by kernel_rfl) (by simp) ?_
    refine AllReady.cons rfl (fun K hK => ?_) AllReady.nil
    go_simp
    go_wp2_with (go_at_call 15; refine (SameBytes_any _ _ _ _ _ _ _ _ _ (by exact sees_own hown7) (by exact hsm7)).mono ?_; rw [eqL_self]; rintro e w8 ⟨rfl, hb8⟩)
    refine wpAny_take (i := 15) (v := .bool true) rfl (by kernel_rfl) (by kernel_rfl) (by kernel_rfl) (fun _ _ _ h => h) (Or.inl ⟨by rfl, fun w => by go_simp⟩) ?_
    simp only [Act.put, List.getElem_toArray, List.getElem_cons_succ, List.getElem_cons_zero, List.setIfInBounds_toArray, List.set_cons_succ, List.set_cons_zero]
    refine wpAny_take (i := 16) (v := .bool true) rfl (by kernel_rfl) (by kernel_rfl) (by kernel_rfl) (fun _ _ _ h => h) (Or.inl ⟨by rfl, fun w => by go_simp⟩) ?_
    simp only [Act.put, List.getElem_toArray, List.getElem_cons_succ, List.getElem_cons_zero, List.setIfInBounds_toArray, List.set_cons_succ, List.set_cons_zero]
    refine wpAny_done (by kernel_rfl) ?_ _
    go_wp2
    go_ret
    exact ⟨rfl, hB7.trans (hb8.mono hB7.size)⟩
  case inr =>
    go_enter Try.func6, Try.ntmps6
    go_wp2_with (first
      | (go_at_call 12; refine (awake_any _).mono ?_; rintro e w1 ⟨rfl, hb1⟩; have hB := hb1; clear hb1)
      | (go_at_call 13; refine (Write_any x hx _).mono ?_; rw [HNA.out]; rintro e w2 ⟨v2, rfl, hown2, hb2⟩; obtain ⟨A2, c2, rfl⟩ := own_form hown2; have hS2 := (sees_own hown2).pre3 (Nat.le_refl _); rw [Nat.mul_one, List.take_of_length_le (by simp [HNA.out])] at hS2; have hcut3 := fun w => run_cut3 E_u8 A2 na c2 na (sees_own hown2).cap w; have hB2 := below_step hB hb2)
      | (go_at_call 19; refine (Size_any x hx _).mono ?_; rw [HNA.out]; rintro e w3 ⟨rfl, hb3⟩)
      | (at_builtin; refine wpList_appV E_u8 rfl _ _ rfl rfl (hS2.below hb3 (Nat.le_refl _)) rfl (hsee.below (below_step hB2 hb3) (Nat.le_refl _)) (ints1 _ _) (by simp [maxLen]; omega) (by omega) ?_; intro A4 c4 w4 hS4 hb4; have hB4 := below_step (below_step hB2 hb3) hb4; rw [← List.map_append] at hS4)
      | (go_at_call 14; refine (Read_any _ _ _ _ _ (by first | exact hS4 | exact hsee.below hB5 (Nat.le_refl _)) (by first | exact (enc_bytes x).app hl | exact hl)).mono ?_; (first
          | (rw [HRD.out]; rintro e w5 ⟨rfl, hb5⟩; have hB5 := below_step hB4 hb5)
          | (rw [HRL.out]; rintro e w6 ⟨rfl, hb6⟩; have hB6 := below_step hB5 hb6))))
    have g1 : decide (1 ≤ (m : Int)) = true := by simp; omega
    have g2 := m2
    have g3 : decide ((m : Int) ≤ 20) = true := by simp; omega
    have hcutm := fun (n : Nat) w => run_cutr E_u8 A n c m (Nat.le_trans m2 hsee.cap) w
    have hsm := hsee.pre m2
    rw [Nat.mul_one, ← List.map_take, ← hym] at hsm
    clear hS4 hB4 hb5 hb6 hB5 hb4 hb3 hcut hcut3 hB2 hS2 HNA HRD HRL
    clear hkm hk1 hk2 hncap hcm HL hl hym m1 m2 a1 a2
    refine wp_region_any (by kernel_rfl) ?_
    change wpAny _ _ _ _ _ _ _ (World.drew _)
    refine wpAny_take (i := 0) (v := .int .i64 (m : Int)) rfl (by kernel_rfl) (by kernel_rfl) (by kernel_rfl) (fun _ _ _ h => h) (Or.inl ⟨by rfl, fun w => by go_simp⟩) ?_
    simp only [Act.put, List.getElem_toArray, List.getElem_cons_succ, List.getElem_cons_zero, List.setIfInBounds_toArray, List.set_cons_succ, List.set_cons_zero]
    refine wpAny_take (i := 1) (v := .bool true) rfl (by kernel_rfl) (by kernel_rfl) (by kernel_rfl) (fun _ _ _ h => h) (Or.inl ⟨by rfl, fun w => by go_simp⟩) ?_
    simp only [Act.put, List.getElem_toArray, List.getElem_cons_succ, List.getElem_cons_zero, List.setIfInBounds_toArray, List.set_cons_succ, List.set_cons_zero]
    refine wpAny_take (i := 2) (v := .bool true) rfl (by kernel_rfl) (by kernel_rfl) (by kernel_rfl) (fun _ _ _ h => h) (Or.inl ⟨by rfl, fun w => by go_simp⟩) ?_
    simp only [Act.put, List.getElem_toArray, List.getElem_cons_succ, List.getElem_cons_zero, List.setIfInBounds_toArray, List.set_cons_succ, List.set_cons_zero]
    refine wpAny_take (i := 3) (v := .int .i64 (m : Int)) rfl (by kernel_rfl) (by kernel_rfl) (by kernel_rfl) (fun _ _ _ h => h) (Or.inl ⟨by rfl, fun w => by go_simp⟩) ?_
    simp only [Act.put, List.getElem_toArray, List.getElem_cons_succ, List.getElem_cons_zero, List.setIfInBounds_toArray, List.set_cons_succ, List.set_cons_zero]
    refine wpAny_take (i := 4) (v := .slice A 20 c) rfl (by kernel_rfl) (by kernel_rfl) (by kernel_rfl) (fun _ _ _ h => h) (Or.inl ⟨by rfl, fun w => by go_simp⟩) ?_
    simp only [Act.put, List.getElem_toArray, List.getElem_cons_succ, List.getElem_cons_zero, List.setIfInBounds_toArray, List.set_cons_succ, List.set_cons_zero]
    refine wpAny_take (i := 5) (v := .int .i64 20) rfl (by kernel_rfl) (by kernel_rfl) (by kernel_rfl) (fun _ _ _ h => h) (Or.inl ⟨by rfl, fun w => by go_simp⟩) ?_
    simp only [Act.put, List.getElem_toArray, List.getElem_cons_succ, List.getElem_cons_zero, List.setIfInBounds_toArray, List.set_cons_succ, List.set_cons_zero]
    refine wpAny_take (i := 6) (v := .bool true) rfl (by kernel_rfl) (by kernel_rfl) (by kernel_rfl) (fun _ _ _ h => h) (Or.inl ⟨by rfl, fun w => by go_simp⟩) ?_
    simp only [Act.put, List.getElem_toArray, List.getElem_cons_succ, List.getElem_cons_zero, List.setIfInBounds_toArray, List.set_cons_succ, List.set_cons_zero]
    refine wpAny_take (i := 7) (v := .bool true) rfl (by kernel_rfl) (by kernel_rfl) (by kernel_rfl) (fun _ _ _ h => h) (Or.inl ⟨by rfl, fun w => by go_simp⟩) ?_
    simp only [Act.put, List.getElem_toArray, List.getElem_cons_succ, List.getElem_cons_zero, List.setIfInBounds_toArray, List.set_cons_succ, List.set_cons_zero]
    refine wpAny_take (i := 8) (v := .bool true) rfl (by kernel_rfl) (by kernel_rfl) (by kernel_rfl) (fun _ _ _ h => h) (Or.inl ⟨by rfl, fun w => by go_simp⟩) ?_
    simp only [Act.put, List.getElem_toArray, List.getElem_cons_succ, List.getElem_cons_zero, List.setIfInBounds_toArray, List.set_cons_succ, List.set_cons_zero]
    refine wpAny_take (i := 9) (v := .int .u64 (y : Int)) rfl (by kernel_rfl) (by kernel_rfl) (by kernel_rfl) (fun _ _ _ h => h) (Or.inl ⟨by rfl, fun w => by go_simp⟩) ?_
    simp only [Act.put, List.getElem_toArray, List.getElem_cons_succ, List.getElem_cons_zero, List.setIfInBounds_toArray, List.set_cons_succ, List.set_cons_zero]
    refine wpAny_take (i := 11) (v := .slice A 20 c) rfl (by kernel_rfl) (by kernel_rfl) (by kernel_rfl) (fun _ _ _ h => h) (Or.inl ⟨by rfl, fun w => by go_simp⟩) ?_
    simp only [Act.put, List.getElem_toArray, List.getElem_cons_succ, List.getElem_cons_zero, List.setIfInBounds_toArray, List.set_cons_succ, List.set_cons_zero]
    refine wpAny_take (i := 12) (v := .int .i64 (m : Int)) rfl (by kernel_rfl) (by kernel_rfl) (by kernel_rfl) (fun _ _ _ h => h) (Or.inl ⟨by rfl, fun w => by go_simp⟩) ?_
    simp only [Act.put, List.getElem_toArray, List.getElem_cons_succ, List.getElem_cons_zero, List.setIfInBounds_toArray, List.set_cons_succ, List.set_cons_zero]
    refine wpAny_take (i := 13) (v := .slice A m c) rfl (by kernel_rfl) (by kernel_rfl) (by kernel_rfl) (fun _ _ _ h => h) (Or.inl ⟨by rfl, fun w => by go_simp⟩) ?_
    simp only [Act.put, List.getElem_toArray, List.getElem_cons_succ, List.getElem_cons_zero, List.setIfInBounds_toArray, List.set_cons_succ, List.set_cons_zero]
    refine wpAny_ready (rs := [10]) (by kernel_rfl) (by simp) ?_
    refine AllReady.cons rfl (fun K hK => ?_) AllReady.nil
    go_simp
    go_wp2_with (go_at_call 13; refine (Write_any y hy _).mono ?_; rintro e w7 ⟨v7, rfl, hown7, hb7⟩; obtain ⟨A7, c7, rfl⟩ := own_form hown7)
    have hsm7 := (hsm.below hB6 (Nat.le_refl _)).drew.below hb7 (Nat.le_refl _)
    have hB7 := hB6.drew.trans (hb7.mono hB6.size)
    refine wpAny_ready (rs := [14]) (by kernel_rfl) (by simp) ?_
    refine AllReady.cons rfl (fun K hK => ?_) AllReady.nil
    go_simp
    go_wp2_with (go_at_call 15; refine (SameBytes_any _ _ _ _ _ _ _ _ _ (by exact sees_own hown7) (by exact hsm7)).mono ?_; rw [eqL_self]; rintro e w8 ⟨rfl, hb8⟩)
    refine wpAny_take (i := 15) (v := .bool true) rfl (by kernel_rfl) (by kernel_rfl) (by kernel_rfl) (fun _ _ _ h => h) (Or.inl ⟨by rfl, fun w => by go_simp⟩) ?_
    simp only [Act.put, List.getElem_toArray, List.getElem_cons_succ, List.getElem_cons_zero, List.setIfInBounds_toArray, List.set_cons_succ, List.set_cons_zero]
    refine wpAny_take (i := 16) (v := .bool true) rfl (by kernel_rfl) (by kernel_rfl) (by kernel_rfl) (fun _ _ _ h => h) (Or.inl ⟨by rfl, fun w => by go_simp⟩) ?_
    simp only [Act.put, List.getElem_toArray, List.getElem_cons_succ, List.getElem_cons_zero, List.setIfInBounds_toArray, List.set_cons_succ, List.set_cons_zero]
    refine wpAny_done (by kernel_rfl) ?_ _
    go_wp2
    go_ret
    exact ⟨rfl, hB7.trans (hb8.mono hB7.size)⟩

theorem VarintOne_any (x : Nat) (A : Option Addr) (n c : Nat) (l0 : List Int) (w : World) (hx : x < 18446744073709551616) (h : Sees w 1 A n c (l0.map (Value.int .u8))) (hl0 : Bytes l0) :
    Calls Try.prog 6 #[.int .u64 (x : Int), .slice A n c] w fun e w' => e = .returned (.bool true) ∧ Below w.heap.size w w' := by
  have hlen := h.length
  rcases rd_cases (hl0.take (min n 20)) with ⟨f, hf, hrl⟩ | ⟨y, m, hrl, m1, m2, hy, hym⟩
  · exact VarintOne_err x A n c l0 w hx h hl0 f hf hrl
  · exact VarintOne_ok x A n c l0 w hx h hl0 y m hrl m1 (by rw [List.length_take] at m2; omega) hy hym
end Go.Proofs.Ytckklmepncibkaa
