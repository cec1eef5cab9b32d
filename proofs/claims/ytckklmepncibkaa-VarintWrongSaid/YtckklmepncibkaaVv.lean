/- Walks: VarintWrong, way 1. -/
import Derived.Test.YtckklmepncibkaaProg
import Derived.Test.YtckklmepncibkaaVt
namespace Go.Proofs.Ytckklmepncibkaa
open Go.RowKit
set_option linter.unusedVariables false

set_option maxRecDepth 20000 in
set_option maxHeartbeats 1600000 in
theorem VarintWrong_1 (x : Nat) (A : Option Addr) (n c : Nat) (l0 : List Nat) (way n8 : Nat) (w : World) (hx : x < 18446744073709551616) (h : Sees w 1 A n c ((l0.map Int.ofNat).map (Value.int .u64))) (hl0 : ∀ x ∈ l0, x < 18446744073709551616)
    (hway : way < 256) (hn8 : n8 < 256) (hw : way % 4 = 1) :
    Calls Try.prog 9 #[.int .u64 (x : Int), .slice A n c, .int .u8 (way : Int), .int .u8 (n8 : Int)] w fun e w' => e = .returned (.bool true) ∧ Below w.heap.size w w' := by
  obtain ⟨kl, hl1, hl2, _, hl3⟩ := min_is n 20
  have hsA := h.pre hl1
  rw [Nat.mul_one, ← List.map_take, ← List.map_take] at hsA
  have hl : ∀ x ∈ l0.take kl, x < 18446744073709551616 := fun x hx => hl0 x (List.mem_of_mem_take hx)
  have hcA := h.cap
  generalize l0.take kl = l at hsA hl
  have hcutA := fun w => run_cutr E_u64 A n c kl (Nat.le_trans hl1 hcA) w
  obtain ⟨N, hN⟩ : ∃ N, (encAll l).length = N := ⟨_, rfl⟩
  have hNb : N ≤ 200 := by have := encAll_len l; have := hsA.length; simp at this; omega
  have HN := Lib.hid hN
  obtain ⟨na, hna⟩ : ∃ m, (enc x).length = m := ⟨_, rfl⟩
  have a1 : 1 ≤ na := hna ▸ enc_pos x
  have a2 : na ≤ 10 := hna ▸ enc_len x
  have HNA := Lib.hid hna
  have hmin : (if 20 < (n : Int) then (20 : Int) else (n : Int)) = (kl : Int) := by split <;> omega
  clear h hl0 hN hna
  have hw1 : (way : Int) % 4 = 1 := by omega
  have hlenx : (enc x).length = na := HNA.out
  have HLX := Lib.hid hlenx
  clear hlenx
  go_enter Try.func9, Try.ntmps9
  go_wp2_with (first
    | (go_at_call 12; refine (awake_any _).mono ?_; rintro e w1 ⟨rfl, hb1⟩; have hB1 := hb1; clear hb1)
    | (go_at_call 13; refine (Write_any x hx _).mono ?_; rw [HNA.out]; rintro e w2 ⟨v2, rfl, hown2, hb2⟩; obtain ⟨g, c2, rfl, hg⟩ := own_addr hown2 (by omega); have hB2 := below_step hB1 hb2; clear hb2))
  go_loopw [47] (fun i wr => ∃ (k : Nat) (ys : List Int), k ≤ na ∧ i = .int .i64 k ∧ wr.ownsRow w1.heap.size 5 1 (.slice (some ⟨g, 0, none⟩) na c2) na (ys.map (Value.int .u8)) ∧ Below w.heap.size w wr ∧ Hid (Ons (ys.take k) ∧ Bytes ys)) (fun i _ => na - (intOf i).toNat)
  case atStart => exact ⟨0, enc x, by omega, rfl, hown2, hB2, Lib.hid ⟨by intro b hb; simp at hb, enc_bytes x⟩⟩
  case round =>
    obtain ⟨k, ys, hk, rfl, ho, hb, HO⟩ := hrel
    have hyl : ys.length = na := by have := ho.1; simpa using this
    by_cases hlt : k < na
    · obtain ⟨g1, g2⟩ := own_cell ho hlt
      have hyb := HO.out.2.at_ (show k < ys.length by omega)
      have HB := Lib.hid (Ons.step (show k < ys.length by omega) HO.out.1 (hi8 (ys.getD k 0)) (hi8_in _ hyb.1 hyb.2).1 (hi8_in _ hyb.1 hyb.2).2)
      have hset := own_set ho k (hi8 (ys.getD k 0))
      have hbit := hi8_bits (ys.getD k 0) hyb.1 hyb.2
      have hyr := hi8_in _ hyb.1 hyb.2
      have HBY := Lib.hid (HO.out.2.set k (hi8 (ys.getD k 0)) (by omega) (by omega))
      have HYL := Lib.hid hyl
      clear hyl
      generalize hi8 (ys.getD k 0) = z at HB hset hbit hyr HBY
      generalize ys.getD k 0 = y at g1 hbit hyb
      go_wp2
      go_roundw
      case rel => exact ⟨k + 1, ys.set k z, by omega, by go_num, hset, hb.setCell (by simp; exact Nat.le_trans hB1.size hg) _, Lib.hid ⟨HB.out, HBY.out⟩⟩
      case measure => simp [intOf]; omega
    · obtain rfl : k = na := by omega
      have hons : Ons ys := by have := HO.out.1; rwa [List.take_of_length_le (by omega)] at this
      have hbz := HO.out.2
      have hSf := sees_own ho
      clear HO hown2 hB2 hlt hk
      by_cases h10 : k = 10
      · subst h10
        have hrd : rd ys = (0, 0, 11) := by
          have hm : 1 < ys.getD 9 0 := by
            have := hons (ys.getD 9 0) (by rw [List.getD, List.getElem?_eq_getElem (by omega)]; exact List.getElem_mem _)
            omega
          have h1 := take_one (a := ys) (k := 9) (by omega)
          rw [List.take_of_length_le (by omega)] at h1
          rw [h1]
          exact rd_over (fun b hb => hons b (List.mem_of_mem_take hb)) (by rw [List.length_take]; omega) hm []
        have hra : rdAll (encAll l ++ ys) = ([], 11) := by rw [rdAll_bad (by intro e; rw [e] at hyl; simp at hyl) (by rw [hrd]; decide) hl, hrd]
        have HRD := Lib.hid hrd
        have HRA := Lib.hid hra
        clear hrd hra hyl hons
        go_wp2_with (first
          | (go_at_call 14; obtain ⟨hform, hBf⟩ := And.intro hSf hb; refine (Read_any _ _ _ (ys) _ (by exact hform) hbz).mono ?_; rw [HRD.out]; rintro e w5 ⟨rfl, hb5⟩; have hB5 := below_step hBf hb5)
          | (go_at_call 23; refine (WriteAll_any _ _ _ l _ (by exact hsA.below hB5 (Nat.le_refl _)) hl (by omega)).mono ?_; rw [HN.out]; rintro e w6 ⟨v6, rfl, hown6, hb6⟩; obtain ⟨A6, c6, rfl⟩ := own_form hown6; have hB6 := below_step hB5 hb6)
          | (at_builtin; refine wpList_app E_u8 rfl _ _ rfl rfl hown6 rfl (hform.below (below_step hb5 hb6) (Nat.le_refl _)) (ints1 _ _) (by simp [maxLen]; omega) (by omega) hb6.size ?_; intro A7 c7 w7 hown7 hg7 hb7; rw [← List.map_append] at hown7; have hB7 := hB6.trans (hb7.mono hB5.size))
          | (go_at_call 22; refine (ReadAll_any _ _ _ (encAll l ++ (ys)) _ (by exact sees_own hown7) ((encAll_bytes l).app hbz) (by omega)).mono ?_; simp only [HRA.out]; rintro e w8 ⟨v8, rfl, hown8, hb8⟩; obtain ⟨A8, c8, rfl⟩ := own_form hown8; have hB8 := below_step hB7 hb8))
        go_ret
        exact ⟨rfl, hB8⟩
      · have hrd : rd ys = (0, 0, 10) := rd_short hons (by omega)
        have hra : rdAll (encAll l ++ ys) = ([], 10) := by rw [rdAll_bad (by intro e; rw [e] at hyl; simp at hyl; omega) (by rw [hrd]; decide) hl, hrd]
        have HRD := Lib.hid hrd
        have HRA := Lib.hid hra
        have hne : ((k : Int) == 10) = false := by simp; omega
        clear hrd hra hyl hons
        go_wp2_with (first
          | (go_at_call 14; obtain ⟨hform, hBf⟩ := And.intro hSf hb; refine (Read_any _ _ _ (ys) _ (by exact hform) hbz).mono ?_; rw [HRD.out]; rintro e w5 ⟨rfl, hb5⟩; have hB5 := below_step hBf hb5)
          | (go_at_call 23; refine (WriteAll_any _ _ _ l _ (by exact hsA.below hB5 (Nat.le_refl _)) hl (by omega)).mono ?_; rw [HN.out]; rintro e w6 ⟨v6, rfl, hown6, hb6⟩; obtain ⟨A6, c6, rfl⟩ := own_form hown6; have hB6 := below_step hB5 hb6)
          | (at_builtin; refine wpList_app E_u8 rfl _ _ rfl rfl hown6 rfl (hform.below (below_step hb5 hb6) (Nat.le_refl _)) (ints1 _ _) (by simp [maxLen]; omega) (by omega) hb6.size ?_; intro A7 c7 w7 hown7 hg7 hb7; rw [← List.map_append] at hown7; have hB7 := hB6.trans (hb7.mono hB5.size))
          | (go_at_call 22; refine (ReadAll_any _ _ _ (encAll l ++ (ys)) _ (by exact sees_own hown7) ((encAll_bytes l).app hbz) (by omega)).mono ?_; simp only [HRA.out]; rintro e w8 ⟨v8, rfl, hown8, hb8⟩; obtain ⟨A8, c8, rfl⟩ := own_form hown8; have hB8 := below_step hB7 hb8))
        go_ret
        exact ⟨rfl, hB8⟩

end Go.Proofs.Ytckklmepncibkaa
