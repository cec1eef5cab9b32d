/- Walks: VarintWrong, way 2. -/
import Derived.Test.YtckklmepncibkaaProg
import Derived.Test.YtckklmepncibkaaVt
namespace Go.Proofs.Ytckklmepncibkaa
open Go.RowKit
set_option linter.unusedVariables false

set_option maxRecDepth 20000 in
set_option maxHeartbeats 1600000 in
theorem VarintWrong_2 (x : Nat) (A : Option Addr) (n c : Nat) (l0 : List Nat) (way n8 : Nat) (w : World) (hx : x < 18446744073709551616) (h : Sees w 1 A n c ((l0.map Int.ofNat).map (Value.int .u64))) (hl0 : ∀ x ∈ l0, x < 18446744073709551616)
    (hway : way < 256) (hn8 : n8 < 256) (hw : way % 4 = 2) :
    Calls Try.prog 9 #[.int .u64 (x : Int), .slice A n c, .int .u8 (way : Int), .int .u8 (n8 : Int)] w fun e w' => e = .returned (.bool true) ∧ Below w.heap.size w w' := by
  obtain ⟨kl, hl1, hl2, _, hl3⟩ := min_is n 20
  have hsA := h.pre hl1
  rw [Nat.mul_one, ← List.map_take, ← List.map_take] at hsA
  have hl : ∀ x ∈ l0.take kl, x < 18446744073709551616 := fun x hx => hl0 x (List.mem_of_mem_take hx)
  have hcA := h.cap
  generalize l0.take kl = l at hsA hl
  have hcutA := fun w => run_cutr E_u64 A n c kl (Nat.le_trans hl1 hcA) w
  obtain ⟨N, hN⟩ : ∃ N, (encAll l).length = N := ⟨_, rfl⟩
  have hNb : N ≤ 200 := by have := encAll_len l; have := hsA.length; simp at this; omega
  have HN := Lib.hid hN
  obtain ⟨na, hna⟩ : ∃ m, (enc x).length = m := ⟨_, rfl⟩
  have a1 : 1 ≤ na := hna ▸ enc_pos x
  have a2 : na ≤ 10 := hna ▸ enc_len x
  have HNA := Lib.hid hna
  have hmin : (if 20 < (n : Int) then (20 : Int) else (n : Int)) = (kl : Int) := by split <;> omega
  clear h hl0 hN hna
  have hw1 : (way : Int) % 4 = 2 := by omega
  obtain ⟨p, rfl⟩ : ∃ p, na = p + 1 := ⟨na - 1, by omega⟩
  have hyb := (enc_bytes x).at_ (show p < (enc x).length by rw [HNA.out]; omega)
  obtain ⟨y, hy⟩ : ∃ y, (enc x).getD p 0 = y := ⟨_, rfl⟩
  rw [hy] at hyb
  have hbit := hi8_bits y hyb.1 hyb.2
  have hyr := hi8_in y hyb.1 hyb.2
  generalize hi8 y = z at hbit hyr
  have HY := Lib.hid hy
  clear hy
  have hons : Ons ((enc x).set p z) := by
    have := Ons.step (l := enc x) (k := p) (by rw [HNA.out]; omega) (enc_ons x p (by rw [HNA.out])) z hyr.1 hyr.2
    rwa [List.take_of_length_le (by rw [List.length_set, HNA.out]; omega)] at this
  have hbz : Bytes ((enc x).set p z ++ [0]) := ((enc_bytes x).set p z (by omega) (by omega)).app (by intro b hb; simp at hb; omega)
  have hrd : p + 1 ≤ 9 → rd ((enc x).set p z ++ [0]) = (0, 0, 12) := fun h9 => rd_zero hons (by rw [List.length_set, HNA.out]; omega) (by rw [List.length_set, HNA.out]; omega) []
  have hra : p + 1 ≤ 9 → rdAll (encAll l ++ ((enc x).set p z ++ [0])) = ([], 12) := fun h9 => by rw [rdAll_bad (by simp) (by rw [hrd h9]; decide) hl, hrd h9]
  clear hons
  by_cases h10 : p + 1 = 10
  · obtain rfl : p = 9 := by omega
    clear hrd hra
    go_enter Try.func9, Try.ntmps9
    go_wp2_with (first
      | (go_at_call 12; refine (awake_any _).mono ?_; rintro e w1 ⟨rfl, hb1⟩; have hB1 := hb1; clear hb1)
      | (go_at_call 13; refine (Write_any x hx _).mono ?_; rw [HNA.out]; rintro e w2 ⟨v2, rfl, hown2, hb2⟩; obtain ⟨g, c2, rfl, hg⟩ := own_addr hown2 (by omega); have hB2 := below_step hB1 hb2; have hsz := hb2.size; clear hb2; obtain ⟨g1, g2⟩ := own_cell hown2 (show 9 < 9 + 1 by omega); rw [HY.out] at g1; have hset := own_set hown2 9 z; have hB3 := hB2.setCell (p := ⟨g, 9, none⟩) (Nat.le_trans hB1.size hg) (.int .u8 z)))
    go_ret
    exact ⟨rfl, hB3⟩
  · have hne : ((p : Int) + 1 == 10) = false := by simp; omega
    have HRD := Lib.hid (hrd (by omega))
    have HRA := Lib.hid (hra (by omega))
    clear hrd hra
    go_enter Try.func9, Try.ntmps9
    go_wp2_with (first
      | (go_at_call 12; refine (awake_any _).mono ?_; rintro e w1 ⟨rfl, hb1⟩; have hB1 := hb1; clear hb1)
      | (go_at_call 13; refine (Write_any x hx _).mono ?_; rw [HNA.out]; rintro e w2 ⟨v2, rfl, hown2, hb2⟩; obtain ⟨g, c2, rfl, hg⟩ := own_addr hown2 (by omega); have hB2 := below_step hB1 hb2; have hsz := hb2.size; clear hb2; obtain ⟨g1, g2⟩ := own_cell hown2 (show p < p + 1 by omega); rw [HY.out] at g1; have hset := own_set hown2 p z; have hB3 := hB2.setCell (p := ⟨g, p, none⟩) (Nat.le_trans hB1.size hg) (.int .u8 z))
      | (at_builtin; refine wpList_app E_u8 rfl _ _ rfl rfl (hset.alloc _) rfl (Sees.one_at (.int .u8 0) _ (by simp [World.setCell])) (one1 (u := .int .u8 0) rfl) (by simp [maxLen]; omega) (by omega) (by simp [World.setCell]; omega) ?_; intro A4 c4 w4 hown4 hg4 hb4; have hS4 : Sees w4 1 A4 (p + 1 + 1) c4 (((enc x).set p z ++ [0]).map (Value.int .u8)) := (by rw [List.map_append]; exact sees_own hown4); have hB4 : Below w.heap.size w w4 := (hB3.alloc hB3.size _).trans (hb4.mono hB1.size))
      | (go_at_call 14; obtain ⟨hform, hBf⟩ := And.intro hS4 hB4; refine (Read_any _ _ _ ((enc x).set p z ++ [0]) _ (by exact hform) hbz).mono ?_; rw [HRD.out]; rintro e w5 ⟨rfl, hb5⟩; have hB5 := below_step hBf hb5)
          | (go_at_call 23; refine (WriteAll_any _ _ _ l _ (by exact hsA.below hB5 (Nat.le_refl _)) hl (by omega)).mono ?_; rw [HN.out]; rintro e w6 ⟨v6, rfl, hown6, hb6⟩; obtain ⟨A6, c6, rfl⟩ := own_form hown6; have hB6 := below_step hB5 hb6)
          | (at_builtin; refine wpList_app E_u8 rfl _ _ rfl rfl hown6 rfl (hform.below (below_step hb5 hb6) (Nat.le_refl _)) (ints1 _ _) (by simp [maxLen]; omega) (by omega) hb6.size ?_; intro A7 c7 w7 hown7 hg7 hb7; rw [← List.map_append] at hown7; have hB7 := hB6.trans (hb7.mono hB5.size))
          | (go_at_call 22; refine (ReadAll_any _ _ _ (encAll l ++ ((enc x).set p z ++ [0])) _ (by exact sees_own hown7) ((encAll_bytes l).app hbz) (by omega)).mono ?_; simp only [HRA.out]; rintro e w8 ⟨v8, rfl, hown8, hb8⟩; obtain ⟨A8, c8, rfl⟩ := own_form hown8; have hB8 := below_step hB7 hb8))
    go_ret
    exact ⟨rfl, hB8⟩

end Go.Proofs.Ytckklmepncibkaa
