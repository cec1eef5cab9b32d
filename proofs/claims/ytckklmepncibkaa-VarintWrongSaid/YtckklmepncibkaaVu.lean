/- Walks: VarintWrong, way 0. -/
import Derived.Test.YtckklmepncibkaaProg
import Derived.Test.YtckklmepncibkaaVt
namespace Go.Proofs.Ytckklmepncibkaa
open Go.RowKit
set_option linter.unusedVariables false

set_option maxRecDepth 20000 in
set_option maxHeartbeats 1600000 in
theorem VarintWrong_0 (x : Nat) (A : Option Addr) (n c : Nat) (l0 : List Nat) (way n8 : Nat) (w : World) (hx : x < 18446744073709551616) (h : Sees w 1 A n c ((l0.map Int.ofNat).map (Value.int .u64))) (hl0 : ∀ x ∈ l0, x < 18446744073709551616)
    (hway : way < 256) (hn8 : n8 < 256) (hw : way % 4 = 0) :
    Calls Try.prog 9 #[.int .u64 (x : Int), .slice A n c, .int .u8 (way : Int), .int .u8 (n8 : Int)] w fun e w' => e = .returned (.bool true) ∧ Below w.heap.size w w' := by
  obtain ⟨kl, hl1, hl2, _, hl3⟩ := min_is n 20
  have hsA := h.pre hl1
  rw [Nat.mul_one, ← List.map_take, ← List.map_take] at hsA
  have hl : ∀ x ∈ l0.take kl, x < 18446744073709551616 := fun x hx => hl0 x (List.mem_of_mem_take hx)
  have hcA := h.cap
  generalize l0.take kl = l at hsA hl
  have hcutA := fun w => run_cutr E_u64 A n c kl (Nat.le_trans hl1 hcA) w
  obtain ⟨N, hN⟩ : ∃ N, (encAll l).length = N := ⟨_, rfl⟩
  have hNb : N ≤ 200 := by have := encAll_len l; have := hsA.length; simp at this; omega
  have HN := Lib.hid hN
  obtain ⟨na, hna⟩ : ∃ m, (enc x).length = m := ⟨_, rfl⟩
  have a1 : 1 ≤ na := hna ▸ enc_pos x
  have a2 : na ≤ 10 := hna ▸ enc_len x
  have HNA := Lib.hid hna
  have hmin : (if 20 < (n : Int) then (20 : Int) else (n : Int)) = (kl : Int) := by split <;> omega
  clear h hl0 hN hna
  have hw1 : (way : Int) % 4 = 0 := by omega
  obtain ⟨q, hq⟩ : ∃ q, n8 % na = q := ⟨_, rfl⟩
  have hqlt : q < na := hq ▸ Nat.mod_lt _ (by omega)
  have hq1 : (n8 : Int) % (na : Int) = (q : Int) := by rw [← hq]; rfl
  have hq2 : Int.tmod (n8 : Int) (na : Int) = (q : Int) := by rw [← hq]; rfl
  clear hq
  by_cases h0 : q = 0
  · subst h0
    have hbit := hi8_bits' (n8 : Int) (by omega) (by omega)
    have hy := hi8_in (n8 : Int) (by omega) (by omega)
    generalize hi8 (n8 : Int) = y at hbit hy
    have hrd : rd [y] = (0, 0, 10) := rd_short (l := [y]) (by intro b hb; simp at hb; omega) (by simp)
    have hra : rdAll (encAll l ++ [y]) = ([], 10) := by rw [rdAll_bad (by simp) (by rw [hrd]; decide) hl, hrd]
    have hbz : Bytes [y] := fun b hb => by simp at hb; omega
    have HRD := Lib.hid hrd
    have HRA := Lib.hid hra
    clear hrd hra
    have hlit : ∀ w2 : World, Below w.heap.size w w2 → Sees (w2.alloc (.cells #[.int .u8 y] 5)) 1 (some ⟨w2.heap.size, 0, none⟩) 1 1 (([y] : List Int).map (Value.int .u8)) ∧ Below w.heap.size w (w2.alloc (.cells #[.int .u8 y] 5)) := fun w2 hb => ⟨Sees.one _ _ _, hb.alloc hb.size _⟩
    go_enter Try.func9, Try.ntmps9
    go_wp2_with (first
    | (go_at_call 12; refine (awake_any _).mono ?_; rintro e w1 ⟨rfl, hb1⟩; have hB1 := hb1; clear hb1)
    | (go_at_call 13; refine (Write_any x hx _).mono ?_; rw [HNA.out]; rintro e w2 ⟨v2, rfl, hown2, hb2⟩; obtain ⟨A2, c2, rfl⟩ := own_form hown2; have hB2 := below_step hB1 hb2; clear hb2; have hcutF := fun w => run_cutr E_u8 A2 na c2 0 (Nat.zero_le _) w)
    | (go_at_call 14; obtain ⟨hform, hBf⟩ := hlit w2 hB2; refine (Read_any _ _ _ ([y]) _ (by exact hform) hbz).mono ?_; rw [HRD.out]; rintro e w5 ⟨rfl, hb5⟩; have hB5 := below_step hBf hb5)
          | (go_at_call 23; refine (WriteAll_any _ _ _ l _ (by exact hsA.below hB5 (Nat.le_refl _)) hl (by omega)).mono ?_; rw [HN.out]; rintro e w6 ⟨v6, rfl, hown6, hb6⟩; obtain ⟨A6, c6, rfl⟩ := own_form hown6; have hB6 := below_step hB5 hb6)
          | (at_builtin; refine wpList_app E_u8 rfl _ _ rfl rfl hown6 rfl (hform.below (below_step hb5 hb6) (Nat.le_refl _)) (ints1 _ _) (by simp [maxLen]; omega) (by omega) hb6.size ?_; intro A7 c7 w7 hown7 hg7 hb7; rw [← List.map_append] at hown7; have hB7 := hB6.trans (hb7.mono hB5.size))
          | (go_at_call 22; refine (ReadAll_any _ _ _ (encAll l ++ ([y])) _ (by exact sees_own hown7) ((encAll_bytes l).app hbz) (by omega)).mono ?_; simp only [HRA.out]; rintro e w8 ⟨v8, rfl, hown8, hb8⟩; obtain ⟨A8, c8, rfl⟩ := own_form hown8; have hB8 := below_step hB7 hb8))
    go_ret
    exact ⟨rfl, hB8⟩
  · have hrd := rd_cut hx (show q < (enc x).length by rw [HNA.out]; exact hqlt)
    have hlen : ((enc x).take q).length = q := by rw [List.length_take, HNA.out]; omega
    have hra : rdAll (encAll l ++ (enc x).take q) = ([], 10) := by rw [rdAll_bad (by intro e; rw [e] at hlen; simp at hlen; omega) (by rw [hrd]; decide) hl, hrd]
    have hbz : Bytes ((enc x).take q) := (enc_bytes x).take q
    have HRD := Lib.hid hrd
    have HRA := Lib.hid hra
    have hne : ((q : Int) == 0) = false := by simp; omega
    clear hrd hra hlen
    go_enter Try.func9, Try.ntmps9
    go_wp2_with (first
    | (go_at_call 12; refine (awake_any _).mono ?_; rintro e w1 ⟨rfl, hb1⟩; have hB1 := hb1; clear hb1)
    | (go_at_call 13; refine (Write_any x hx _).mono ?_; rw [HNA.out]; rintro e w2 ⟨v2, rfl, hown2, hb2⟩; obtain ⟨A2, c2, rfl⟩ := own_form hown2; have hB2 := below_step hB1 hb2; clear hb2; have hcutF := fun w => run_cutr E_u8 A2 na c2 q (Nat.le_trans (Nat.le_of_lt hqlt) (sees_own hown2).cap) w; have hpre := (sees_own hown2).pre (Nat.le_of_lt hqlt); rw [Nat.mul_one, ← List.map_take] at hpre)
    | (go_at_call 14; obtain ⟨hform, hBf⟩ := And.intro hpre hB2; refine (Read_any _ _ _ ((enc x).take q) _ (by exact hform) hbz).mono ?_; rw [HRD.out]; rintro e w5 ⟨rfl, hb5⟩; have hB5 := below_step hBf hb5)
          | (go_at_call 23; refine (WriteAll_any _ _ _ l _ (by exact hsA.below hB5 (Nat.le_refl _)) hl (by omega)).mono ?_; rw [HN.out]; rintro e w6 ⟨v6, rfl, hown6, hb6⟩; obtain ⟨A6, c6, rfl⟩ := own_form hown6; have hB6 := below_step hB5 hb6)
          | (at_builtin; refine wpList_app E_u8 rfl _ _ rfl rfl hown6 rfl (hform.below (below_step hb5 hb6) (Nat.le_refl _)) (ints1 _ _) (by simp [maxLen]; omega) (by omega) hb6.size ?_; intro A7 c7 w7 hown7 hg7 hb7; rw [← List.map_append] at hown7; have hB7 := hB6.trans (hb7.mono hB5.size))
          | (go_at_call 22; refine (ReadAll_any _ _ _ (encAll l ++ ((enc x).take q)) _ (by exact sees_own hown7) ((encAll_bytes l).app hbz) (by omega)).mono ?_; simp only [HRA.out]; rintro e w8 ⟨v8, rfl, hown8, hb8⟩; obtain ⟨A8, c8, rfl⟩ := own_form hown8; have hB8 := below_step hB7 hb8))
    go_ret
    exact ⟨rfl, hB8⟩
end Go.Proofs.Ytckklmepncibkaa
