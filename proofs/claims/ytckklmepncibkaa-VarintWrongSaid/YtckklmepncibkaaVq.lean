/- Walks: VarintOne. -/
import Derived.Test.YtckklmepncibkaaProg
import Derived.Test.YtckklmepncibkaaVl
import Derived.Test.YtckklmepncibkaaVn
import Derived.Deep.RegionWith
namespace Go.Proofs.Ytckklmepncibkaa
open Go.RowKit
set_option linter.unusedVariables false

theorem Bytes.take {l : List Int} (h : Bytes l) (k : Nat) : Bytes (l.take k) := fun x hx => h x (List.mem_of_mem_take hx)
theorem Bytes.app {l m : List Int} (h : Bytes l) (h2 : Bytes m) : Bytes (l ++ m) := fun x hx => (List.mem_append.1 hx).elim (h x) (h2 x)
/-- What comes of reading: an error, or a number and its form. -/
theorem rd_cases {l : List Int} (hl : Bytes l) : (∃ f, (f = 10 ∨ f = 11 ∨ f = 12) ∧ rd l = (0, 0, f)) ∨ (∃ y m : Nat, rd l = ((y : Int), (m : Int), 0) ∧ 1 ≤ m ∧ m ≤ l.length ∧ y < 18446744073709551616 ∧ enc y = l.take m) := by
  by_cases hf : (rd l).2.2 = 0
  · obtain ⟨y, m, e1, e2, e3, e4⟩ := rd_form hl hf
    obtain ⟨_, _, _, _, _, b1, b2⟩ := rd_ok hl hf
    rw [e1] at b1 b2
    exact .inr ⟨y, m, e1, e2, e3, by simp only at b2; omega, e4⟩
  · obtain ⟨e1, e2, e3, e4⟩ := rd_err l hf
    exact .inl ⟨(rd l).2.2, by omega, Prod.ext e1 (Prod.ext e2 rfl)⟩
set_option maxRecDepth 20000 in
set_option maxHeartbeats 1600000 in
theorem VarintOne_err (x : Nat) (A : Option Addr) (n c : Nat) (l0 : List Int) (w : World) (hx : x < 18446744073709551616) (h : Sees w 1 A n c (l0.map (Value.int .u8))) (hl0 : Bytes l0) (f : Int) (hf : f = 10 ∨ f = 11 ∨ f = 12) (hrl0 : rd (l0.take (min n 20)) = (0, 0, f)) :
    Calls Try.prog 6 #[.int .u64 (x : Int), .slice A n c] w fun e w' => e = .returned (.bool true) ∧ Below w.heap.size w w' := by
  obtain ⟨na, hna⟩ : ∃ n, (enc x).length = n := ⟨_, rfl⟩
  have a1 : 1 ≤ na := hna ▸ enc_pos x
  have a2 : na ≤ 10 := hna ▸ enc_len x
  have hncap := h.cap
  have hcm := h.capm
  obtain ⟨k, hk1, hk2, _, hk3⟩ := min_is n 20
  have hkm : min n 20 = k := by omega
  rw [hkm] at hrl0
  have hs := h.pre hk1
  rw [Nat.mul_one, ← List.map_take] at hs
  have hl := hl0.take k
  generalize l0.take k = l at hs hl hrl0
  have hsee := hs
  clear hs h hl0
  have hcut := fun w => run_cutr E_u8 A n c k (by omega) w
  have hrd := rd_enc hx l
  have hfit : rd (enc x ++ l) = ((x : Int), (na : Int), 0) := by rw [hrd, hna]
  have HRL := Lib.hid hrl0
  have HNA := Lib.hid hna
  have HRD := Lib.hid hfit
  have HL := Lib.hid hsee.length
  clear hna hrd hfit hrl0
  rcases hk3 with ⟨hc1, rfl⟩ | ⟨hc1, rfl⟩
  all_goals rcases hf with rfl | rfl | rfl
  all_goals (
    go_enter Try.func6, Try.ntmps6
    go_wp2_with (first
      | (go_at_call 12; refine (awake_any _).mono ?_; rintro e w1 ⟨rfl, hb1⟩; have hB := hb1; clear hb1)
      | (go_at_call 13; refine (Write_any x hx _).mono ?_; rw [HNA.out]; rintro e w2 ⟨v2, rfl, hown2, hb2⟩; obtain ⟨A2, c2, rfl⟩ := own_form hown2; have hS2 := (sees_own hown2).pre3 (Nat.le_refl _); rw [Nat.mul_one, List.take_of_length_le (by simp [HNA.out])] at hS2; have hcut3 := fun w => run_cut3 E_u8 A2 na c2 na (sees_own hown2).cap w; have hB2 := below_step hB hb2)
      | (go_at_call 19; refine (Size_any x hx _).mono ?_; rw [HNA.out]; rintro e w3 ⟨rfl, hb3⟩)
      | (at_builtin; refine wpList_appV E_u8 rfl _ _ rfl rfl (hS2.below hb3 (Nat.le_refl _)) rfl (hsee.below (below_step hB2 hb3) (Nat.le_refl _)) (ints1 _ _) (by simp [maxLen]; omega) (by omega) ?_; intro A4 c4 w4 hS4 hb4; have hB4 := below_step (below_step hB2 hb3) hb4; rw [← List.map_append] at hS4)
      | (go_at_call 14; refine (Read_any _ _ _ _ _ (by first | exact hS4 | exact hsee.below hB5 (Nat.le_refl _)) (by first | exact (enc_bytes x).app hl | exact hl)).mono ?_; (first
          | (rw [HRD.out]; rintro e w5 ⟨rfl, hb5⟩; have hB5 := below_step hB4 hb5)
          | (rw [HRL.out]; rintro e w6 ⟨rfl, hb6⟩; have hB6 := below_step hB5 hb6))))
    go_ret
    exact ⟨rfl, hB6⟩)

end Go.Proofs.Ytckklmepncibkaa
