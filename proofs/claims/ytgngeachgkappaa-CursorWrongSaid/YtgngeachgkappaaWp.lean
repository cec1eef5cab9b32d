/- Walks: CursorWrong. -/
import Derived.Test.YtgngeachgkappaaProg
import Derived.Test.YtgngeachgkappaaWl
import Derived.Test.YtgngeachgkappaaWk
import Derived.Test.YtgngeachgkappaaWo
namespace Go.Proofs.Ytgngeachgkappaa
open Go.RowKit
set_option linter.unusedVariables false

theorem eqL_same {a b : List Int} (h : a = b) : eqL a b = true := by subst h; exact eqL_self a

set_option maxRecDepth 100000 in
set_option maxHeartbeats 3200000 in
theorem CursorWrong_any (A : Option Addr) (m0 c : Nat) (l : List Int) (n : Int) (w : World) (h : Sees w 1 A m0 c (l.map (Value.int .u8))) (hl : Bytes l) (hn : -9223372036854775808 ≤ n ∧ n ≤ 9223372036854775807) :
    Calls Try.prog 10 #[.slice A m0 c, .int .i64 n] w fun e w' => e = .returned (.bool true) ∧ Below w.heap.size w w' := by
  obtain ⟨m, hm0, hm20, hmin, hmc⟩ := min_is m0 100
  have hmi : (if (100 : Int) < (m0 : Int) then (100 : Int) else (m0 : Int)) = (m : Int) := by split <;> omega
  have hmi' : (if 100 < m0 then (100 : Int) else (m0 : Int)) = (m : Int) := by split <;> omega
  have hcut := fun w => run_cutr E_u8 A m0 c m (Nat.le_trans hm0 h.cap) w
  have hcut3 := fun w => run_cut3 E_u8 A m c m (Nat.le_trans hm0 h.cap) w
  have hs := h.pre hm0
  have hs3 := h.pre3 hm0
  rw [Nat.mul_one, ← List.map_take] at hs hs3
  have hb := (show Bytes (l.take m) from fun y hy => hl y (List.mem_of_mem_take hy))
  generalize l.take m = r at hs hs3 hb
  have HS := Lib.hid hs
  have HS3 := Lib.hid hs3
  have HB := Lib.hid hb
  have HK := Lib.hid hm20
  have HM8 : Hid (m ≤ 100000000) := Lib.hid (by omega)
  obtain ⟨N1, hN1, hN1b⟩ : ∃ N : Int, (if -1 < n then -1 else n) = N ∧ N < 0 := ⟨_, rfl, by split <;> omega⟩
  obtain ⟨N2, hN2, hN2b⟩ : ∃ N : Int, (if n < (m : Int) + 1 then (m : Int) + 1 else n) = N ∧ (m : Int) < N := ⟨_, rfl, by split <;> omega⟩
  obtain ⟨N3, hN3, hN3b⟩ : ∃ N : Int, (if 0 < n then 0 else n) = N ∧ N < 1 := ⟨_, rfl, by split <;> omega⟩
  obtain ⟨N4, hN4, hN4b⟩ : ∃ N : Int, (if n < 9 then 9 else n) = N ∧ 8 < N := ⟨_, rfl, by split <;> omega⟩
  obtain ⟨N5, hN5, hN5b⟩ : ∃ N : Int, (if n < 16777217 then 16777217 else n) = N ∧ 16777216 < N := ⟨_, rfl, by split <;> omega⟩
  have HN := Lib.hid (And.intro hN1b (And.intro hN2b (And.intro hN3b (And.intro hN4b hN5b))))
  have HR : Hid (rd (r.drop m) = (0, 0, 10)) := Lib.hid (by rw [List.drop_of_length_le (by rw [HS.out.length]; exact Nat.le_refl _)]; rfl)
  have HT : Hid ((r.drop 0).take m = r) := Lib.hid (by rw [List.drop_zero, List.take_of_length_le (by rw [HS.out.length]; exact Nat.le_refl _)])
  have HE : Hid ((if (0 : Nat) < m then (22 : Int) else 0) = 22 ↔ 0 < m) := Lib.hid (by split <;> simp_all)
  have hm2 : (m : Int) ≤ 100 := by omega
  clear hs hs3 hb h hl hm0 hm20 hmin hmc hN1b hN2b hN3b hN4b hN5b hn
  go_enter Try.func10, Try.ntmps10
  go_wp2_with (first
    | (go_at_call 32; refine (Count_bad _ _ _ _ _ _ _ _ _ h7.out (Or.inr (by exact HN.out.2.2.1))).mono ?_; rintro e w8 ⟨rfl, h8⟩; have b8 := b7.trans (h8.below hp b7.size); have h8 := Lib.hid h8.1)
    | (go_at_call 32; refine (Count_bad _ _ _ _ _ _ _ _ _ h6.out (Or.inl (by exact HN.out.1))).mono ?_; rintro e w7 ⟨rfl, h7⟩; have b7 := b6.trans (h7.below hp b6.size); have h7 := Lib.hid h7.1)
    | (go_at_call 28; refine (Fixed_bad _ _ _ _ _ _ _ _ h5.out (Or.inr (by exact HN.out.2.2.2.1))).mono ?_; rintro e w6 ⟨rfl, h6⟩; have b6 := b5.trans (h6.below hp b5.size); have h6 := Lib.hid h6.1)
    | (go_at_call 28; refine (Fixed_bad _ _ _ _ _ _ _ _ h4.out (Or.inl (by exact HN.out.2.2.1))).mono ?_; rintro e w5 ⟨rfl, h5⟩; have b5 := b4.trans (h5.below hp b4.size); have h5 := Lib.hid h5.1)
    | (go_at_call 29; refine (Bytes_end _ _ _ _ _ _ _ _ h3.out HM8.out (by have := HN.out.2.1; omega) (by have := HN.out.2.1; omega)).mono ?_; rintro e w4 ⟨rfl, h4⟩; have b4 := b3.trans (h4.below hp b3.size); have h4 := Lib.hid h4.1)
    | (go_at_call 29; refine (Bytes_neg _ _ _ _ _ _ _ _ h2.out (by exact HN.out.1)).mono ?_; rintro e w3 ⟨rfl, h3⟩; have b3 := b2.trans (h3.below hp b2.size); have h3 := Lib.hid h3.1)
    | (go_at_call 16; refine (NewReader_any _ _ _ r _ (by exact HS.out.below b1 (Nat.le_refl _)) HM8.out).mono ?_; rintro e w2 ⟨p, A2, c2, rfl, h2, hp2, k2⟩; have h2 := Lib.hid h2; have hp : w.heap.size ≤ p := Nat.le_trans b1.size hp2; have b2 := below_step b1 k2)
    | (go_at_call 11; refine (awake_any _).mono ?_; rintro e w1 ⟨rfl, b1⟩))
  obtain ⟨E, HEE, e0, e1, e2⟩ : ∃ E : Int, Hid ((if 0 < m then (22 : Int) else 0) = E) ∧ decide ((0 : Int) < (m : Int)) = (E == 22) ∧ decide (0 < m) = (E == 22) ∧ (E = 22 ∨ E = 0) := by
    by_cases hm : 0 < m
    · exact ⟨22, Lib.hid (if_pos hm), by simp; omega, by simp; omega, Or.inl rfl⟩
    · exact ⟨0, Lib.hid (if_neg hm), by simp; omega, by simp; omega, Or.inr rfl⟩
  rcases e2 with rfl | rfl
  all_goals
    simp only [Int.reduceBEq, beq_self_eq_true, show ((0 : Int) == 22) = false from rfl] at e0 e1
    go_wp2_with (first
      | (go_at_call 20; refine (End_any _ _ _ _ _ _ _ h10.out HM8.out).mono ?_; rw [HEE.out]; rintro e w11 ⟨rfl, k11⟩; have b11 := below_step b10 k11; have h11 := Lib.hid (h10.out.below k11))
      | (go_at_call 19; refine (Left_any _ _ _ _ _ _ _ h9.out HM8.out).mono ?_; rw [Nat.sub_zero]; rintro e w10 ⟨rfl, k10⟩; have b10 := below_step b9 k10; have h10 := Lib.hid (h9.out.below k10))
      | (go_at_call 18; refine (At_any _ _ _ _ _ _ _ h8.out).mono ?_; rintro e w9 ⟨rfl, k9⟩; have b9 := below_step b8 k9; have h9 := Lib.hid (h8.out.below k9)))
    clear e0 e1
    go_wp2_with (first
      | (go_at_call 20; refine (End_any _ _ _ _ _ _ _ h17.out HM8.out).mono ?_; rw [if_neg (Nat.lt_irrefl _)]; rintro e w18 ⟨rfl, k18⟩; have b18 := below_step b17 k18)
      | (go_at_call 30; refine (SameBytes_any _ _ _ _ _ _ r r _ (by exact s16.out) (by exact HS.out.below b16 (Nat.le_refl _))).mono ?_; rw [eqL_self]; rintro e w17 ⟨rfl, k17⟩; have b17 := below_step b16 k17; have h17 := Lib.hid (h16.out.below k17))
      | (go_at_call 29; refine (Bytes_lit _ _ _ _ 0 (by rfl) _ _ _ h15.out HM8.out (Nat.le_refl _)).mono ?_; rintro e w16 ⟨A16, c16, rfl, _, h16⟩; have b16 := b15.trans (h16.below hp b15.size); have s16 := Lib.hid (s15.out.keeps h16.2 oA.out); have h16 : Hid (Rdr w16 p A2 m c2 r m) := Lib.hid h16.1)
      | (go_at_call 23; refine (Number_err _ _ _ _ _ _ _ _ _ _ _ h14.out HB.out HM8.out HR.out (by decide)).mono ?_; rintro e w15 ⟨rfl, h15⟩; have b15 := b14.trans (h15.below hp b14.size); have s15 := Lib.hid (s14.out.keeps h15.2 oA.out); have h15 := Lib.hid h15.1)
      | (go_at_call 28; refine (Fixed_end _ _ _ _ _ _ _ _ h13.out HM8.out (by decide) (by decide) (by omega)).mono ?_; rintro e w14 ⟨rfl, h14⟩; have b14 := b13.trans (h14.below hp b13.size); have s14 := Lib.hid (s13.out.keeps h14.2 oA.out); have h14 := Lib.hid h14.1)
      | (go_at_call 24; refine (Byte_end _ _ _ _ _ _ _ h12.out HM8.out (Nat.le_refl _)).mono ?_; rintro e w13 ⟨rfl, h13⟩; have b13 := b12.trans (h13.below hp b12.size); have s13 := Lib.hid (s12.out.keeps h13.2 oA.out); have h13 := Lib.hid h13.1)
      | (go_at_call 29; refine (Bytes_lit _ _ _ _ m (by rfl) _ _ _ h11.out HM8.out (by omega)).mono ?_; rintro e w12 ⟨A12, c12, rfl, o12, h12⟩; rw [HT.out] at o12; have oA := Lib.hid (own_off o12 h11.out.plt); have s12 := Lib.hid (sees_own o12); have b12 := b11.trans (h12.below hp b11.size); have h12 : Hid (Rdr w12 p A2 m c2 r m) := Lib.hid (by have := h12.1; rwa [Nat.zero_add] at this)))
    go_wp2_with (first
      | (go_at_call 30; refine (SameBytes_any _ _ _ _ _ _ r r _ (by exact s25.out) (by exact HS.out.below b25 (Nat.le_refl _))).mono ?_; rw [eqL_self]; rintro e w26 ⟨rfl, k26⟩; have b26 := below_step b25 k26)
      | (go_at_call 15; refine (OutW_any _ _ _ _ _ _ _ _ h24.out).mono ?_; rintro e w25 ⟨A25, c25, rfl, o25, k25⟩; have b25 := below_step b24 k25; have s25 := Lib.hid (sees_own o25))
      | (go_at_call 34; refine (NumberW_full _ _ _ _ _ 0 _ _ _ h23.out (by decide) (by have : (enc 0).length = 1 := rfl; omega)).mono ?_; rintro e w24 ⟨rfl, k24⟩; have b24 := below_step b23 k24; have h24 := Lib.hid (h23.out.below k24))
      | (go_at_call 26; refine (BytesW_okB _ _ _ _ _ _ _ _ _ _ r _ h22.out (by exact HS.out.below b22 (Nat.le_refl _)) (by omega) z22.out).mono ?_; rintro e w23 ⟨A23, c23, rfl, h23, k23⟩; have b23 := b22.trans (k23.mono b18.size); have h23 : Hid (Wtr w23 w18.heap.size p19 A23 m c23 r m) := Lib.hid (by have := h23; simpa using this))
      | (go_at_call 14; refine (LenW_any _ _ _ _ _ _ _ _ h22.out).mono ?_; rintro e w26 ⟨rfl, rfl⟩)
      | (go_at_call 25; refine (FixedW_bad _ _ _ _ _ _ _ _ _ _ h22.out (Or.inl (by exact HN.out.2.2.1))).mono ?_; rintro e w26 ⟨rfl, rfl⟩)
      | (go_at_call 25; refine (FixedW_bad _ _ _ _ _ _ _ _ _ _ h22.out (Or.inr (by exact HN.out.2.2.2.1))).mono ?_; rintro e w26 ⟨rfl, rfl⟩)
      | (go_at_call 26; refine (BytesW_full _ _ _ _ _ _ _ _ _ _ _ h21.out (by omega)).mono ?_; rintro e w22 ⟨rfl, k22⟩; have b22 := below_step b21 k22; have h22 := Lib.hid (h21.out.below k22); have z22 := Lib.hid (Nat.le_trans z21.out k22.size))
      | (at_builtin; refine wpList_appV E_u8 rfl _ _ rfl rfl (by exact HS3.out.below (b19.alloc b19.size _) (Nat.le_refl _)) rfl (Sees.one _ _ _) (ints1 _ [1]) (by simp [maxLen]; omega) (by omega) ?_; intro A21 c21 w21 s21 k21; have k21 := below_step ((Below.refl _ _).alloc (Nat.le_refl _) (.cells #[.int .u8 1] 5)) k21; have b21 := below_step b19 k21; have h21 := Lib.hid (h19.out.below k21); have z21 := Lib.hid (Nat.le_trans z19.out k21.size))
      | (go_at_call 12; refine (NewWriter_bad _ _ (Or.inl (by exact HN.out.1))).mono ?_; rintro e w26 ⟨rfl, rfl⟩)
      | (go_at_call 12; refine (NewWriter_bad _ _ (Or.inr (by exact HN.out.2.2.2.2))).mono ?_; rintro e w26 ⟨rfl, rfl⟩)
      | (go_at_call 12; refine (NewWriter_of m _ (by exact rfl) (by omega)).mono ?_; rintro e w19 ⟨p19, rfl, h19, k19⟩; have h19 := Lib.hid h19; have b19 := below_step b18 k19; have z19 := Lib.hid k19.size))
    go_ret
    exact ⟨rfl, b26⟩
end Go.Proofs.Ytgngeachgkappaa
