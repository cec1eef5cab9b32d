/- Walks: VarintWrong. -/
import Derived.Test.YtckklmepncibkaaProg
import Derived.Test.YtckklmepncibkaaVq
namespace Go.Proofs.Ytckklmepncibkaa
open Go.RowKit
set_option linter.unusedVariables false

/-- A byte with its highest bit set. -/
def hi8 (b : Int) : Int := if b < 128 then b + 128 else b
set_option maxRecDepth 20000 in
theorem hi8_bits (b : Int) (h0 : 0 ≤ b) (h1 : b ≤ 255) : bits .or .u8 b 128 = hi8 b := by
  have : ∀ x : Fin 256, bits .or .u8 ((x.1 : Nat) : Int) 128 = hi8 ((x.1 : Nat) : Int) := by decide
  have := this ⟨b.toNat, by omega⟩
  have e : ((b.toNat : Nat) : Int) = b := by omega
  simpa [e] using this
set_option maxRecDepth 20000 in
theorem hi8_bits' (b : Int) (h0 : 0 ≤ b) (h1 : b ≤ 255) : bits .or .u8 128 b = hi8 b := by
  have : ∀ x : Fin 256, bits .or .u8 128 ((x.1 : Nat) : Int) = hi8 ((x.1 : Nat) : Int) := by decide
  have := this ⟨b.toNat, by omega⟩
  have e : ((b.toNat : Nat) : Int) = b := by omega
  simpa [e] using this
theorem hi8_in (b : Int) (h0 : 0 ≤ b) (h1 : b ≤ 255) : 128 ≤ hi8 b ∧ hi8 b ≤ 255 := by unfold hi8; split <;> omega

theorem wpList_min {P : Program} {ops : Array Oper} {rest : List Oper} {o : Oper} {a : Act} {Q : Exit → Act → World → Prop} {w : World} (hgd : o.guard = none) {x y : Operand} {ats : Array TypeId} (ho : o.op = .call { callee := .builtin .min, args := #[x, y], argTypes := ats })
    {n b k : Nat} {B : Int} (hx : a.eval x = .int .i64 (n : Int)) (hy : a.eval y = .int .i64 B) (hB : B = (b : Int)) (hk : n ≤ b ∧ k = n ∨ b < n ∧ k = b)
    (h : wpList P ops Q rest (a.put o.dst (.int .i64 (k : Int))) w) : wpList P ops Q (o :: rest) a w := by
  refine wpList_plain hgd fun K hK => ?_
  unfold Oper.wp
  simp only [exec_min ho hx hy hB hk w]
  exact hK _ _ h

set_option maxRecDepth 20000 in
set_option maxHeartbeats 1600000 in
theorem VarintWrong_3 (x : Nat) (A : Option Addr) (n c : Nat) (l0 : List Nat) (way n8 : Nat) (w : World) (hx : x < 18446744073709551616) (h : Sees w 1 A n c ((l0.map Int.ofNat).map (Value.int .u64))) (hl0 : ∀ x ∈ l0, x < 18446744073709551616)
    (hway : way < 256) (hn8 : n8 < 256) (hw : way % 4 = 3) :
    Calls Try.prog 9 #[.int .u64 (x : Int), .slice A n c, .int .u8 (way : Int), .int .u8 (n8 : Int)] w fun e w' => e = .returned (.bool true) ∧ Below w.heap.size w w' := by
  obtain ⟨kl, hl1, hl2, _, hl3⟩ := min_is n 20
  have hsA := h.pre hl1
  rw [Nat.mul_one, ← List.map_take, ← List.map_take] at hsA
  have hl : ∀ x ∈ l0.take kl, x < 18446744073709551616 := fun x hx => hl0 x (List.mem_of_mem_take hx)
  have hcA := h.cap
  generalize l0.take kl = l at hsA hl
  have hcutA := fun w => run_cutr E_u64 A n c kl (Nat.le_trans hl1 hcA) w
  obtain ⟨N, hN⟩ : ∃ N, (encAll l).length = N := ⟨_, rfl⟩
  have hNb : N ≤ 200 := by have := encAll_len l; have := hsA.length; simp at this; omega
  have HN := Lib.hid hN
  obtain ⟨na, hna⟩ : ∃ m, (enc x).length = m := ⟨_, rfl⟩
  have a1 : 1 ≤ na := hna ▸ enc_pos x
  have a2 : na ≤ 10 := hna ▸ enc_len x
  have HNA := Lib.hid hna
  have hmin : (if 20 < (n : Int) then (20 : Int) else (n : Int)) = (kl : Int) := by split <;> omega
  clear h hl0 hN hna
  have hw1 : (way : Int) % 4 = 3 := by omega
  have hbit := hi8_bits' (n8 : Int) (by omega) (by omega)
  have hy := hi8_in (n8 : Int) (by omega) (by omega)
  generalize hi8 (n8 : Int) = y at hbit hy
  have hrd : ∀ z : Int, 1 < z → rd [y, 255, 128, 128, 255, 129, 128, 128, 200, z] = (0, 0, 11) := fun z hz => rd_over (l := [y, 255, 128, 128, 255, 129, 128, 128, 200]) (by intro b hb; simp at hb; omega) rfl hz []
  have hra : ∀ z : Int, 1 < z → rdAll (encAll l ++ [y, 255, 128, 128, 255, 129, 128, 128, 200, z]) = ([], 11) := fun z hz => by rw [rdAll_bad (by simp) (by rw [hrd z hz]; decide) hl, hrd z hz]
  have hby : ∀ z : Int, 0 ≤ z → z ≤ 255 → Bytes [y, 255, 128, 128, 255, 129, 128, 128, 200, z] := fun z h0 h1 b hb => by simp at hb; omega
  by_cases hmx : n8 < 2
  · have hm1 : (n8 : Int) < 2 := by omega
    have hm2 : decide ((n8 : Int) < 2) = true := by simp; omega
    have HRD := Lib.hid (hrd 2 (by omega))
    have HRA := Lib.hid (hra 2 (by omega))
    have hbz := hby 2 (by omega) (by omega)
    clear hrd hra hby
    have hlit : ∀ w2 : World, Below w.heap.size w w2 → Sees (w2.alloc (.cells #[.int .u8 y, .int .u8 255, .int .u8 128, .int .u8 128, .int .u8 255, .int .u8 129, .int .u8 128, .int .u8 128, .int .u8 200, .int .u8 2] 5)) 1 (some ⟨w2.heap.size, 0, none⟩) 10 10 (([y, 255, 128, 128, 255, 129, 128, 128, 200, 2] : List Int).map (Value.int .u8)) ∧ Below w.heap.size w (w2.alloc (.cells #[.int .u8 y, .int .u8 255, .int .u8 128, .int .u8 128, .int .u8 255, .int .u8 129, .int .u8 128, .int .u8 128, .int .u8 200, .int .u8 2] 5)) := fun w2 hb => ⟨sees_block (heap_alloc_new _ _) rfl (by decide) (by decide) ⟨[], rfl⟩, hb.alloc hb.size _⟩
    go_enter Try.func9, Try.ntmps9
    go_wp2_with (first
    | (go_at_call 12; refine (awake_any _).mono ?_; rintro e w1 ⟨rfl, hb1⟩; have hB1 := hb1; clear hb1)
    | (go_at_call 13; refine (Write_any x hx _).mono ?_; rw [HNA.out]; rintro e w2 ⟨v2, rfl, hown2, hb2⟩; obtain ⟨A2, c2, rfl⟩ := own_form hown2; have hB2 := below_step hB1 hb2; clear hb2)
    | (go_at_call 14; obtain ⟨hform, hBf⟩ := hlit w2 hB2; refine (Read_any _ _ _ ([y, 255, 128, 128, 255, 129, 128, 128, 200, 2]) _ (by exact hform) hbz).mono ?_; rw [HRD.out]; rintro e w5 ⟨rfl, hb5⟩; have hB5 := below_step hBf hb5)
          | (go_at_call 23; refine (WriteAll_any _ _ _ l _ (by exact hsA.below hB5 (Nat.le_refl _)) hl (by omega)).mono ?_; rw [HN.out]; rintro e w6 ⟨v6, rfl, hown6, hb6⟩; obtain ⟨A6, c6, rfl⟩ := own_form hown6; have hB6 := below_step hB5 hb6)
          | (at_builtin; refine wpList_app E_u8 rfl _ _ rfl rfl hown6 rfl (hform.below (below_step hb5 hb6) (Nat.le_refl _)) (ints1 _ _) (by simp [maxLen]; omega) (by omega) hb6.size ?_; intro A7 c7 w7 hown7 hg7 hb7; rw [← List.map_append] at hown7; have hB7 := hB6.trans (hb7.mono hB5.size))
          | (go_at_call 22; refine (ReadAll_any _ _ _ (encAll l ++ ([y, 255, 128, 128, 255, 129, 128, 128, 200, 2])) _ (by exact sees_own hown7) ((encAll_bytes l).app hbz) (by omega)).mono ?_; simp only [HRA.out]; rintro e w8 ⟨v8, rfl, hown8, hb8⟩; obtain ⟨A8, c8, rfl⟩ := own_form hown8; have hB8 := below_step hB7 hb8))
    go_ret
    exact ⟨rfl, hB8⟩
  · have hm1 : 2 ≤ (n8 : Int) := by omega
    have hm2 : decide (2 ≤ (n8 : Int)) = true := by simp; omega
    have HRD := Lib.hid (hrd (n8 : Int) (by omega))
    have HRA := Lib.hid (hra (n8 : Int) (by omega))
    have hbz := hby (n8 : Int) (by omega) (by omega)
    clear hrd hra hby
    have hlit : ∀ w2 : World, Below w.heap.size w w2 → Sees (w2.alloc (.cells #[.int .u8 y, .int .u8 255, .int .u8 128, .int .u8 128, .int .u8 255, .int .u8 129, .int .u8 128, .int .u8 128, .int .u8 200, .int .u8 (n8 : Int)] 5)) 1 (some ⟨w2.heap.size, 0, none⟩) 10 10 (([y, 255, 128, 128, 255, 129, 128, 128, 200, (n8 : Int)] : List Int).map (Value.int .u8)) ∧ Below w.heap.size w (w2.alloc (.cells #[.int .u8 y, .int .u8 255, .int .u8 128, .int .u8 128, .int .u8 255, .int .u8 129, .int .u8 128, .int .u8 128, .int .u8 200, .int .u8 (n8 : Int)] 5)) := fun w2 hb => ⟨sees_block (heap_alloc_new _ _) rfl (by decide) (by decide) ⟨[], rfl⟩, hb.alloc hb.size _⟩
    go_enter Try.func9, Try.ntmps9
    go_wp2_with (first
    | (go_at_call 12; refine (awake_any _).mono ?_; rintro e w1 ⟨rfl, hb1⟩; have hB1 := hb1; clear hb1)
    | (go_at_call 13; refine (Write_any x hx _).mono ?_; rw [HNA.out]; rintro e w2 ⟨v2, rfl, hown2, hb2⟩; obtain ⟨A2, c2, rfl⟩ := own_form hown2; have hB2 := below_step hB1 hb2; clear hb2)
    | (go_at_call 14; obtain ⟨hform, hBf⟩ := hlit w2 hB2; refine (Read_any _ _ _ ([y, 255, 128, 128, 255, 129, 128, 128, 200, (n8 : Int)]) _ (by exact hform) hbz).mono ?_; rw [HRD.out]; rintro e w5 ⟨rfl, hb5⟩; have hB5 := below_step hBf hb5)
          | (go_at_call 23; refine (WriteAll_any _ _ _ l _ (by exact hsA.below hB5 (Nat.le_refl _)) hl (by omega)).mono ?_; rw [HN.out]; rintro e w6 ⟨v6, rfl, hown6, hb6⟩; obtain ⟨A6, c6, rfl⟩ := own_form hown6; have hB6 := below_step hB5 hb6)
          | (at_builtin; refine wpList_app E_u8 rfl _ _ rfl rfl hown6 rfl (hform.below (below_step hb5 hb6) (Nat.le_refl _)) (ints1 _ _) (by simp [maxLen]; omega) (by omega) hb6.size ?_; intro A7 c7 w7 hown7 hg7 hb7; rw [← List.map_append] at hown7; have hB7 := hB6.trans (hb7.mono hB5.size))
          | (go_at_call 22; refine (ReadAll_any _ _ _ (encAll l ++ ([y, 255, 128, 128, 255, 129, 128, 128, 200, (n8 : Int)])) _ (by exact sees_own hown7) ((encAll_bytes l).app hbz) (by omega)).mono ?_; simp only [HRA.out]; rintro e w8 ⟨v8, rfl, hown8, hb8⟩; obtain ⟨A8, c8, rfl⟩ := own_form hown8; have hB8 := below_step hB7 hb8))
    go_ret
    exact ⟨rfl, hB8⟩

theorem own_addr {w : World} {base e s n : Nat} {v : Value} {xs : List Value} (h : w.ownsRow base e s v n xs) (hn : 0 < n) : ∃ g c, v = .slice (some ⟨g, 0, none⟩) n c ∧ base ≤ g := by
  obtain ⟨_, h2⟩ := h
  rcases h2 with ⟨h0, h0'⟩ | ⟨g, cap, cur, hv, hg, _⟩
  · omega
  · exact ⟨g, cap, hv, hg⟩
theorem own_cell {w : World} {base e n g c k : Nat} {l : List Int} (h : w.ownsRow base e 1 (.slice (some ⟨g, 0, none⟩) n c) n (l.map (Value.int .u8))) (hk : k < n) : w.cell? ⟨g, k, none⟩ = some (.int .u8 (l.getD k 0)) ∧ w.frozen? ⟨g, k, none⟩ = false := by
  have hl : l.length = n := by have := h.1; simpa using this
  refine ⟨?_, h.frozenAt k⟩
  rw [h.cellAt k (by omega)]
  simp [List.getD, show k < l.length by omega]
theorem own_set {w : World} {base e n g c : Nat} {l : List Int} (h : w.ownsRow base e 1 (.slice (some ⟨g, 0, none⟩) n c) n (l.map (Value.int .u8))) (k : Nat) (z : Int) : (w.setCell ⟨g, k, none⟩ (.int .u8 z)).ownsRow base e 1 (.slice (some ⟨g, 0, none⟩) n c) n ((l.set k z).map (Value.int .u8)) := by
  have := (h.stored k (.int .u8 z)).1
  rwa [← List.map_set] at this
theorem Bytes.set {l : List Int} (h : Bytes l) (k : Nat) (z : Int) (h0 : 0 ≤ z) (h1 : z ≤ 255) : Bytes (l.set k z) := fun x hx => by
  rcases List.mem_or_eq_of_mem_set hx with h2 | rfl
  · exact h x h2
  · exact ⟨h0, h1⟩
theorem encF_ons : ∀ (f x p : Nat), p + 1 = (encF f x).length → Ons ((encF f x).take p) := by
  intro f
  induction f with
  | zero => intro x p h; simp [encF] at h
  | succ f ih =>
    intro x p h
    by_cases hx : x < 128
    · rw [encF_lt hx] at h ⊢
      simp at h
      subst h
      intro b hb
      simp at hb
    · rw [encF_ge hx] at h ⊢
      simp only [List.length_cons] at h
      cases p with
      | zero => intro b hb; simp at hb
      | succ p =>
        intro b hb
        rw [List.take_succ_cons] at hb
        rcases List.mem_cons.1 hb with rfl | hb
        · omega
        · exact ih (x / 128) p (by omega) b hb
theorem enc_ons (x p : Nat) (h : p + 1 = (enc x).length) : Ons ((enc x).take p) := encF_ons 10 x p h
theorem Ons.step {l : List Int} {k : Nat} (hk : k < l.length) (h : Ons (l.take k)) (z : Int) (h0 : 128 ≤ z) (h1 : z ≤ 255) : Ons ((l.set k z).take (k + 1)) := by
  rw [take_one (by simpa using hk)]
  intro b hb
  rcases List.mem_append.1 hb with h2 | h2
  · rw [List.take_set_of_le (Nat.le_refl k)] at h2
    exact h b h2
  · simp [List.getD, hk] at h2
    subst h2
    exact ⟨h0, h1⟩

end Go.Proofs.Ytckklmepncibkaa
