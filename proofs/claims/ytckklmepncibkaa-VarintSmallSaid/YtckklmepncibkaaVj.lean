/- Walks: the law's tells, lists, reads. -/
import Derived.Test.YtckklmepncibkaaProg
import Derived.Test.YtckklmepncibkaaVi
namespace Go.Proofs.Ytckklmepncibkaa
open Go.RowKit
set_option linter.unusedVariables false

theorem encF_bytes (f x : Nat) : Bytes (encF f x) := by
  induction f generalizing x with
  | zero => intro y hy; simp [encF] at hy
  | succ f ih =>
    intro y hy
    unfold encF at hy
    split at hy
    · simp at hy; subst hy; omega
    · simp at hy
      rcases hy with rfl | hy
      · omega
      · exact ih _ y hy
theorem enc_bytes (x : Nat) : Bytes (enc x) := encF_bytes 10 x
theorem encAll_bytes (l : List Nat) : Bytes (encAll l) := by
  intro y hy
  simp only [encAll, List.mem_flatten, List.mem_map] at hy
  obtain ⟨_, ⟨x, _, rfl⟩, h⟩ := hy
  exact enc_bytes x y h

set_option maxRecDepth 20000 in
set_option maxHeartbeats 800000 in
theorem tells_any (x : Nat) (n : Int) (w : World) (hx : x < 18446744073709551616) (h0 : -9223372036854775808 ≤ n) (h1 : n ≤ 9223372036854775807) :
    Calls Try.prog 20 #[.int .u64 (x : Int), .int .i64 n] w fun e w' => e = .returned (.bool true) ∧ Below w.heap.size w w' := by
  go_enter Try.func20, Try.ntmps20
  go_wp2_with (first
    | (go_at_call 19; refine (Size_any x hx _).mono ?_; rintro e w1 ⟨rfl, hb1⟩)
    | (go_at_call 31; refine (refSize_any x _ hx).mono ?_; rintro e w2 ⟨rfl, rfl⟩)
    | (go_at_call 13; refine (Write_any x hx _).mono ?_; rintro e w3 ⟨v3, rfl, hown3, hb3⟩; obtain ⟨A3, c3, rfl⟩ := own_form hown3)
    | (go_at_call 32; refine (refWrite_any x hx _).mono ?_; rintro e w4 ⟨v4, rfl, hown4, hb4⟩; obtain ⟨A4, c4, rfl⟩ := own_form hown4)
    | (go_at_call 15; refine (SameBytes_any _ _ _ _ _ _ _ _ _ (sees_own (own_below hown3 hb4 (Nat.le_refl _))) (sees_own hown4)).mono ?_; rw [eqL_self]; rintro e w5 ⟨rfl, hb5⟩)
    | (go_at_call 16; refine (Zigzag_any n _ h0 h1).mono ?_; rintro e w6 ⟨rfl, rfl⟩)
    | (go_at_call 33; refine (refZigzag_any n _ h0 h1).mono ?_; rintro e w7 ⟨rfl, rfl⟩)
    | (go_at_call 17; refine (Unzigzag_any x _ hx).mono ?_; rintro e w8 ⟨rfl, rfl⟩)
    | (go_at_call 34; refine (refUnzigzag_any x _ hx).mono ?_; rintro e w9 ⟨rfl, rfl⟩))
  go_ret
  exact ⟨rfl, below_step (below_step (below_step hb1 hb3) hb4) hb5⟩

set_option maxRecDepth 20000 in
set_option maxHeartbeats 800000 in
theorem lists_any (A : Option Addr) (n c : Nat) (l : List Nat) (w : World) (h : Sees w 1 A n c ((l.map Int.ofNat).map (Value.int .u64))) (hl : ∀ x ∈ l, x < 18446744073709551616) :
    Calls Try.prog 18 #[.slice A n c] w fun e w' => e = .returned (.bool true) ∧ Below w.heap.size w w' := by
  have hm : n ≤ 9223372036854775807 := Nat.le_trans h.cap h.capm
  by_cases hn : n ≤ 500
  · go_enter Try.func18, Try.ntmps18
    go_wp2_with (first
      | (go_at_call 27; refine (LentNums_any _ _ _ _ _ h (by omega)).mono ?_; rintro e w1 ⟨A1, c1, rfl, hown1, hb1⟩)
      | (go_at_call 23; refine (WriteAll_any _ _ _ l _ (Sees.take (by simpa using sees_own hown1) (by simpa using h.len) (by omega)) hl (by omega)).mono ?_; rintro e w2 ⟨v2, rfl, hown2, hb2⟩; obtain ⟨A2, c2, rfl⟩ := own_form hown2)
      | (go_at_call 28; refine (refWriteAll_any _ _ _ l _ (h.below (below_step hb1 hb2) (Nat.le_refl _)) hl (by omega)).mono ?_; rintro e w3 ⟨v3, rfl, hown3, hb3⟩; obtain ⟨A3, c3, rfl⟩ := own_form hown3)
      | (go_at_call 15; refine (SameBytes_any _ _ _ _ _ _ _ _ _ (sees_own (own_below hown2 hb3 (Nat.le_refl _))) (sees_own hown3)).mono ?_; rw [eqL_self]; rintro e w4 ⟨rfl, hb4⟩)
      | (go_at_call 29; refine (KeptNums_any _ _ _ _ _ _ _ (sees_own (own_below hown1 (below_step (below_step hb2 hb3) hb4) (Nat.le_refl _))) (h.below (below_step (below_step (below_step hb1 hb2) hb3) hb4) (Nat.le_refl _)) (by omega)).mono ?_; rintro e w5 ⟨rfl, hb5⟩))
    go_ret
    exact ⟨rfl, below_step (below_step (below_step (below_step hb1 hb2) hb3) hb4) hb5⟩
  · go_enter Try.func18, Try.ntmps18
    go_wp2
    go_ret
    exact ⟨rfl, Below.refl _ _⟩

set_option maxRecDepth 20000 in
set_option maxHeartbeats 800000 in
theorem reads_any (A : Option Addr) (n c : Nat) (l : List Int) (w : World) (h : Sees w 1 A n c (l.map (Value.int .u8))) (hl : Bytes l) :
    Calls Try.prog 21 #[.slice A n c] w fun e w' => e = .returned (.bool true) ∧ Below w.heap.size w w' := by
  have hm : n ≤ 9223372036854775807 := Nat.le_trans h.cap h.capm
  by_cases hn : n ≤ 2000
  · go_enter Try.func21, Try.ntmps21
    go_wp2_with (first
      | (go_at_call 35; refine (LentBytes_any _ _ _ _ _ h (by omega)).mono ?_; rintro e w1 ⟨A1, c1, rfl, hown1, hb1⟩; have hs1 : Sees w1 1 A1 n c1 (l.map (Value.int .u8)) := Sees.take (by simpa using sees_own hown1) (by simpa using h.len) (by omega))
      | (go_at_call 14; refine (Read_any _ _ _ l _ hs1 hl).mono ?_; rintro e w2 ⟨rfl, hb2⟩)
      | (go_at_call 36; refine (refRead_any _ _ _ l _ (h.below (below_step hb1 hb2) (Nat.le_refl _)) hl).mono ?_; rintro e w3 ⟨rfl, rfl⟩)
      | (go_at_call 22; refine (ReadAll_any _ _ _ l _ (hs1.below hb2 (Nat.le_refl _)) hl (by omega)).mono ?_; rintro e w4 ⟨v4, rfl, hown4, hb4⟩; obtain ⟨A4, c4, rfl⟩ := own_form hown4)
      | (go_at_call 37; refine (refReadAll_any _ _ _ l _ (h.below (below_step (below_step hb1 hb2) hb4) (Nat.le_refl _)) hl (by omega)).mono ?_; rintro e w5 ⟨v5, rfl, hown5, hb5⟩; obtain ⟨A5, c5, rfl⟩ := own_form hown5)
      | (go_at_call 24; refine (SameNums_any _ _ _ _ _ _ _ _ _ (sees_own (own_below hown4 hb5 (Nat.le_refl _))) (sees_own hown5)).mono ?_; rw [eqL_self]; rintro e w6 ⟨rfl, hb6⟩)
      | (go_at_call 38; refine (KeptBytes_any _ _ _ _ _ _ _ (sees_own (own_below hown1 (below_step (below_step (below_step hb2 hb4) hb5) hb6) (Nat.le_refl _))) (h.below (below_step (below_step (below_step (below_step hb1 hb2) hb4) hb5) hb6) (Nat.le_refl _)) (by omega)).mono ?_; rintro e w7 ⟨rfl, hb7⟩))
    go_ret
    exact ⟨rfl, below_step (below_step (below_step (below_step (below_step hb1 hb2) hb4) hb5) hb6) hb7⟩
  · go_enter Try.func21, Try.ntmps21
    go_wp2
    go_ret
    exact ⟨rfl, Below.refl _ _⟩
end Go.Proofs.Ytckklmepncibkaa
