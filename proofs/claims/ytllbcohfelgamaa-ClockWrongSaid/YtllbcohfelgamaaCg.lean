/- Walks: the law's awake. -/
import Derived.Test.YtllbcohfelgamaaProg
import Derived.Test.YtllbcohfelgamaaCf
namespace Go.Proofs.Ytllbcohfelgamaa
open Go.RowKit
set_option linter.unusedVariables false

theorem sees_block2 {w : World} {g n : Nat} {st : List (Int × Int)} {e : TypeId} {fz : Nat × Nat} (h : w.heap[g]? = some (.cells (flat st).toArray e fz)) (hn : st.length = n) (hc : n ≤ maxLen) : Sees w 2 (some ⟨g, 0, none⟩) n n (flat st) :=
  ⟨by rw [flat_len, hn]; omega, Nat.le_refl _, hc, (fun h => by cases h), fun k u hu => ⟨g, 0, rfl, by simp [World.cell?, h, hu]⟩⟩
theorem min095 (b : Nat) (hb : b < 3) (h : MinAt [0, 9, 5] 3 b) : b = 0 := by
  have := h.1 0 (by omega)
  match b, hb with
  | 0, _ => rfl
  | 1, _ => simp at this
  | 2, _ => simp at this
theorem max095 (b : Nat) (hb : b < 3) (h : MaxAt [0, 9, 5] 3 b) : b = 1 := by
  have := h.1 1 (by omega)
  match b, hb with
  | 0, _ => simp at this
  | 1, _ => rfl
  | 2, _ => simp at this
theorem okT3 {a b c : Int} (h : (0 ≤ a ∧ a ≤ 281474976710656) ∧ (0 ≤ b ∧ b ≤ 281474976710656) ∧ (0 ≤ c ∧ c ≤ 281474976710656)) : OkT [a, b, c] := by
  intro x hx; simp at hx; rcases hx with rfl | rfl | rfl <;> omega
theorem dl4 : eachF untilF 2 (([(0, 4), (1, 7), (0, 4), (1, 10)] : List (Int × Int)).map (·.1)) (([(0, 4), (1, 7), (0, 4), (1, 10)] : List (Int × Int)).map (·.2)) = ([(0, 4), (1, 7), (0, 0), (1, 3)], 0) := by decide
theorem New_lit {N : Int} (n : Nat) (hN : N = (n : Int)) (w : World) (hn : 1 ≤ n ∧ n ≤ 64) :
    Calls Try.prog 12 #[.int .i64 N] w fun e w' => ∃ p g c', e = .returned (.tuple #[.pointer (some ⟨p, 0, none⟩), .int .i64 0]) ∧ Clk w' w.heap.size p g c' n (List.replicate n 0) ∧ Below w.heap.size w w' := by
  subst hN; exact New_any n w hn

set_option maxRecDepth 20000 in
set_option maxHeartbeats 1600000 in
theorem awake_any (w : World) : Calls Try.prog 11 #[] w fun e w' => e = .returned (.bool true) ∧ Below w.heap.size w w' := by
  go_enter Try.func11, Try.ntmps11
  go_wp2_with (first
    | (go_at_call 12; refine (New_lit 3 (by rfl) _ (by decide)).mono ?_; rintro e w1 ⟨p, g, c, rfl, h1, b1⟩; have hg := h1.bg; have h1 := Lib.hid (show Clk w1 w.heap.size p g c 3 [0, 0, 0] from h1))
    | (go_at_call 14; refine (Tick_any _ _ _ _ _ _ _ _ _ h1.out (by decide) (okT3 (by decide))).mono ?_; rw [show tickF [0, 0, 0] 1 5 = ([0, 5, 0], 5, 0) by decide]; rintro e w2 ⟨rfl, h2, k2⟩; have h2 := Lib.hid h2; have b2 := b1.trans (k2.below hg b1.size))
    | (go_at_call 14; refine (Tick_any _ _ _ _ _ _ _ _ _ h2.out (by decide) (okT3 (by decide))).mono ?_; rw [show tickF [0, 5, 0] 2 5 = ([0, 5, 5], 5, 0) by decide]; rintro e w3 ⟨rfl, h3, k3⟩; have h3 := Lib.hid h3; have b3 := b2.trans (k3.below hg b2.size))
    | (go_at_call 17; refine (Until_any _ _ _ _ _ _ _ _ _ h3.out (by decide) (okT3 (by decide))).mono ?_; rw [show untilF [0, 5, 5] 1 9 = ([0, 9, 5], 4, 0) by decide]; rintro e w4 ⟨rfl, h4, k4⟩; have h4 := Lib.hid h4; have b4 := b3.trans (k4.below hg b3.size))
    | (go_at_call 17; refine (Until_any _ _ _ _ _ _ _ _ _ h4.out (by decide) (okT3 (by decide))).mono ?_; rw [show untilF [0, 9, 5] 1 8 = ([0, 9, 5], 0, 291) by decide]; rintro e w5 ⟨rfl, h5, k5⟩; have h5 := Lib.hid h5; have b5 := b4.trans (k5.below hg b4.size))
    | (go_at_call 14; refine (Tick_any _ _ _ _ _ _ _ _ _ h5.out (by decide) (okT3 (by decide))).mono ?_; rw [show tickF [0, 9, 5] 0 281474976710657 = ([0, 9, 5], 0, 4) by decide]; rintro e w6 ⟨rfl, h6, k6⟩; have h6 := Lib.hid h6; have b6 := b5.trans (k6.below hg b5.size))
    | (go_at_call 19; refine (Behind_any _ _ _ _ _ _ _ h6.out (by decide)).mono ?_; rintro e w7 ⟨b, rfl, hb, hm, k7⟩; obtain rfl := min095 b hb hm; have h7 := Lib.hid (h6.out.below k7); have b7 := below_step b6 k7)
    | (go_at_call 20; refine (Ahead_any _ _ _ _ _ _ _ h7.out (by decide)).mono ?_; rintro e w8 ⟨b, rfl, hb, hm, k8⟩; obtain rfl := max095 b hb hm; have h8 := Lib.hid (h7.out.below k8); have b8 := below_step b7 k8)
    | (go_at_call 15; refine (All_any _ _ _ _ _ _ _ h8.out (by decide)).mono ?_; rintro e w9 ⟨A9, c9, rfl, o9, k9⟩; have o9 := Lib.hid (sees_own o9); have b9 := below_step b8 k9)
    | (go_at_call 18; refine (SameInts_any _ _ _ _ _ _ [0, 9, 5] [0, 9, 5] _ (by exact o9.out.below ((Below.refl _ _).alloc (Nat.le_refl _) _) (Nat.le_refl _)) (by exact sees_block (heap_alloc_new _ _) rfl (by decide) (by decide) ⟨[], rfl⟩)).mono ?_; rw [eqL_self]; rintro e w10 ⟨rfl, k10⟩; have b10 := below_step (b9.alloc b9.size (.cells #[.int .i64 0, .int .i64 9, .int .i64 5] 3)) k10)
    | (go_at_call 24; refine (Deltas_any 2 _ _ _ [(0, 4), (1, 7), (0, 4), (1, 10)] _ (by exact sees_block2 (heap_alloc_new _ _) rfl (by decide)) (by decide)).mono ?_; rw [dl4]; rintro e w11 ⟨A11, c11, m11, rfl, o11, k11⟩; have o11 := Lib.hid (sees_own o11); have b11 := below_step (b10.alloc b10.size (.cells (flat [(0, 4), (1, 7), (0, 4), (1, 10)]).toArray 52)) k11)
    | (go_at_call 18; refine (SameInts_any _ _ _ _ _ _ [4, 7, 0, 3] [4, 7, 0, 3] _ (by exact o11.out.below ((Below.refl _ _).alloc (Nat.le_refl _) _) (Nat.le_refl _)) (by exact sees_block (heap_alloc_new _ _) rfl (by decide) (by decide) ⟨[], rfl⟩)).mono ?_; rw [eqL_self]; rintro e w12 ⟨rfl, k12⟩; have b12 := below_step (b11.alloc b11.size (.cells #[.int .i64 4, .int .i64 7, .int .i64 0, .int .i64 3] 3)) k12))
  go_ret
  exact ⟨rfl, b12⟩
end Go.Proofs.Ytllbcohfelgamaa
