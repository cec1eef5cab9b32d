/- Walks: the reference's PutFixed. -/
import Derived.Test.YtgngeachgkappaaProg
import Derived.Test.YtgngeachgkappaaXa
namespace Go.Proofs.Ytgngeachgkappaa
open Go.RowKit
set_option linter.unusedVariables false

/-- The world behind the two boxes of a call. -/
def bw (w : World) (lim : Nat) (A : Option Addr) (n c : Nat) : World := (w.alloc (.cells #[.int .i64 (lim : Int), .slice A n c] 79)).alloc (.cells #[.int .i64 0, .slice none 0 0] 79)
theorem bw_c0 (w : World) (lim : Nat) (A : Option Addr) (n c : Nat) : (bw w lim A n c).heap[w.heap.size]? = some (.cells #[.int .i64 (lim : Int), .slice A n c] 79 (0, 0)) := by unfold bw; exact lit_skip (lit_new rfl)
theorem bw_d0 (w : World) (lim : Nat) (A : Option Addr) (n c : Nat) : (bw w lim A n c).heap[w.heap.size + 1]? = some (.cells #[.int .i64 0, .slice none 0 0] 79 (0, 0)) := by unfold bw; exact lit_new (by simp)
theorem bw_size (w : World) (lim : Nat) (A : Option Addr) (n c : Nat) : (bw w lim A n c).heap.size = w.heap.size + 2 := by unfold bw; simp
theorem bw_below (w : World) (lim : Nat) (A : Option Addr) (n c : Nat) : Below w.heap.size w (bw w lim A n c) := ((Below.refl _ _).alloc (Nat.le_refl _) _).alloc (by simp) _
theorem bw_at {w W : World} {lim : Nat} {A : Option Addr} {n c : Nat} (h : Below (w.heap.size + 2) (bw w lim A n c) W) : W.cell? ⟨w.heap.size, 0, none⟩ = some (.int .i64 (lim : Int)) ∧ W.cell? ⟨w.heap.size, 1, none⟩ = some (.slice A n c) ∧ W.cell? ⟨w.heap.size + 1, 0, none⟩ = some (.int .i64 0) ∧ W.cell? ⟨w.heap.size + 1, 1, none⟩ = some (.slice none 0 0) ∧ W.frozen? ⟨w.heap.size + 1, 0, none⟩ = false ∧ W.frozen? ⟨w.heap.size + 1, 1, none⟩ = false := by
  have e0 := (h.block w.heap.size (by omega)).trans (bw_c0 w lim A n c)
  have e1 := (h.block (w.heap.size + 1) (by omega)).trans (bw_d0 w lim A n c)
  refine ⟨cell_zero e0, cell_one e0, cell_zero e1, cell_one e1, ?_, ?_⟩ <;> (unfold World.frozen?; rw [e1]; simp)

theorem Sees.store {w w' : World} {s n c : Nat} {A : Option Addr} {xs : List Value} (h : Sees w s A n c xs) (a : Addr) (v : Value) (hne : ∀ b, A = some b → 0 < xs.length → b.block ≠ a.block) : Sees (w.setCell a v) s A n c xs :=
  ⟨h.len, h.cap, h.capm, h.nil_, fun k u hu => by
    obtain ⟨b', o', hA, hc⟩ := h.look k u hu
    refine ⟨b', o', hA, ?_⟩
    have hpos : 0 < xs.length := Nat.lt_of_le_of_lt (Nat.zero_le _) (List.getElem?_eq_some_iff.1 hu).1
    exact (World.cell?_of_block (a := ⟨b', o' + k, none⟩) (Below.heap_setCell _ _ _ _ (show b' ≠ a.block from hne _ hA hpos))).trans hc⟩
theorem put_fin {w W w5 : World} {n c n5 c5 b : Nat} {A A5 : Option Addr} {bs ys : List Int} (hs : Sees w 1 A n c (bs.map (Value.int .u8))) (s5 : Sees w5 1 A5 n5 c5 (ys.map (Value.int .u8))) (f5 : From W A n A5 n5) (hb : Below w.heap.size w W) (he : b = w.heap.size + 1) (u v : Value) (hW : b < W.heap.size) :
    Sees ((w5.setCell ⟨b, 0, none⟩ u).setCell ⟨b, 1, none⟩ v) 1 A5 n5 c5 (ys.map (Value.int .u8)) := by
  have hne : ∀ d, A5 = some d → 0 < (ys.map (Value.int .u8)).length → d.block ≠ b := by
    intro d hd hp
    rw [List.length_map] at hp
    have hyl := s5.length
    rcases f5 with ⟨e, en⟩ | h
    · have hn : 0 < n := by omega
      obtain ⟨bz, oz, hA, hc⟩ := hs.int hn
      have h1 := World.block_lt_of_cell? _ _ hc
      rw [← e, hd] at hA
      cases hA
      have h2 : bz < w.heap.size := h1
      show bz ≠ b
      omega
    · have := h d hd; omega
  exact Sees.store (w' := w5) (Sees.store (w' := w5) s5 _ _ hne) _ _ hne

set_option maxRecDepth 20000 in
set_option maxHeartbeats 1600000 in
theorem refPutFixed_any (lim n c x : Nat) (k : Int) (A : Option Addr) (bs : List Int) (w : World) (hs : Sees w 1 A n c (bs.map (Value.int .u8))) (hl : lim ≤ 16777216) (hn : n ≤ lim) (hx : x < 18446744073709551616) :
    Calls Try.prog 45 #[wv lim A n c, .int .u64 (x : Int), .int .i64 k] w fun e w' => ∃ A' n' c', e = .returned (.tuple #[wv lim A' n' c', .int .i64 (putFixedF bs lim x k).2]) ∧ Sees w' 1 A' n' c' ((putFixedF bs lim x k).1.map (Value.int .u8)) ∧ From w A n A' n' ∧ Below w.heap.size w w' := by
  have HS := Lib.hid hs
  have HLN := Lib.hid (And.intro hl hn)
  have B3 := ((Below.refl w.heap.size w).alloc (Nat.le_refl _) (.cells #[.int .i64 (lim : Int), .slice A n c] 79)).alloc (by simp) (.cells #[.int .i64 (lim : Int), .slice A n c] 79)
  clear hs hl hn
  by_cases h0 : k < 1 ∨ 8 < k
  · have hF : putFixedF bs lim x k = (bs, 2) := by unfold putFixedF; rw [if_pos (by omega)]
    rw [hF]
    by_cases h1 : k < 1
    · have d1 : decide (k < 1) = true := by simpa using h1
      clear h0 h1 hF
      go_enter Try.func45, Try.ntmps45
      go_wp2
      exact bodyPost_ret (v := .tuple #[wv lim A n c, .int .i64 2]) (by simp [results, Try.results45, go_sem]) rfl ⟨A, n, c, rfl, HS.out.below B3 (Nat.le_refl _), Or.inl ⟨rfl, rfl⟩, B3⟩
    · have d1 : decide (k < 1) = false := by simpa using h1
      have d2 : decide (8 < k) = true := by simp; omega
      clear h0 h1 hF
      go_enter Try.func45, Try.ntmps45
      go_wp2
      exact bodyPost_ret (v := .tuple #[wv lim A n c, .int .i64 2]) (by simp [results, Try.results45, go_sem]) rfl ⟨A, n, c, rfl, HS.out.below B3 (Nat.le_refl _), Or.inl ⟨rfl, rfl⟩, B3⟩
  · obtain ⟨q, rfl⟩ : ∃ q : Nat, k = (q : Int) := ⟨k.toNat, by omega⟩
    have d1 : decide ((q : Int) < 1) = false := by simp; omega
    have d2 : decide ((8 : Int) < (q : Int)) = false := by simp; omega
    have hq8 : (q : Int) ≤ 8 := by omega
    have HQ1 : Hid (1 ≤ q ∧ q ≤ 8) := Lib.hid (by omega)
    have B2 := Lib.hid (bw_below w lim A n c)
    have HSZ := Lib.hid (bw_size w lim A n c)
    obtain ⟨T, hT⟩ : ∃ T, putFixedF bs lim x (q : Int) = T := ⟨_, rfl⟩
    rw [hT]
    have HT : Hid ((256 ^ q ≤ x → T = (bs, 2)) ∧ (x < 256 ^ q → T = putF bs lim (leB q x))) := Lib.hid (by
      subst hT
      unfold putFixedF
      rw [Int.toNat_natCast]
      refine ⟨fun h => by rw [if_pos (Or.inr (Or.inr h))], fun h => ?_⟩
      rw [if_neg]
      rintro (h' | h' | h')
      · omega
      · omega
      · exact absurd h (Nat.not_lt.2 h'))
    clear h0 hT B3
    go_enter Try.func45, Try.ntmps45
    go_wp2
    clear d1 d2
    go_loopw [1, 8, 9] (fun xv v i wr => ∃ (j y c' : Nat) (A' : Option Addr), i = .int .i64 (j : Int) ∧ j ≤ q ∧ xv = .int .u64 (y : Int) ∧ Hid (y = x / 256 ^ j) ∧ y < 18446744073709551616 ∧ v = .slice A' j c' ∧ wr.ownsRow (w.heap.size + 2) 5 1 (.slice A' j c') j ((leB j x).map (Value.int .u8)) ∧ Below (w.heap.size + 2) (bw w lim A n c) wr) (fun _ _ i _ => q - (intOf i).toNat)
    case atStart => exact ⟨0, x, 0, none, rfl, Nat.zero_le _, rfl, Lib.hid (by simp), hx, rfl, World.ownsRow_nil _ _ _ _, Below.refl _ _⟩
    case round =>
      obtain ⟨j, y, c', A', rfl, hj, rfl, HY, hy, rfl, ho, hb⟩ := hrel
      obtain ⟨q0, q1, q2, q3, q4, q5⟩ := bw_at hb
      have hsz : w.heap.size + 2 ≤ wr.heap.size := by have := hb.size; rw [HSZ.out] at this; exact this
      have hbw := B2.out.trans (hb.mono (by omega))
      by_cases hlt : j < q
      · have hv : IntKind.u8.wrap ((y : Int) % 256) = ((y % 256 : Nat) : Int) := by simp [IntKind.wrap, IntKind.bits, IntKind.signed]
        have hst : leB (j + 1) x = leB j x ++ [((y % 256 : Nat) : Int)] := by rw [leB_succ, HY.out]
        have HST := Lib.hid hst
        have hsz2 := Lib.hid hsz
        generalize ((y % 256 : Nat) : Int) = v at hv HST
        clear hst
        go_wp2_with (at_builtin; refine wpList_app E_u8 rfl _ _ rfl rfl (ho.alloc _) rfl (Sees.one _ _ _) (ints1 _ [v]) (by simp [maxLen]; omega) (by omega) (by simp; omega) ?_; intro A4 c4 w4 hown4 hg4 hb4)
        go_roundw
        case rel =>
          refine ⟨j + 1, y / 256, c4, A4, by go_num, by omega, by go_num, Lib.hid (by rw [HY.out, Nat.div_div_eq_div_mul, Nat.pow_succ]), by omega, rfl, ?_, (hb.alloc hsz2.out _).trans hb4⟩
          rw [HST.out, List.map_append]
          exact hown4
        case measure => simp [intOf]; omega
      · obtain rfl : j = q := by omega
        clear hlt
        by_cases hpos : 0 < y
        · have hT := HT.out.1 (by
            rcases Nat.lt_or_ge x (256 ^ j) with h' | h'
            · rw [HY.out, Nat.div_eq_of_lt h'] at hpos; omega
            · exact h')
          have HT2 := Lib.hid hT
          have d5 : decide ((0 : Int) < (y : Int)) = true := by simp; omega
          have d5' : decide (0 < y) = true := by simp; omega
          have d5i : (0 : Int) < (y : Int) := by omega
          clear hT
          go_wp2
          exact bodyPost_ret (v := .tuple #[wv lim A n c, .int .i64 2]) (by simp [results, Try.results45, go_sem, q2, q3]) rfl ⟨A, n, c, by rw [HT2.out], by rw [HT2.out]; exact HS.out.below ((hbw.setCell (Nat.le_succ _) _).setCell (Nat.le_succ _) _) (Nat.le_refl _), Or.inl ⟨rfl, rfl⟩, (hbw.setCell (Nat.le_succ _) _).setCell (Nat.le_succ _) _⟩
        · obtain rfl : y = 0 := by omega
          have hT := HT.out.2 (by
            rcases Nat.lt_or_ge x (256 ^ j) with h' | h'
            · exact h'
            · have h1 := Nat.div_pos h' (Nat.pow_pos (n := j) (by decide : 0 < 256))
              have := HY.out
              omega)
          have HT2 := Lib.hid hT
          have HS3 := Lib.hid (HS.out.below hbw (Nat.le_refl _))
          have HO3 := Lib.hid (sees_own ho)
          have HJ8 : Hid (j ≤ 1000) := Lib.hid (by have := HQ1.out; omega)
          have hz2 : w.heap.size + 1 < wr.heap.size := by omega
          clear hT hpos HY
          go_wp2_with (go_at_call 41; refine (refPut_any lim n c j c' A A' bs (leB j x) _ HS3.out HO3.out HLN.out.1 HLN.out.2 HJ8.out).mono ?_; rw [← HT2.out]; rintro e w5 ⟨A5, n5, c5, rfl, s5, f5, k5⟩; have q2' := (k5.cell (p := ⟨w.heap.size + 1, 0, none⟩) hz2).trans q2; have q3' := (k5.cell (p := ⟨w.heap.size + 1, 1, none⟩) hz2).trans q3; have q4' := (k5.frozen (p := ⟨w.heap.size + 1, 0, none⟩) hz2).trans q4; have q5' := (k5.frozen (p := ⟨w.heap.size + 1, 1, none⟩) hz2).trans q5; have b5 := below_step hbw k5; have hz5 : wr.heap.size ≤ w5.heap.size := k5.size; have HF5 := Lib.hid (And.intro s5 f5); clear s5 f5)
          have off5 : Hid (Sees ((w5.setCell ⟨w.heap.size + 1, 0, none⟩ (.int .i64 (lim : Int))).setCell ⟨w.heap.size + 1, 1, none⟩ (.slice A5 n5 c5)) 1 A5 n5 c5 (T.1.map (Value.int .u8))) := Lib.hid (put_fin HS.out HF5.out.1 HF5.out.2 hbw rfl _ _ hz2)
          have from5 : Hid (From w A n A5 n5) := Lib.hid (HF5.out.2.imp id (fun h b hb => Nat.le_trans hbw.size (h b hb)))
          exact bodyPost_ret (v := .tuple #[wv lim A5 n5 c5, .int .i64 T.2]) (by simp [results, Try.results45, go_sem, q2', q3']) rfl ⟨A5, n5, c5, rfl, off5.out, from5.out, (b5.setCell (Nat.le_succ _) _).setCell (Nat.le_succ _) _⟩
end Go.Proofs.Ytgngeachgkappaa
