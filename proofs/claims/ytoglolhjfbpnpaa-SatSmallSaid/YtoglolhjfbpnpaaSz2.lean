/- Walks: the reference's Divide. -/
import Derived.Test.YtoglolhjfbpnpaaProg
import Derived.Test.YtoglolhjfbpnpaaSz
namespace Go.Proofs.Ytoglolhjfbpnpaa
open Go.RowKit
set_option linter.unusedVariables false

theorem own_lit1 (w : World) (u : Value) (e : TypeId) : (w.alloc (.cells #[u] e)).ownsRow w.heap.size e 1 (.slice (some ⟨w.heap.size, 0, none⟩) 1 1) 1 [u] := by
  refine ⟨rfl, .inr ⟨w.heap.size, 1, #[u], rfl, Nat.le_refl _, heap_alloc_new _ _, Nat.le_refl _, by decide, rfl, rfl⟩⟩

set_option maxRecDepth 20000 in
set_option maxHeartbeats 1600000 in
theorem Divide_any (A B : Option Addr) (na ca nb cb : Nat) (a b : List Int) (w : World) (ha : Sees w 1 A na ca (a.map (Value.int .i64))) (hb : Sees w 1 B nb cb (b.map (Value.int .i64))) (ba : Bits a) (bb : Bits b) (hpos : 0 < val b) (hn : na ≤ 50000 ∧ nb ≤ 50000) :
    Calls Try.prog 32 #[.slice A na ca, .slice B nb cb] w fun e w' => ∃ A1 c1 A2 n2 c2 ys zs, e = .returned (.tuple #[.slice A1 na c1, .slice A2 n2 c2]) ∧ Sees w' 1 A1 na c1 (ys.map (Value.int .i64)) ∧ Sees w' 1 A2 n2 c2 (zs.map (Value.int .i64)) ∧ n2 ≤ na ∧ Bits ys ∧ Bits zs ∧ val ys * val b + val zs = val a ∧ val zs < val b ∧ Below w.heap.size w w' := by
  have la := ha.length
  have HM : Hid (na ≤ 50000 ∧ nb ≤ 50000 ∧ a.length = na) := Lib.hid ⟨hn.1, hn.2, la⟩
  have hna3 : (na : Int) ≤ 50000 := by omega
  have hnb3 : (nb : Int) ≤ 50000 := by omega
  have HP := Lib.hid hpos
  clear la hn hpos
  go_enter Try.func32, Try.ntmps32
  go_wp2_with (at_make; refine wpList_mkF E_int rfl _ _ rfl na rfl rfl (by rfl) (by rfl) (by omega) (by simp [maxLen]; omega) ?_; intro w1 hown1 hg1 hb1)
  have hsz : w.heap.size < w1.heap.size := by
    obtain ⟨_, h2⟩ := hown1
    rcases h2 with ⟨h, _⟩ | ⟨g, cap, cur, hv, hg, hh, _⟩
    · cases h
    · cases hv
      exact Nat.lt_of_not_le fun h => by rw [Array.getElem?_eq_none h] at hh; cases hh
  obtain ⟨G, hG⟩ : ∃ G, w.heap.size = G := ⟨_, rfl⟩
  rw [hG] at hown1 hsz hb1 ⊢
  go_loopw [7, 8] (fun v i wr => ∃ (j n c' : Nat) (A' : Option Addr) (ys zs : List Int), Hid (j ≤ na ∧ n + j = na) ∧ v = .slice A' n c' ∧ (j = 0 ∧ i = .int .i64 (-1) ∨ ∃ k : Nat, j = k + 1 ∧ i = .int .i64 (k : Int)) ∧ wr.ownsRow G 3 1 (.slice (some ⟨G, 0, none⟩) na na) na (zs.map (Value.int .i64)) ∧ wr.ownsRow (G + 1) 3 1 (.slice A' n c') n (ys.map (Value.int .i64)) ∧
    Hid (Bits ys ∧ Bits zs ∧ (∀ i, i < j → zs.getD i 0 = 0) ∧ val (zs.drop j) * val b + val ys = val (a.drop j) ∧ val ys < val b) ∧ Below G w wr ∧ G < wr.heap.size) (fun _ i _ => ((intOf i) + 1).toNat)
  case atStart =>
    refine ⟨na, 0, 0, none, [], List.replicate na 0, Lib.hid ⟨Nat.le_refl _, by omega⟩, rfl, jdown na, hown1, World.ownsRow_nil _ _ _ _, Lib.hid ⟨Bits.nil, ?_, ?_, ?_, HP.out⟩, hb1, hsz⟩
    · intro x hx; exact .inl (List.eq_of_mem_replicate hx)
    · intro i hi; simp [List.getD, hi]
    · rw [List.drop_eq_nil_of_le (by simp), List.drop_eq_nil_of_le (by have := HM.out; omega)]; simp [val]
  case round =>
    obtain ⟨j, n, c', A', ys, zs, HJ, rfl, hi, hq, ho, HE, hbl, hG2⟩ := hrel
    rcases hi with ⟨rfl, rfl⟩ | ⟨k, rfl, rfl⟩
    · go_wp2
      go_ret2
      exact ⟨_, na, A', n, c', zs, ys, rfl, sees_own hq, sees_own ho, by have := HJ.out; omega, HE.out.2.1, HE.out.1, by have := HE.out.2.2.2.1; rwa [List.drop_zero, List.drop_zero] at this, HE.out.2.2.2.2, by rw [hG]; exact hbl⟩
    · have hkn : k < na := by have := HJ.out; omega
      have hwG : w.heap.size ≤ G := by omega
      have hsb := hb.below hbl hwG
      have hsa := ha.below hbl hwG
      obtain ⟨b1, o1, hA1, g1⟩ := hsa.int hkn
      cases hA1
      obtain ⟨y, hy⟩ : ∃ x, a.getD k 0 = x := ⟨_, rfl⟩
      have hyb := ba.at_ k
      rw [hy] at hyb g1
      have hds := drop_step a k
      rw [hy] at hds
      have hqs := drop_step zs k
      rw [HE.out.2.2.1 k (by omega)] at hqs
      have hby : Bits ([y] ++ ys) := Bits.cons hyb HE.out.1
      have hvy : val ([y] ++ ys) = y + 2 * val ys := by simp [val]
      have hsm : val ([y] ++ ys) < 2 * val b := by have := HE.out.2.2.2.2; omega
      have HY := Lib.hid (And.intro hds (And.intro hqs (And.intro hby (And.intro hvy hsm))))
      have HKN := Lib.hid hkn
      have HG := Lib.hid (And.intro hG (And.intro hwG hG2))
      have hk3 : (k : Int) ≤ 50000 := by have := HM.out; omega
      have hnn : n ≤ 50000 := by have := HM.out; have := HJ.out; omega
      have hn3 : (n : Int) ≤ 50000 := by omega
      have HNN := Lib.hid hnn
      have hzl : zs.length = na := by have := hq.1; simpa using this
      have HZL := Lib.hid hzl
      by_cases hless : val ([y] ++ ys) < val b
      · have HL := Lib.hid (decide_eq_true hless)
        have HLT := Lib.hid hless
        clear hds hqs hby hvy hsm hkn hnn hless hyb hy hG2 hwG hG hzl
        go_wp2_with (first
          | (at_builtin; refine wpList_app E_int rfl _ _ rfl rfl (own_lit1 wr (.int .i64 y) _) rfl (sees_own (ho.alloc _)) (ints1 _ _) (by simp [maxLen]; omega) (by omega) (by simp) ?_; intro A4 c4 w4 hown4 hg4 hb4; have hB4 : Below wr.heap.size wr w4 := ((Below.refl _ _).alloc (Nat.le_refl _) _).trans hb4; have hown5 : w4.ownsRow wr.heap.size 3 1 (.slice A4 (1 + n) c4) (1 + n) (([y] ++ ys).map (Value.int .i64)) := (by rw [List.map_append]; exact hown4))
          | (go_at_call 27; refine (Less_any _ _ _ _ _ _ ([y] ++ ys) b _ (by exact sees_own hown5) (by exact hsb.below hB4 (Nat.le_refl _)) HY.out.2.2.1 bb (by have := HM.out; have := HNN.out; omega)).mono ?_; rw [HL.out]; rintro e w5 ⟨rfl, rfl⟩))
        go_roundw
        case rel => exact ⟨k, 1 + n, c4, A4, [y] ++ ys, zs, Lib.hid (by have := HJ.out; have := HKN.out; omega), rfl, jdown k, own_below hq hB4 (Nat.le_refl _), own_base hown5 HG.out.2.2, Lib.hid ⟨HY.out.2.2.1, HE.out.2.1, fun i hi => HE.out.2.2.1 i (by omega), by
            rw [HY.out.1, HY.out.2.1, HY.out.2.2.2.1]
            exact div_step0 _ _ _ _ _ HE.out.2.2.2.1, HLT.out⟩, hbl.trans (hB4.mono (Nat.le_of_lt HG.out.2.2)), Nat.lt_of_lt_of_le HG.out.2.2 hB4.size⟩
        case measure => simp [intOf]
      · have HL := Lib.hid (decide_eq_false hless)
        have HLT : Hid (val b ≤ val ([y] ++ ys)) := Lib.hid (by omega)
        clear hds hqs hby hvy hsm hkn hnn hless hyb hy hG2 hwG hG hzl
        go_wp2_with (first
          | (at_builtin; refine wpList_app E_int rfl _ _ rfl rfl (own_lit1 wr (.int .i64 y) _) rfl (sees_own (ho.alloc _)) (ints1 _ _) (by simp [maxLen]; omega) (by omega) (by simp) ?_; intro A4 c4 w4 hown4 hg4 hb4; have hB4 : Below wr.heap.size wr w4 := ((Below.refl _ _).alloc (Nat.le_refl _) _).trans hb4; have hown5 : w4.ownsRow wr.heap.size 3 1 (.slice A4 (1 + n) c4) (1 + n) (([y] ++ ys).map (Value.int .i64)) := (by rw [List.map_append]; exact hown4))
          | (go_at_call 27; refine (Less_any _ _ _ _ _ _ ([y] ++ ys) b _ (by exact sees_own hown5) (by exact hsb.below hB4 (Nat.le_refl _)) HY.out.2.2.1 bb (by have := HM.out; have := HNN.out; omega)).mono ?_; rw [HL.out]; rintro e w5 ⟨rfl, rfl⟩)
          | (go_at_call 29; refine (Minus_any _ _ _ _ _ _ ([y] ++ ys) b _ (by exact sees_own hown5) (by exact hsb.below hB4 (Nat.le_refl _)) HY.out.2.2.1 bb HLT.out (by have := HNN.out; omega)).mono ?_; rintro e w6 ⟨A6, c6, us, rfl, hown6, hu6, hv6, hb6⟩; have hB6 := below_step hB4 hb6; have hq6 := own_below hq hB6 (Nat.le_refl _); obtain ⟨q1, q2⟩ := own_cellK hq6 HKN.out; have hset := own_setK hq6 k 1; have ho6 := ownsRow_setCell_below (a := ⟨G, k, none⟩) (own_base hown6 (Nat.le_trans HG.out.2.2 hB4.size)) (Nat.lt_succ_self _) (.int .i64 1); have hV6 := Lib.hid hv6; clear hv6))
        go_roundw
        case rel => exact ⟨k, 1 + n, c6, A6, us, zs.set k 1, Lib.hid (by have := HJ.out; have := HKN.out; omega), rfl, jdown k, hset, ho6, Lib.hid ⟨hu6, set_bits HE.out.2.1 k (.inr rfl), fun i hi => by
            have := HE.out.2.2.1 i (by omega)
            rw [List.getD_eq_getElem?_getD] at this ⊢
            rw [List.getElem?_set_ne (by omega)]
            exact this, by
            rw [set_drop (by rw [HZL.out]; exact HKN.out), HY.out.1, hV6.out, HY.out.2.2.2.1]
            exact div_step1 _ _ _ _ _ HE.out.2.2.2.1, by
            have := hV6.out
            have := HY.out.2.2.2.2
            omega⟩, (hbl.trans (hB6.mono (Nat.le_of_lt HG.out.2.2))).setCell (Nat.le_refl _) _, Nat.lt_of_lt_of_le HG.out.2.2 (by have := hB6.size; simpa [World.setCell] using this)⟩
        case measure => simp [intOf]
end Go.Proofs.Ytoglolhjfbpnpaa
