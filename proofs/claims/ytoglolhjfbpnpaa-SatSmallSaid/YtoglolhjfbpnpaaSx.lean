/- Walks: the reference's Less, Minus. -/
import Derived.Test.YtoglolhjfbpnpaaProg
import Derived.Test.YtoglolhjfbpnpaaSw
namespace Go.Proofs.Ytoglolhjfbpnpaa
open Go.RowKit
set_option linter.unusedVariables false

theorem jdown (j : Nat) : (j = 0 ∧ Value.int .i64 ((j : Int) - 1) = .int .i64 (-1)) ∨ ∃ j' : Nat, j = j' + 1 ∧ Value.int .i64 ((j : Int) - 1) = .int .i64 (j' : Int) := by
  cases j with
  | zero => exact .inl ⟨rfl, rfl⟩
  | succ j => exact .inr ⟨j, rfl, by rw [show ((j + 1 : Nat) : Int) - 1 = (j : Int) by omega]⟩

set_option maxRecDepth 20000 in
set_option maxHeartbeats 800000 in
theorem Less_any (A B : Option Addr) (na ca nb cb : Nat) (a b : List Int) (w : World) (ha : Sees w 1 A na ca (a.map (Value.int .i64))) (hb : Sees w 1 B nb cb (b.map (Value.int .i64))) (ba : Bits a) (bb : Bits b) (hn : na ≤ 100000 ∧ nb ≤ 100000) :
    Calls Try.prog 27 #[.slice A na ca, .slice B nb cb] w fun e w' => e = .returned (.bool (decide (val a < val b))) ∧ w = w' := by
  have la := ha.length
  have lb := hb.length
  obtain ⟨m, hm⟩ : ∃ m, (na < nb ∧ m = nb) ∨ (nb ≤ na ∧ m = na) := by
    by_cases h : na < nb
    · exact ⟨nb, .inl ⟨h, rfl⟩⟩
    · exact ⟨na, .inr ⟨by omega, rfl⟩⟩
  have hd : (decide ((na : Int) < (nb : Int)) = true ∧ decide (na < nb) = true ∧ m = nb) ∨ (decide ((na : Int) < (nb : Int)) = false ∧ decide (na < nb) = false ∧ m = na) := by simp; omega
  have hm2 : (m : Int) ≤ 100000 := by omega
  have HM2 : Hid (m ≤ 100000) := Lib.hid (by omega)
  have hna : (na : Int) ≤ 100000 := by omega
  have hnb : (nb : Int) ≤ 100000 := by omega
  have hst := less_start a b (n := m) (by omega) (by omega)
  have HST := Lib.hid hst
  have HN := Lib.hid hn
  clear hst hm la lb hn
  rcases hd with ⟨d1, d1', rfl⟩ | ⟨d1, d1', rfl⟩
  all_goals go_enter Try.func27, Try.ntmps27
  all_goals go_wp2
  all_goals (
    go_loopw [6] (fun i wr => ∃ (j : Nat), Hid (j ≤ 100000) ∧ (j = 0 ∧ i = .int .i64 (-1) ∨ ∃ k : Nat, j = k + 1 ∧ i = .int .i64 (k : Int)) ∧ Hid (val (a.drop j) = val (b.drop j)) ∧ w = wr) (fun i _ => ((intOf i) + 1).toNat)
    case atStart => exact ⟨_, HM2, jdown _, HST, rfl⟩
    case round =>
      obtain ⟨j, HJ, hi, HE, rfl⟩ := hrel
      rcases hi with ⟨rfl, rfl⟩ | ⟨k, rfl, rfl⟩
      · have hf : decide (val a < val b) = false := by have := less_none HE.out; simp; omega
        have HF := Lib.hid hf
        clear hf
        go_wp2
        go_ret
        exact ⟨ret_bool HF.out.symm, rfl⟩
      · have hk2 : (k : Int) ≤ 100000 := by have := HJ.out; omega
        obtain ⟨x, hx⟩ : ∃ x, a.getD k 0 = x := ⟨_, rfl⟩
        obtain ⟨y, hy⟩ : ∃ x, b.getD k 0 = x := ⟨_, rfl⟩
        have HX := Lib.hid hx
        have HY := Lib.hid hy
        clear hx hy
        by_cases hxy : x = y
        · have HXY := Lib.hid hxy
          clear hxy
          have HYX : Hid (a.getD k 0 = y) := Lib.hid (HX.out.trans HXY.out)
          go_wp2_with (go_at_call 35; refine (at_any _ _ _ _ _ _ (by first | exact ha | exact hb)).mono ?_; (first | rw [HYX.out] | rw [HY.out]); rintro e w2 ⟨rfl, rfl⟩)
          go_roundw
          case rel => exact ⟨k, Lib.hid (Nat.le_of_succ_le HJ.out), jdown k, Lib.hid (less_step HE.out (HYX.out.trans HY.out.symm)), trivial⟩
          case measure => simp [intOf]
        · have hne : (x == y) = false := by simpa using hxy
          have hlt := less_at ba bb HE.out (by rw [HX.out, HY.out]; exact hxy)
          rw [HX.out, HY.out] at hlt
          have hd2 : decide (val a < val b) = decide (x < y) := by simp only [hlt]
          have HD := Lib.hid hd2
          clear hd2 hlt hxy
          go_wp2_with (go_at_call 35; refine (at_any _ _ _ _ _ _ (by first | exact ha | exact hb)).mono ?_; (first | rw [HX.out] | rw [HY.out]); rintro e w2 ⟨rfl, rfl⟩)
          go_ret
          exact ⟨ret_bool HD.out.symm, rfl⟩)

theorem at_same (A : Option Addr) (n c : Nat) (l : List Int) (i : Nat) (w : World) {y : Int} (h : Sees w 1 A n c (l.map (Value.int .i64))) (hy : Hid (l.getD i 0 = y)) :
    Calls Try.prog 35 #[.slice A n c, .int .i64 (i : Int)] w fun e w' => e = .returned (.int .i64 y) ∧ w' = w :=
  (at_any A n c l i w h).mono fun e w' h => by rw [hy.out] at h; exact ⟨h.1, h.2.symm⟩

set_option maxRecDepth 20000 in
set_option maxHeartbeats 800000 in
theorem Minus_any (A B : Option Addr) (na ca nb cb : Nat) (a b : List Int) (w : World) (ha : Sees w 1 A na ca (a.map (Value.int .i64))) (hb : Sees w 1 B nb cb (b.map (Value.int .i64))) (ba : Bits a) (bb : Bits b) (hle : val b ≤ val a) (hn : na ≤ 100000) :
    Calls Try.prog 29 #[.slice A na ca, .slice B nb cb] w fun e w' => ∃ A' c ys, e = .returned (.slice A' na c) ∧ w'.ownsRow w.heap.size 3 1 (.slice A' na c) na (ys.map (Value.int .i64)) ∧ Bits ys ∧ val ys = val a - val b ∧ Below w.heap.size w w' := by
  have la := ha.length
  have HM := Lib.hid (And.intro la hle)
  have hm3 : (na : Int) ≤ 100000 := by omega
  clear la hle
  go_enter Try.func29, Try.ntmps29
  go_wp2
  go_loopw [5, 6, 7] (fun v cy i wr => ∃ (k c' : Nat) (A' : Option Addr) (ys : List Int) (q : Int), i = .int .i64 (k : Int) ∧ Hid (k ≤ na) ∧ cy = .int .i64 q ∧ Hid (q = 0 ∨ q = 1) ∧ v = .slice A' k c' ∧ wr.ownsRow w.heap.size 3 1 (.slice A' k c') k (ys.map (Value.int .i64)) ∧ Hid (Bits ys ∧ val ys + val (b.take k) = val (a.take k) + 2 ^ k * q) ∧ Below w.heap.size w wr) (fun _ _ i _ => na - (intOf i).toNat)
  case atStart => exact ⟨0, 0, none, [], 0, rfl, Lib.hid (by omega), rfl, Lib.hid (.inl rfl), rfl, World.ownsRow_nil _ _ _ _, Lib.hid ⟨Bits.nil, by simp [val]⟩, Below.refl _ _⟩
  case round =>
    obtain ⟨k, c', A', ys, q, rfl, HK, rfl, HQ, rfl, ho, HY, hbl⟩ := hrel
    by_cases hlt : k < na
    · have HL := Lib.hid hlt
      have d1 : decide ((k : Int) < (na : Int)) = true := by simp; omega
      have hk2 : (k : Int) ≤ 100000 := by omega
      have hsa := ha.below hbl (Nat.le_refl _)
      have hsb := hb.below hbl (Nat.le_refl _)
      obtain ⟨b1, o1, hA1, g1⟩ := hsa.int hlt
      cases hA1
      obtain ⟨x, hx⟩ : ∃ x, a.getD k 0 = x := ⟨_, rfl⟩
      obtain ⟨y, hy⟩ : ∃ x, b.getD k 0 = x := ⟨_, rfl⟩
      have hxb := ba.at_ k
      have hyb := bb.at_ k
      rw [hx] at hxb
      rw [hy] at hyb
      rw [hx] at g1
      have hx2 : 0 ≤ x ∧ x ≤ 1 := by omega
      have hy2 : 0 ≤ y ∧ y ≤ 1 := by omega
      have hq2 : 0 ≤ q ∧ q ≤ 1 := by have := HQ.out; omega
      have hst := fun d c' hn => minus_step (2 ^ k) (val ys) (val (a.take k)) (val (b.take k)) x y q d c' hxb hyb HQ.out hn HY.out.2
      rw [← pow_suc2, ← hx, ← take_step, ← hy, ← take_step, hx, hy] at hst
      have HX := Lib.hid hx
      have HYY := Lib.hid hy
      have HST := Lib.hid hst
      clear hx hy hst hxb hyb hlt
      by_cases hneg : x - y - q < 0
      · have d2 : decide (x - y - q < 0) = true := by simp; omega
        have hs2 := HST.out (x - y - q + 2) 1 (.inr ⟨hneg, rfl, rfl⟩)
        have HS := Lib.hid hs2
        have hn1 : -2 ≤ x - y - q := by omega
        clear hs2
        go_wp2_with fail
        go_quiet ((go_at_call 35; exact Calls.quiet_of_same (at_same _ _ _ _ _ _ (hsb.drewN _) HYY)))
        have ho2 := own_below ho (below_drewN (Below.refl wr.heap.size wr) nq) (Nat.le_refl _)
        have hbl2 := below_drewN hbl nq
        generalize wr.drewN nq = w3 at ho2 hbl2 ⊢
        go_wp2_with (at_builtin; refine wpList_app E_int rfl _ _ rfl rfl (ho2.alloc _) rfl (Sees.one _ _ _) (one1 rfl) (by simp [maxLen]; omega) (by omega) (by have := hbl2.size; simp; omega) ?_; intro A4 c4 w4 hown4 hg4 hb4)
        go_roundw
        case rel => exact ⟨k + 1, c4, A4, ys ++ [x - y - q + 2], 1, by go_num, HL.out, rfl, Lib.hid (by decide), rfl, by rw [List.map_append]; exact hown4, Lib.hid ⟨HY.out.1.app (Bits.one HS.out.2.1), by
            have hl : ys.length = k := (sees_own ho).length
            rw [val_app, val_one, hl]; exact HS.out.1⟩, (hbl2.alloc hbl2.size _).trans hb4⟩
        case measure => have := HL.out; simp [intOf]; omega
      · have d2 : decide (x - y - q < 0) = false := by simp; omega
        have hs2 := HST.out (x - y - q) 0 (.inl ⟨by omega, rfl, rfl⟩)
        have HS := Lib.hid hs2
        have hn1 : 0 ≤ x - y - q ∧ x - y - q ≤ 1 := by omega
        have hn2 : ¬ x - y - q < 0 := by omega
        clear hs2
        go_wp2_with fail
        go_quiet ((go_at_call 35; exact Calls.quiet_of_same (at_same _ _ _ _ _ _ (hsb.drewN _) HYY)))
        have ho2 := own_below ho (below_drewN (Below.refl wr.heap.size wr) nq) (Nat.le_refl _)
        have hbl2 := below_drewN hbl nq
        generalize wr.drewN nq = w3 at ho2 hbl2 ⊢
        go_wp2_with (at_builtin; refine wpList_app E_int rfl _ _ rfl rfl (ho2.alloc _) rfl (Sees.one _ _ _) (one1 rfl) (by simp [maxLen]; omega) (by omega) (by have := hbl2.size; simp; omega) ?_; intro A4 c4 w4 hown4 hg4 hb4)
        go_roundw
        case rel => exact ⟨k + 1, c4, A4, ys ++ [x - y - q], 0, by go_num, HL.out, rfl, Lib.hid (by decide), rfl, by rw [List.map_append]; exact hown4, Lib.hid ⟨HY.out.1.app (Bits.one HS.out.2.1), by
            have hl : ys.length = k := (sees_own ho).length
            rw [val_app, val_one, hl]; exact HS.out.1⟩, (hbl2.alloc hbl2.size _).trans hb4⟩
        case measure => have := HL.out; simp [intOf]; omega
    · have hkm : k = na := by have := HK.out; omega
      have d1 : decide ((k : Int) < (na : Int)) = false := by simp; omega
      have d1' : decide (k < na) = false := by simp; omega
      clear hlt
      have HKM := Lib.hid hkm
      clear hkm
      go_wp2
      go_ret
      obtain rfl := HKM.out
      refine ⟨A', c', ys, rfl, ho, HY.out.1, ?_, hbl⟩
      have e := val_split b k
      have l1 := HM.out.1
      have t := HY.out.2
      rw [List.take_of_length_le (show a.length ≤ k by omega)] at t
      rw [e]
      exact minus_end (2 ^ k) (val ys) (val a) _ _ q (take_lt bb k).1 (drop_pos bb k) HQ.out t (by rw [← e]; exact HM.out.2) (val_le_pow ba (by omega)) (val_le_pow HY.out.1 (by have := (sees_own ho).length; omega)) (val_range HY.out.1).1
end Go.Proofs.Ytoglolhjfbpnpaa
