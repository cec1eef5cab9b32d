/- Walks: the reference's Stopped, Times, Divide. -/
import Derived.Test.YtoglolhjfbpnpaaProg
import Derived.Test.YtoglolhjfbpnpaaSy
namespace Go.Proofs.Ytoglolhjfbpnpaa
open Go.RowKit
set_option linter.unusedVariables false

/-- A number that stops at the greatest one. -/
def stopI (V : Int) : Int := if V < 18446744073709551616 then V else 18446744073709551615

theorem beyond_iff {l : List Int} (bl : Bits l) : (0 < val (l.drop (0 + 64))) ↔ ¬ val l < 18446744073709551616 := by
  have e := val_split l 64
  have t := take_lt bl 64
  have d := drop_pos bl 64
  have e2 : (2 : Int) ^ 64 = 18446744073709551616 := by decide
  rw [e2] at e t
  rw [Nat.zero_add]
  omega

set_option maxRecDepth 20000 in
theorem Stopped_any (A : Option Addr) (n c : Nat) (l : List Int) (w : World) (h : Sees w 1 A n c (l.map (Value.int .i64))) (bl : Bits l) (hn : n ≤ 100000) :
    Calls Try.prog 28 #[.slice A n c] w fun e w' => e = .returned (.int .u64 (stopI (val l))) ∧ w = w' := by
  have hi := beyond_iff bl
  have h0 := (val_range bl).1
  have HN := Number_any A n c l 0 w h bl hn (by omega) (by omega)
  rw [List.drop_zero] at HN
  by_cases hb : val l < 18446744073709551616
  · have e1 : decide (0 < val (l.drop (0 + 64))) = false := by simp only [hi]; simp; omega
    have e2 : stopI (val l) = val l := by unfold stopI; rw [if_pos hb]
    have e3 : val l % 18446744073709551616 = val l := Int.emod_eq_of_lt h0 hb
    rw [e1, e3] at HN
    rw [e2]
    have HH := Lib.hid HN
    clear HN hi e1 e2 e3 hb h0
    go_enter Try.func28, Try.ntmps28
    go_wp2_with (go_at_call 26; refine HH.out.mono ?_; rintro e w2 ⟨rfl, rfl⟩)
    go_ret
    exact ⟨rfl, rfl⟩
  · have e1 : decide (0 < val (l.drop (0 + 64))) = true := by simp only [hi]; simp; omega
    have e2 : stopI (val l) = 18446744073709551615 := by unfold stopI; rw [if_neg hb]
    rw [e1] at HN
    rw [e2]
    have HH := Lib.hid HN
    clear HN hi e1 e2 hb h0
    go_enter Try.func28, Try.ntmps28
    go_wp2_with (go_at_call 26; refine HH.out.mono ?_; rintro e w2 ⟨rfl, rfl⟩)
    go_ret
    exact ⟨rfl, rfl⟩

theorem times_step (a V y : Int) (hy : y = 0 ∨ y = 1) (T : Int) (hT : T = a * V) (R : Int) (hR : y = 1 ∧ R = 2 * T + a ∨ y = 0 ∧ R = 2 * T) : R = a * (y + 2 * V) := by
  subst hT
  rw [Int.mul_add, Int.mul_left_comm a 2 V]
  rcases hR with ⟨rfl, rfl⟩ | ⟨rfl, rfl⟩
  · omega
  · simp

set_option maxRecDepth 20000 in
set_option maxHeartbeats 800000 in
theorem Times_any (A B : Option Addr) (na ca nb cb : Nat) (a b : List Int) (w : World) (ha : Sees w 1 A na ca (a.map (Value.int .i64))) (hb : Sees w 1 B nb cb (b.map (Value.int .i64))) (ba : Bits a) (bb : Bits b) (hn : na + 2 * nb ≤ 50000) :
    Calls Try.prog 25 #[.slice A na ca, .slice B nb cb] w fun e w' => ∃ A' n c ys, e = .returned (.slice A' n c) ∧ Sees w' 1 A' n c (ys.map (Value.int .i64)) ∧ n ≤ na + 2 * nb ∧ nb ≤ n ∧ Bits ys ∧ val ys = val a * val b ∧ Below w.heap.size w w' := by
  have lb := hb.length
  have HM : Hid (na + 2 * nb ≤ 50000 ∧ b.length = nb) := Lib.hid ⟨hn, lb⟩
  have hb3 : (nb : Int) ≤ 50000 := by omega
  clear lb hn
  go_enter Try.func25, Try.ntmps25
  go_wp2
  go_loopw [5, 6] (fun v i wr => ∃ (j n c' : Nat) (A' : Option Addr) (ys : List Int), Hid (j ≤ nb ∧ n + 2 * j ≤ na + 2 * nb ∧ nb ≤ n + j) ∧ v = .slice A' n c' ∧ (j = 0 ∧ i = .int .i64 (-1) ∨ ∃ k : Nat, j = k + 1 ∧ i = .int .i64 (k : Int)) ∧ Sees wr 1 A' n c' (ys.map (Value.int .i64)) ∧ Hid (Bits ys ∧ val ys = val a * val (b.drop j)) ∧ Below w.heap.size w wr) (fun _ i _ => ((intOf i) + 1).toNat)
  case atStart => exact ⟨nb, 0, 0, none, [], Lib.hid ⟨by omega, by omega, by omega⟩, rfl, jdown nb, Sees.nil _ _ _ _ (Nat.zero_le _) (fun _ => rfl), Lib.hid ⟨Bits.nil, by rw [List.drop_eq_nil_of_le (by have := HM.out; omega)]; simp [val]⟩, Below.refl _ _⟩
  case round =>
    obtain ⟨j, n, c', A', ys, HJ, rfl, hi, hs, HE, hbl⟩ := hrel
    rcases hi with ⟨rfl, rfl⟩ | ⟨k, rfl, rfl⟩
    · go_wp2
      go_ret
      exact ⟨A', n, c', ys, rfl, hs, by have := HJ.out; omega, by have := HJ.out; omega, HE.out.1, by have := HE.out.2; rwa [List.drop_zero] at this, hbl⟩
    · have hkn : k < nb := by have := HJ.out; omega
      have hsb := hb.below hbl (Nat.le_refl _)
      have hsa := ha.below hbl (Nat.le_refl _)
      obtain ⟨y, hy⟩ : ∃ x, b.getD k 0 = x := ⟨_, rfl⟩
      have hyb := bb.at_ k
      rw [hy] at hyb
      have hds := drop_step b k
      rw [hy] at hds
      have HY := Lib.hid (And.intro hds hyb)
      have HKN := Lib.hid hkn
      have hk3 : (k : Int) ≤ 50000 := by have := HM.out; omega
      have hn3 : (n : Int) ≤ 50000 := by have := HM.out; have := HJ.out; omega
      have hlen := hs.length
      have HLEN := Lib.hid hlen
      rcases hyb with rfl | rfl
      · clear hds hkn hlen
        go_wp2_with (at_builtin; refine wpList_appV E_int rfl _ _ rfl rfl (Sees.one_at (.int .i64 0) _ rfl) rfl (hs.below ((Below.refl _ _).alloc (Nat.le_refl _) _) (Nat.le_refl _)) (ints1 _ _) (by simp [maxLen]; omega) (by omega) ?_; intro A4 c4 w4 hS4 hb4; have hS5 : Sees w4 1 A4 (1 + n) c4 (([0] ++ ys).map (Value.int .i64)) := (by rw [List.map_append]; exact hS4); have hB4 : Below wr.heap.size wr w4 := (((Below.refl _ _).alloc (Nat.le_refl _) _).trans (hb4.mono (by simp))); obtain ⟨b1, o1, hA1, g1⟩ := (hsb.below hB4 (Nat.le_refl _)).int HKN.out; cases hA1; rw [hy] at g1)
        go_roundw
        case rel => exact ⟨k, 1 + n, c4, A4, [0] ++ ys, Lib.hid (by have := HJ.out; have := HKN.out; omega), rfl, jdown k, hS5, Lib.hid ⟨Bits.cons (.inl rfl) HE.out.1, by
            rw [HY.out.1]
            exact times_step (val a) _ 0 (.inl rfl) _ HE.out.2 _ (.inr ⟨rfl, by simp [val]⟩)⟩, hbl.trans (hB4.mono hbl.size)⟩
        case measure => simp [intOf]
      · clear hds hkn hlen
        obtain ⟨m, hm⟩ : ∃ m, 1 + n ≤ m ∧ na ≤ m ∧ (m = 1 + n ∨ m = na) := by
          by_cases h : na ≤ 1 + n
          · exact ⟨1 + n, by omega, h, .inl rfl⟩
          · exact ⟨na, by omega, by omega, .inr rfl⟩
        have hm3 : m ≤ 100000 := by have := HM.out; omega
        have HMM := Lib.hid (And.intro hm hm3)
        clear hm hm3
        go_wp2_with (first
          | (at_builtin; refine wpList_appV E_int rfl _ _ rfl rfl (Sees.one_at (.int .i64 0) _ rfl) rfl (hs.below ((Below.refl _ _).alloc (Nat.le_refl _) _) (Nat.le_refl _)) (ints1 _ _) (by simp [maxLen]; omega) (by omega) ?_; intro A4 c4 w4 hS4 hb4; have hS5 : Sees w4 1 A4 (1 + n) c4 (([0] ++ ys).map (Value.int .i64)) := (by rw [List.map_append]; exact hS4); have hB4 : Below wr.heap.size wr w4 := (((Below.refl _ _).alloc (Nat.le_refl _) _).trans (hb4.mono (by simp))); obtain ⟨b1, o1, hA1, g1⟩ := (hsb.below hB4 (Nat.le_refl _)).int HKN.out; cases hA1; rw [hy] at g1)
          | (go_at_call 30; refine (Plus_any _ _ _ _ _ _ m ([0] ++ ys) a _ (by exact hS5) (by exact hsa.below hB4 (Nat.le_refl _)) (Bits.cons (.inl rfl) HE.out.1) ba HMM.out.1 HMM.out.2).mono ?_; rintro e w5 ⟨A5, c5, zs, rfl, hown5, hz5, hv5, hb5⟩; have hB5 := below_step hB4 hb5))
        go_roundw
        case rel => exact ⟨k, m + 1, c5, A5, zs, Lib.hid (by have := HJ.out; have := HKN.out; have := HMM.out; omega), rfl, jdown k, sees_own hown5, Lib.hid ⟨hz5, by
            rw [HY.out.1]
            exact times_step (val a) _ 1 (.inr rfl) _ HE.out.2 _ (.inl ⟨rfl, by rw [hv5]; simp [val]⟩)⟩, hbl.trans (hB5.mono hbl.size)⟩
        case measure => simp [intOf]
end Go.Proofs.Ytoglolhjfbpnpaa
