/- Walks: VarintPrefix. -/
import Derived.Test.YtckklmepncibkaaProg
import Derived.Test.YtckklmepncibkaaVl
import Derived.Test.YtckklmepncibkaaVn
namespace Go.Proofs.Ytckklmepncibkaa
open Go.RowKit
set_option linter.unusedVariables false

/-- Two lists of one length, walked from the end. -/
theorem drop_back {a b : List Int} {k : Nat} (hk : 0 < k) (ha : k < a.length) (hb : k < b.length) (h : a.drop (k + 1) = b.drop (k + 1)) (he : a.getD k 0 = b.getD k 0) : a.drop (k - 1 + 1) = b.drop (k - 1 + 1) := by
  rw [show k - 1 + 1 = k by omega, drop_one ha, drop_one hb, h, he]

set_option maxRecDepth 20000 in
set_option maxHeartbeats 1600000 in
theorem VarintPrefix_any (x y : Nat) (w : World) (hx : x < 18446744073709551616) (hy : y < 18446744073709551616) :
    Calls Try.prog 3 #[.int .u64 (x : Int), .int .u64 (y : Int)] w fun e w' => e = .returned (.bool true) ∧ Below w.heap.size w w' := by
  obtain ⟨na, hna⟩ : ∃ n, (enc x).length = n := ⟨_, rfl⟩
  obtain ⟨nb, hnb⟩ : ∃ n, (enc y).length = n := ⟨_, rfl⟩
  have a1 : 1 ≤ na := hna ▸ enc_pos x
  have a2 : na ≤ 10 := hna ▸ enc_len x
  have b1 : 1 ≤ nb := hnb ▸ enc_pos y
  have b2 : nb ≤ 10 := hnb ▸ enc_len y
  have HNA := Lib.hid hna
  have HNB := Lib.hid hnb
  clear hna hnb
  go_enter Try.func3, Try.ntmps3
  go_wp2_with (first
    | (go_at_call 12; refine (awake_any _).mono ?_; rintro e w1 ⟨rfl, hb1⟩)
    | (go_at_call 13; refine (Write_any _ (by first | exact hx | exact hy) _).mono ?_; (first
        | (rw [HNA.out]; rintro e wA ⟨vA, rfl, ownA, belA⟩; obtain ⟨A, ca, rfl⟩ := own_form ownA)
        | (rw [HNB.out]; rintro e wB ⟨vB, rfl, ownB, belB⟩; obtain ⟨B, cb, rfl⟩ := own_form ownB))))
  have SA := (sees_own ownA).below belB (Nat.le_refl _)
  have SB := sees_own ownB
  have hB := below_step (below_step hb1 belA) belB
  clear ownA ownB belA belB hb1
  have capA := SA.cap
  have capB := SB.cap
  go_loopw [20] (fun i wr => ∃ k : Nat, k ≤ na ∧ i = .int .i64 k ∧ Below wB.heap.size wB wr) (fun i _ => na - (intOf i).toNat)
  case atStart => exact ⟨0, by omega, rfl, Below.refl _ _⟩
  case round =>
    obtain ⟨k, hk, rfl, hb⟩ := hrel
    by_cases hlt : k < na
    · have hcut := run_cutr E_u8 A na ca k (by omega) wr
      have hr := rd_cut hx (show k < (enc x).length by rw [HNA.out]; exact hlt)
      have hs := (SA.below hb (Nat.le_refl _)).pre (Nat.le_of_lt hlt)
      rw [Nat.mul_one, ← List.map_take] at hs
      have hby : Bytes ((enc x).take k) := fun z hz => enc_bytes x z (List.mem_of_mem_take hz)
      have HR := Lib.hid hr
      clear hr
      go_wp2_with (go_at_call 14; refine (Read_any _ _ _ _ _ hs hby).mono ?_; rw [HR.out]; rintro e w4 ⟨rfl, hb4⟩)
      go_roundw
      case rel => exact ⟨k + 1, by omega, by go_num, hb.trans (hb4.mono hb.size)⟩
      case measure => simp [intOf]; omega
    · obtain rfl : k = na := by omega
      have SA' := SA.below hb (Nat.le_refl _)
      have SB' := SB.below hb (Nat.le_refl _)
      have hB' := hB.trans (hb.mono hB.size)
      clear hb hB SA SB hlt hk
      have hmono1 : x ≤ y → k ≤ nb := fun h => by have := enc_mono h; rw [HNA.out, HNB.out] at this; exact this
      have hmono2 : y ≤ x → nb ≤ k := fun h => by have := enc_mono h; rw [HNA.out, HNB.out] at this; exact this
      have hpre : x ≠ y → eqL (enc x) ((enc y).take k) = false := fun h => eqL_ne fun e => h (enc_prefix hx hy (by rw [HNA.out]; exact e))
      have HP := Lib.hid hpre
      clear hpre
      rcases Nat.lt_trichotomy k nb with h1 | h1 | h1
      · have hxy : x < y := by omega
        have hcut := run_cutr E_u8 B nb cb k (by omega) wr
        have hs := SB'.pre (Nat.le_of_lt h1)
        rw [Nat.mul_one, ← List.map_take] at hs
        have g1 : ((x : Int) != (y : Int)) = true := by simp; omega
        have g2 : decide (nb < k) = false := by simp; omega
        have g3 : decide (y < x) = false := by simp; omega
        have g4 : ((k : Int) != (nb : Int)) = true := by simp; omega
        go_wp2_with (go_at_call 15; refine (SameBytes_any _ _ _ _ _ _ _ _ _ SA' hs).mono ?_; rw [HP.out (by omega)]; rintro e w5 ⟨rfl, hb5⟩)
        go_ret
        exact ⟨rfl, hB'.trans (hb5.mono hB'.size)⟩
      · subst h1
        have hlen : (enc x).length = (enc y).length := by rw [HNA.out, HNB.out]
        have g2 : decide (k < k) = false := by simp
        have HE := Lib.hid (fun j => enc_order (k := j) hx hy hlen)
        clear hlen hmono1 hmono2
        have hj1 : (0 : Int) ≤ (k : Int) - 1 := by omega
        have fin : ∀ (u v : Int), Hid (u < v ↔ x < y) → (decide (u < v) == decide (x < y)) = true := fun u v h => by rw [beq_iff_eq, decide_eq_decide]; exact h.out
        have FIN := Lib.hid fin
        clear fin
        by_cases hxy : x = y
        case' pos =>
          have hb5 : Below wr.heap.size wr wr := Below.refl _ _
          have g1 : ((x : Int) != (y : Int)) = false := by simp; omega
          go_wp2
        case' neg =>
          have g1 : ((x : Int) != (y : Int)) = true := by simp; omega
          have hcut := run_cutr E_u8 B k cb k (by omega) wr
          have hs := SB'.pre (Nat.le_refl k)
          rw [Nat.mul_one, ← List.map_take] at hs
          go_wp2_with (go_at_call 15; refine (SameBytes_any _ _ _ _ _ _ _ _ _ SA' hs).mono ?_; rw [HP.out hxy]; rintro e w5 ⟨rfl, hb5⟩)
        all_goals have hB5 := hB'.trans (hb5.mono hB'.size)
        all_goals have SA5 := SA'.below hb5 (Nat.le_refl _)
        all_goals have SB5 := SB'.below hb5 (Nat.le_refl _)
        all_goals clear hB' SA' SB' hb5
        case' neg => clear hcut hs
        all_goals clear g1 g2 hxy
        all_goals (
          go_loopw [11] (fun i w2 => ∃ j : Nat, j < k ∧ i = .int .i64 (j : Int) ∧ Below w.heap.size w w2 ∧ Sees w2 1 A k ca ((enc x).map (Value.int .u8)) ∧ Sees w2 1 B k cb ((enc y).map (Value.int .u8)) ∧ Hid ((enc x).drop (j + 1) = (enc y).drop (j + 1))) (fun i _ => (intOf i).toNat)
          case atStart =>
            refine ⟨k - 1, by omega, ?_, hB5, SA5, SB5, Lib.hid ?_⟩
            · rw [show ((k - 1 : Nat) : Int) = (k : Int) - 1 by omega]
            · rw [List.drop_of_length_le (by rw [HNA.out]; omega), List.drop_of_length_le (by rw [HNB.out]; omega)]
          case round =>
            obtain ⟨j, hj, rfl, hB6, SA6, SB6, HD⟩ := hrel
            have hjx : j < (enc x).length := by rw [HNA.out]; exact hj
            have hjy : j < (enc y).length := by rw [HNB.out]; exact hj
            have HE' := Lib.hid (HE.out j hjx HD.out)
            have HJ := Lib.hid (And.intro hjx hjy)
            obtain ⟨b1, o1, rfl, q1⟩ := SA6.int hj
            obtain ⟨b2, o2, rfl, q2⟩ := SB6.int hj
            have HW := Lib.hid (fun hp he => drop_back (a := enc x) (b := enc y) (k := j) hp hjx hjy HD.out he)
            clear hjx hjy
            generalize (enc x).getD j 0 = u at q1 HE' HW
            generalize (enc y).getD j 0 = v at q2 HE' HW
            by_cases h0 : 0 < j
            · have d0 : decide (0 < (j : Int)) = true := by simp; omega
              have d1 : decide ((j : Int) < 0) = false := by simp
              by_cases huv : u = v
              · have d2 : (u == v) = true := by simp [huv]
                have HD' := Lib.hid (HW.out h0 huv)
                subst huv
                go_wp2_with fail
                go_quiet (fail)
                go_wp2
                go_roundw
                case rel => exact ⟨j - 1, by omega, by go_num, below_drewN hB6 _, SA6.drewN _, SB6.drewN _, HD'⟩
                case measure => simp [intOf]; omega
              · have d2 : (u == v) = false := by simp [huv]
                have HQ := Lib.hid (FIN.out u v (Lib.hid (HE'.out (.inr huv))))
                go_wp2_with fail
                go_quiet (fail)
                go_wp2_with fail
                go_quiet (fail)
                go_wp2
                go_ret
                exact ⟨ret_bool HQ.out, below_drewN (below_drewN hB6 _) _⟩
            · have d0 : decide (0 < (j : Int)) = false := by simp; omega
              have d1 : decide ((j : Int) < 0) = false := by simp
              have hj0 : j = 0 := by omega
              have HQ := Lib.hid (FIN.out u v (Lib.hid (HE'.out (.inl hj0))))
              subst hj0
              rw [Nat.add_zero] at q1 q2
              go_wp2_with fail
              go_quiet (fail)
              go_wp2_with fail
              go_quiet (fail)
              go_wp2
              go_ret
              exact ⟨ret_bool HQ.out, below_drewN (below_drewN hB6 _) _⟩)
      · have hxy : y < x := by omega
        have g0 : decide (k ≤ nb) = false := by simp; omega
        have g3 : decide (x < y) = false := by simp; omega
        have g5 : decide (k < nb) = false := by simp; omega
        have g4 : ((k : Int) != (nb : Int)) = true := by simp; omega
        go_wp2
        go_ret
        exact ⟨rfl, hB'⟩
end Go.Proofs.Ytckklmepncibkaa
