/- Walks: SatSmall. -/
import Derived.Test.YtoglolhjfbpnpaaProg
import Derived.Test.YtoglolhjfbpnpaaTd
import Derived.Test.YtoglolhjfbpnpaaTb
import Derived.Test.YtoglolhjfbpnpaaTc
namespace Go.Proofs.Ytoglolhjfbpnpaa
open Go.RowKit
set_option linter.unusedVariables false

def small12 : List Nat := [0, 1, 2, 3, 2147483647, 4294967296, 4294967297, 9223372036854775807, 9223372036854775808, 9223372036854775809, 18446744073709551614, 18446744073709551615]
theorem small12_lt : ∀ x ∈ small12, x < 18446744073709551616 := by unfold small12; decide
theorem sees2g (w : World) (g a b : Nat) (hg : g = w.heap.size) : Sees (w.alloc (.cells #[.int .u64 (a : Int), .int .u64 (b : Int)] 22)) 1 (some ⟨g, 0, none⟩) 2 2 (([a, b].map Int.ofNat).map (Value.int .u64)) := by
  subst hg; exact sees_block (heap_alloc_new _ _) rfl (by decide) (by decide) ⟨[], rfl⟩
theorem lt2 {a b : Nat} (ha : a < 18446744073709551616) (hb : b < 18446744073709551616) : ∀ x ∈ [a, b], x < 18446744073709551616 := by
  intro x hx; simp only [List.mem_cons, List.not_mem_nil, or_false] at hx; rcases hx with rfl | rfl <;> assumption

set_option maxRecDepth 20000 in
set_option maxHeartbeats 3200000 in
theorem SatSmall_any (w : World) : Calls Try.prog 10 #[] w fun e w' => e = .returned (.bool true) ∧ Below w.heap.size w w' := by
  go_enter Try.func10, Try.ntmps10
  go_wp2
  have hF : Sees (w.alloc (.cells #[.int .u64 0, .int .u64 1, .int .u64 2, .int .u64 3, .int .u64 2147483647, .int .u64 4294967296, .int .u64 4294967297, .int .u64 9223372036854775807, .int .u64 9223372036854775808, .int .u64 9223372036854775809, .int .u64 18446744073709551614, .int .u64 18446744073709551615] 22)) 1 (some ⟨w.heap.size, 0, none⟩) 12 12 ((small12.map Int.ofNat).map (Value.int .u64)) := sees_block (heap_alloc_new _ _) rfl (by decide) (by decide) ⟨[], rfl⟩
  have hL := small12_lt
  have hBF : Below w.heap.size w (w.alloc (.cells #[.int .u64 0, .int .u64 1, .int .u64 2, .int .u64 3, .int .u64 2147483647, .int .u64 4294967296, .int .u64 4294967297, .int .u64 9223372036854775807, .int .u64 9223372036854775808, .int .u64 9223372036854775809, .int .u64 18446744073709551614, .int .u64 18446744073709551615] 22)) := (Below.refl _ _).alloc (Nat.le_refl _) _
  revert hF hBF hL
  generalize w.alloc (.cells #[.int .u64 0, .int .u64 1, .int .u64 2, .int .u64 3, .int .u64 2147483647, .int .u64 4294967296, .int .u64 4294967297, .int .u64 9223372036854775807, .int .u64 9223372036854775808, .int .u64 9223372036854775809, .int .u64 18446744073709551614, .int .u64 18446744073709551615] 22) = wF
  generalize small12 = L
  have HW : Hid (∃ g, w.heap.size = g) := Lib.hid ⟨_, rfl⟩
  obtain ⟨gF, hgF⟩ := HW.out
  rw [hgF]
  intro hF hL hBF
  have HGF := Lib.hid hgF
  clear hgF HW
  go_loopw [11] (fun i wr => ∃ i1 : Nat, Hid (i1 ≤ 12) ∧ i = .int .i64 (i1 : Int) ∧ Below wF.heap.size wF wr) (fun i _ => 12 - (intOf i).toNat)
  case atStart => exact ⟨0, Lib.hid (by omega), rfl, Below.refl _ _⟩
  case round =>
    obtain ⟨i1, HI, rfl, hb⟩ := hrel
    by_cases hlt : i1 < 12
    · obtain ⟨b1, o1, hA1, g1⟩ := (hF.below hb (Nat.le_refl _)).int hlt
      cases hA1
      rw [nat_getD, Nat.zero_add] at g1
      have ha := nat_at hL i1
      generalize L.getD i1 0 = a at g1 ha
      have HA := Lib.hid ha
      have HI1 := Lib.hid hlt
      have d1 : decide ((i1 : Int) < 12) = true := by simp; omega
      have hi1 : (i1 : Int) ≤ 11 := by omega
      clear ha hlt
      go_wp2
      clear g1 d1
      go_loopw [17] (fun i wr => ∃ i2 : Nat, Hid (i2 ≤ 12) ∧ i = .int .i64 (i2 : Int) ∧ Below wF.heap.size wF wr) (fun i _ => 12 - (intOf i).toNat)
      case atStart => exact ⟨0, Lib.hid (by omega), rfl, hb⟩
      case round =>
        clear hb
        obtain ⟨i2, HI', rfl, hb⟩ := hrel
        by_cases hlt : i2 < 12
        · obtain ⟨b2, o2, hA2, g2⟩ := (hF.below hb (Nat.le_refl _)).int hlt
          cases hA2
          rw [nat_getD, Nat.zero_add] at g2
          have hbb := nat_at hL i2
          generalize L.getD i2 0 = b at g2 hbb
          have HB := Lib.hid hbb
          have HI2 := Lib.hid hlt
          have d1 : decide ((i2 : Int) < 12) = true := by simp; omega
          have hi2 : (i2 : Int) ≤ 11 := by omega
          clear hbb hlt
          go_wp2_with (go_at_call 21; refine (sums_any _ _ _ [a, b] _ (by exact sees2g _ _ a b (by rfl)) (lt2 HA.out HB.out)).mono ?_; rintro e w3 ⟨rfl, hb3⟩)
          have hB3 := hb.trans ((((Below.refl _ _).alloc (Nat.le_refl _) _).trans (hb3.mono (by simp))).mono hb.size)
          clear hb3 hb g2 d1
          go_loopw [28] (fun i wr => ∃ i3 : Nat, Hid (i3 ≤ 12) ∧ i = .int .i64 (i3 : Int) ∧ Below wF.heap.size wF wr) (fun i _ => 12 - (intOf i).toNat)
          case atStart => exact ⟨0, Lib.hid (by omega), rfl, hB3⟩
          case round =>
            clear hB3
            obtain ⟨i3, HI'', rfl, hb⟩ := hrel
            by_cases hlt : i3 < 12
            · obtain ⟨b3, o3, hA3, g3⟩ := (hF.below hb (Nat.le_refl _)).int hlt
              cases hA3
              rw [nat_getD, Nat.zero_add] at g3
              have hcc := nat_at hL i3
              generalize L.getD i3 0 = c at g3 hcc
              have HC := Lib.hid hcc
              have HI3 := Lib.hid hlt
              have d1 : decide ((i3 : Int) < 12) = true := by simp; omega
              have hi3 : (i3 : Int) ≤ 11 := by omega
              have hmod : (i3 : Int) % 2 = 0 ∨ (i3 : Int) % 2 = 1 := by omega
              clear hcc hlt
              rcases hmod with hmod | hmod
              · go_wp2_with (first
                  | (go_at_call 12; refine (tells_any a b c _ HA.out HB.out HC.out).mono ?_; rintro e w4 ⟨rfl, hb4⟩)
                  | (go_at_call 14; refine (divides_any a b c _ HA.out HB.out HC.out).mono ?_; rintro e w5 ⟨rfl, hb5⟩))
                go_roundw
                case rel => exact ⟨i3 + 1, Lib.hid HI3.out, by go_num, hb.trans ((below_step hb4 hb5).mono hb.size)⟩
                case measure => have := HI3.out; simp [intOf]; omega
              · go_wp2_with (first
                  | (go_at_call 12; refine (tells_any a b c _ HA.out HB.out HC.out).mono ?_; rintro e w4 ⟨rfl, hb4⟩)
                  | (go_at_call 14; refine (divides_any c a b _ HC.out HA.out HB.out).mono ?_; rintro e w5 ⟨rfl, hb5⟩))
                go_roundw
                case rel => exact ⟨i3 + 1, Lib.hid HI3.out, by go_num, hb.trans ((below_step hb4 hb5).mono hb.size)⟩
                case measure => have := HI3.out; simp [intOf]; omega
            · have d1 : decide ((i3 : Int) < 12) = false := by simp; omega
              clear hlt
              go_wp2
              go_roundw
              case rel => exact ⟨i2 + 1, Lib.hid HI2.out, by go_num, hb⟩
              case measure => have := HI2.out; simp [intOf]; omega
        · have d1 : decide ((i2 : Int) < 12) = false := by simp; omega
          clear hlt
          go_wp2
          go_roundw
          case rel => exact ⟨i1 + 1, Lib.hid HI1.out, by go_num, hb⟩
          case measure => have := HI1.out; simp [intOf]; omega
    · have d1 : decide ((i1 : Int) < 12) = false := by simp; omega
      clear hlt
      go_wp2_with (first
        | (go_at_call 21; refine (sums_any none 0 0 [] _ (Sees.nil _ _ _ _ (Nat.zero_le _) fun _ => rfl) (by intro x hx; simp at hx)).mono ?_; rintro e w6 ⟨rfl, hb6⟩)
        | (go_at_call 22; refine (Sum_any none 0 0 [] _ (Sees.nil _ _ _ _ (Nat.zero_le _) fun _ => rfl) (by intro x hx; simp at hx)).mono ?_; rintro e w7 ⟨rfl, rfl⟩)
        | (go_at_call 13; refine (awake_any _).mono ?_; rintro e w8 ⟨rfl, hb8⟩))
      go_ret
      exact ⟨rfl, by rw [HGF.out]; exact hBF.trans ((hb.trans ((below_step hb6 hb8).mono hb.size)).mono (by have := hBF.size; rwa [HGF.out] at this))⟩
end Go.Proofs.Ytoglolhjfbpnpaa
