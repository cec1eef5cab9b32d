/- Walks: Period. -/
import Derived.Test.YthidfmkmklnhhaaProg
import Derived.Test.YthidfmkmklnhhaaYo
namespace Go.Proofs.Ythidfmkmklnhhaa
open Go.RowKit
set_option linter.unusedVariables false

/-- Each of the elements before k is as the one p places before it. -/
def per (l : List Int) (k p : Nat) : Prop := ∀ i, p ≤ i → i < k → l.getD i 0 = l.getD (i - p) 0
theorem per_step {l : List Int} {k p : Nat} (h : p ≤ k) : per l (k + 1) p ↔ per l k p ∧ l.getD k 0 = l.getD (k - p) 0 := by
  unfold per
  constructor
  · intro hh
    exact ⟨fun i h1 h2 => hh i h1 (by omega), hh k h (by omega)⟩
  · rintro ⟨h1, h2⟩ i h3 h4
    rcases Nat.lt_or_ge i k with h5 | h5
    · exact h1 i h3 h5
    · rw [show i = k by omega]; exact h2
/-- What 'Period' returns. -/
def PerR (l : List Int) (n : Nat) (a : Int) : Prop := (a = 1 ∧ per l n 1) ∨ (a = 2 ∧ ¬ per l n 1 ∧ per l n 2) ∨ (a = 4 ∧ ¬ per l n 1 ∧ ¬ per l n 2 ∧ per l n 4) ∨ (a = 0 ∧ ¬ per l n 1 ∧ ¬ per l n 2 ∧ ¬ per l n 4)
def pw (j : Nat) : Nat := if j = 0 then 1 else if j = 1 then 2 else 4

set_option maxRecDepth 20000 in
set_option maxHeartbeats 1600000 in
theorem Period_any (A : Option Addr) (n c : Nat) (l : List Int) (w : World) (hs : Sees w 1 A n c (l.map (Value.int .i64))) :
    Calls Try.prog 25 #[.slice A n c] w fun e w' => ∃ a, e = .returned (.int .i64 a) ∧ PerR l n a ∧ Below w.heap.size w w' := by
  have hcm : n ≤ 9223372036854775807 := Nat.le_trans hs.cap hs.capm
  obtain ⟨W, hW⟩ : ∃ W, w.alloc (.cells #[.int .i64 1, .int .i64 2, .int .i64 4] 3) = W := ⟨_, rfl⟩
  have A1 : Arr 3 W w.heap.size #[.int .i64 1, .int .i64 2, .int .i64 4] := by rw [← hW]; exact Arr.new _ _ _
  have hB : Below w.heap.size w W := by rw [← hW]; exact below_al (Below.refl _ _) _
  have HS := Lib.hid (hs.below hB (Nat.le_refl _))
  have HA := Lib.hid (And.intro A1 hB)
  have HW := Lib.hid hW
  clear hs A1 hB hW
  go_enter Try.func25, Try.ntmps25
  go_upto_region 2 with fail
  rw [HW.out]
  go_wp2_with fail
  go_loopw [9] (fun iv wr => ∃ j : Nat, Hid (j ≤ 3) ∧ iv = .int .i64 (j : Int) ∧ Hid (∀ i < j, ¬ per l n (pw i)) ∧ Hid (Below W.heap.size W wr)) (fun iv _ => 3 - (intOf iv).toNat)
  case atStart => exact ⟨0, Lib.hid (Nat.zero_le _), rfl, Lib.hid (fun i hi => by omega), Lib.hid (Below.refl _ _)⟩
  case round =>
    obtain ⟨j, HJ, rfl, HP, HB⟩ := hrel
    by_cases hlt : j < 3
    · have d0 : decide ((j : Int) < 3) = true := by simp; omega
      have d0' : decide (j < 3) = true := by simp; omega
      have hj2 : (j : Int) ≤ 2 := by omega
      obtain ⟨p, hp⟩ : ∃ p, pw j = p := ⟨_, rfl⟩
      have hp4 : 1 ≤ p ∧ p ≤ 4 := by rw [← hp]; unfold pw; split <;> (try split) <;> omega
      have hc : wr.cell? ⟨w.heap.size, j, none⟩ = some (.int .i64 (p : Int)) := by
        rw [(HA.out.1.keep HB.out HA.out.1.lt).c j, ← hp]
        rcases (show j = 0 ∨ j = 1 ∨ j = 2 by omega) with rfl | rfl | rfl <;> rfl
      have HLT := Lib.hid hlt
      have HPP := Lib.hid (And.intro hp hp4)
      clear hlt hp hp4
      go_wp2_with fail
      clear hc
      go_loopw [5, 6] (fun bv kv wq => ∃ (k : Nat) (b : Bool), Hid (p ≤ k ∧ (k ≤ n ∨ k = p)) ∧ kv = .int .i64 (k : Int) ∧ bv = .bool b ∧ Hid (b = true ↔ per l k p) ∧ Hid (Below W.heap.size W wq)) (fun _ kv _ => n - (intOf kv).toNat)
      case atStart => exact ⟨p, true, Lib.hid ⟨Nat.le_refl _, .inr rfl⟩, rfl, rfl, Lib.hid ⟨fun _ i h1 h2 => by omega, fun _ => rfl⟩, HB⟩
      case round =>
        clear HB
        obtain ⟨k, b, HK, rfl, rfl, HBB, HB⟩ := hrel
        by_cases hlt : k < n
        · have d1 : decide ((k : Int) < (n : Int)) = true := by simp; omega
          have d1' : decide (k < n) = true := by simp; omega
          have hkn : (k : Int) < (n : Int) := by omega
          have hpk := HK.out.1
          obtain ⟨g, o, hA, g1⟩ := (HS.out.below HB.out (Nat.le_refl _)).int hlt
          cases hA
          obtain ⟨g', o', hA, g2⟩ := (HS.out.below HB.out (Nat.le_refl _)).int (show k - p < n by omega)
          cases hA
          obtain ⟨x, hx⟩ : ∃ x, l.getD k 0 = x := ⟨_, rfl⟩
          obtain ⟨y, hy⟩ : ∃ y, l.getD (k - p) 0 = y := ⟨_, rfl⟩
          rw [hx] at g1
          rw [hy] at g2
          obtain ⟨q, hq⟩ : ∃ q, k - p = q := ⟨_, rfl⟩
          rw [hq] at g2
          have hkp : (k : Int) - (p : Int) = (q : Int) := by omega
          have hwq : IntKind.i64.wrap (q : Int) = (q : Int) := IntWalk.i64_in _ (by omega)
          have hqn : (q : Int) < (n : Int) := by omega
          have dq : decide (q < n) = true := by simp; omega
          have dq2 : decide ((q : Int) < (n : Int)) = true := by simp; omega
          have HLT2 := Lib.hid hlt
          have hst := per_step (l := l) hpk
          rw [hx, hy] at hst
          have HST := Lib.hid hst
          have HPK := Lib.hid hpk
          clear hlt hx hy hq hst hpk
          cases b with
          | false =>
            have HN : Hid (false = true ↔ per l (k + 1) p) := Lib.hid ⟨fun h => by (cases h), fun h => HBB.out.2 (HST.out.1 h).1⟩
            go_wp2_with fail
            go_quiet (fail)
            go_wp2_with fail
            go_roundw
            case rel => exact ⟨k + 1, false, Lib.hid ⟨by have := HPK.out; omega, .inl HLT2.out⟩, by go_num, rfl, HN, Lib.hid (below_drewN HB.out _)⟩
            case measure => have := HLT2.out; simp [intOf]; omega
          | true =>
            by_cases he : x = y
            · have hE : (x == y) = true := by simpa using he
              have hE' : decide (x = y) = true := decide_eq_true he
              have HN : Hid (true = true ↔ per l (k + 1) p) := Lib.hid ⟨fun _ => HST.out.2 ⟨HBB.out.1 rfl, he⟩, fun _ => rfl⟩
              clear he
              go_wp2_with fail
              go_quiet (fail)
              go_wp2_with fail
              go_roundw
              case rel => exact ⟨k + 1, true, Lib.hid ⟨by have := HPK.out; omega, .inl HLT2.out⟩, by go_num, by simp [hE], Lib.hid ⟨fun _ => HN.out.1 trivial, fun _ => rfl⟩, Lib.hid (below_drewN HB.out _)⟩
              case measure => have := HLT2.out; simp [intOf]; omega
            · have hE : (x == y) = false := by simpa using he
              have hE' : decide (x = y) = false := decide_eq_false he
              have HN : Hid (false = true ↔ per l (k + 1) p) := Lib.hid ⟨fun h => by (cases h), fun h => absurd (HST.out.1 h).2 he⟩
              clear he
              go_wp2_with fail
              go_quiet (fail)
              go_wp2_with fail
              go_roundw
              case rel => exact ⟨k + 1, false, Lib.hid ⟨by have := HPK.out; omega, .inl HLT2.out⟩, by go_num, by simp [hE], HN, Lib.hid (below_drewN HB.out _)⟩
              case measure => have := HLT2.out; simp [intOf]; omega
        · have d1 : decide ((k : Int) < (n : Int)) = false := by simp; omega
          have d1' : decide (k < n) = false := by simp; omega
          have hper : per l k p ↔ per l n p := by
            unfold per
            constructor
            · intro h i h1 h2; exact h i h1 (by omega)
            · intro h i h1 h2; rcases HK.out.2 with hh | hh
              · exact h i h1 (by omega)
              · omega
          have HE : Hid (b = true ↔ per l n p) := Lib.hid (HBB.out.trans hper)
          clear hlt hper
          cases b with
          | false =>
            have HP2 : Hid (∀ i < j + 1, ¬ per l n (pw i)) := Lib.hid fun i hi => by
              rcases Nat.lt_or_ge i j with h | h
              · exact HP.out i h
              · obtain rfl : i = j := by omega
                rw [HPP.out.1]
                exact fun h => by have := HE.out.2 h; cases this
            go_wp2_with fail
            go_roundw
            case rel => exact ⟨j + 1, Lib.hid HLT.out, by go_num, HP2, HB⟩
            case measure => have := HLT.out; simp [intOf]; omega
          | true =>
            have HR : Hid (PerR l n (p : Int)) := Lib.hid (by
              have hpp := HE.out.1 rfl
              have hj := HLT.out
              have hpw := HPP.out.1
              rcases (show j = 0 ∨ j = 1 ∨ j = 2 by omega) with rfl | rfl | rfl
              · have : p = 1 := by rw [← hpw]; rfl
                subst this; exact .inl ⟨rfl, hpp⟩
              · have : p = 2 := by rw [← hpw]; rfl
                subst this; exact .inr (.inl ⟨rfl, HP.out 0 (by decide), hpp⟩)
              · have : p = 4 := by rw [← hpw]; rfl
                subst this; exact .inr (.inr (.inl ⟨rfl, HP.out 0 (by decide), HP.out 1 (by decide), hpp⟩)))
            go_wp2_with fail
            go_ret
            exact ⟨_, rfl, HR.out, HA.out.2.trans (HB.out.mono HA.out.2.size)⟩
    · obtain rfl : j = 3 := by have := HJ.out; omega
      clear hlt
      go_wp2_with fail
      go_ret
      exact ⟨_, rfl, .inr (.inr (.inr ⟨rfl, HP.out 0 (by decide), HP.out 1 (by decide), HP.out 2 (by decide)⟩)), HA.out.2.trans (HB.out.mono HA.out.2.size)⟩
end Go.Proofs.Ythidfmkmklnhhaa
