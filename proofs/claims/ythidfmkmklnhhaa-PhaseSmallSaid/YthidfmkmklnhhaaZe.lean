/- Walks: the reference's Period; the law's same. -/
import Derived.Test.YthidfmkmklnhhaaProg
import Derived.Test.YthidfmkmklnhhaaZd
import Derived.Deep.DeepCutAuto
import Derived.Deep.QuietTactic
namespace Go.Proofs.Ythidfmkmklnhhaa
open Go.RowKit
set_option linter.unusedVariables false

theorem PerR.one {l : List Int} {n : Nat} {a b : Int} (h : PerR l n a) (k : PerR l n b) : a = b := by
  rcases h with ⟨rfl, h1⟩ | ⟨rfl, h1, h2⟩ | ⟨rfl, h1, h2, h3⟩ | ⟨rfl, h1, h2, h3⟩ <;>
  rcases k with ⟨rfl, k1⟩ | ⟨rfl, k1, k2⟩ | ⟨rfl, k1, k2, k3⟩ | ⟨rfl, k1, k2, k3⟩ <;> first | rfl | exact absurd ‹per l n 1› ‹¬ per l n 1› | exact absurd ‹per l n 2› ‹¬ per l n 2› | exact absurd ‹per l n 4› ‹¬ per l n 4›
/-- Each of the first k elements is as the one p places behind it. -/
def pfw (l : List Int) (p k : Nat) : Prop := ∀ i, i < k → l.getD i 0 = l.getD (i + p) 0
theorem pfw_step {l : List Int} {p k : Nat} : pfw l p (k + 1) ↔ pfw l p k ∧ l.getD k 0 = l.getD (k + p) 0 := by
  unfold pfw
  constructor
  · intro h; exact ⟨fun i hi => h i (by omega), h k (by omega)⟩
  · rintro ⟨h1, h2⟩ i hi
    rcases Nat.lt_or_ge i k with h | h
    · exact h1 i h
    · rw [show i = k by omega]; exact h2
theorem pfw_all {l : List Int} {n p k : Nat} (h1 : k = 0 ∨ k + p ≤ n) (h2 : ¬ k + p < n) : pfw l p k ↔ per l n p := by
  unfold pfw per
  constructor
  · intro h i h3 h4
    have h5 := h (i - p) (by omega)
    rw [show i - p + p = i by omega] at h5
    exact h5.symm
  · intro h i hi
    have h5 := h (i + p) (by omega) (by omega)
    rw [show i + p - p = i by omega] at h5
    exact h5.symm
def pw8 (j : Nat) : Nat := if j = 0 then 1 else if j = 1 then 2 else if j = 2 then 4 else 8
theorem pw8_facts {j : Nat} (h : j < 3) : ∃ p : Nat, pw8 j = p ∧ pw j = p ∧ 1 ≤ p ∧ p ≤ 4 ∧ decide ((p : Int) ≤ 4) = true ∧ decide (p ≤ 4) = true ∧ wrap64 (2 * (p : Int)) = ((pw8 (j + 1) : Nat) : Int) ∧ IntKind.i64.wrap (2 * (p : Int)) = ((pw8 (j + 1) : Nat) : Int) := by
  rcases (show j = 0 ∨ j = 1 ∨ j = 2 by omega) with rfl | rfl | rfl
  · exact ⟨1, rfl, rfl, by decide, by decide, by decide, by decide, IntWalk.wrap64_in _ (by decide), by decide⟩
  · exact ⟨2, rfl, rfl, by decide, by decide, by decide, by decide, IntWalk.wrap64_in _ (by decide), by decide⟩
  · exact ⟨4, rfl, rfl, by decide, by decide, by decide, by decide, IntWalk.wrap64_in _ (by decide), by decide⟩
theorem kp_facts {k p n : Nat} (hp : p ≤ 4) (hn : n ≤ 10000) (hk : k ≤ n) : ∃ t : Nat, k + p = t ∧ (k : Int) + (p : Int) = (t : Int) ∧ wrap64 (t : Int) = (t : Int) ∧ IntKind.i64.wrap (t : Int) = (t : Int) := ⟨k + p, rfl, by omega, IntWalk.wrap64_in _ (by omega), IntWalk.i64_in _ (by omega)⟩
theorem kp_lt {k p n t : Nat} (ht : k + p = t) (h : t < n) : (t : Int) < (n : Int) ∧ decide ((t : Int) < (n : Int)) = true ∧ decide (t < n) = true ∧ k < n ∧ (k : Int) < (n : Int) := by
  have h1 : (t : Int) < (n : Int) := Int.ofNat_lt.2 h
  exact ⟨h1, decide_eq_true h1, decide_eq_true h, by omega, by omega⟩
theorem kp_ge {t n : Nat} (h : ¬ t < n) : decide ((t : Int) < (n : Int)) = false ∧ decide (t < n) = false := ⟨decide_eq_false (by omega), decide_eq_false h⟩

set_option maxRecDepth 20000 in
set_option maxHeartbeats 1600000 in
theorem refPeriod_any (A : Option Addr) (n c : Nat) (l : List Int) (w : World) (hs : Sees w 1 A n c (l.map (Value.int .i64))) (hn : n ≤ 10000) :
    Calls Try.prog 48 #[.slice A n c] w fun e w' => ∃ a, e = .returned (.int .i64 a) ∧ PerR l n a ∧ Below w.heap.size w w' := by
  have HS := Lib.hid hs
  have HN := Lib.hid hn
  have hn9 : (n : Int) ≤ 10000 := by omega
  clear hs hn
  go_enter Try.func48, Try.ntmps48
  go_wp2_with fail
  go_loopw [3] (fun iv wr => ∃ j : Nat, Hid (j ≤ 3) ∧ iv = .int .i64 ((pw8 j : Nat) : Int) ∧ Hid (∀ i < j, ¬ per l n (pw i)) ∧ Hid (Below w.heap.size w wr)) (fun iv _ => 8 - (intOf iv).toNat)
  case atStart => exact ⟨0, Lib.hid (Nat.zero_le _), rfl, Lib.hid (fun i hi => absurd hi (Nat.not_lt_zero _)), Lib.hid (Below.refl _ _)⟩
  case round =>
    obtain ⟨j, HJ, rfl, HP, HB⟩ := hrel
    by_cases hlt : j < 3
    · obtain ⟨p, hp, hpw, hp1, hp4, dp, dp', wp, wp'⟩ := pw8_facts hlt
      rw [hp]
      have HPP := Lib.hid (And.intro hpw (And.intro hp1 hp4))
      obtain ⟨p2, hp2⟩ : ∃ p2, pw8 (j + 1) = p2 := ⟨_, rfl⟩
      rw [hp2] at wp wp'
      have HP2 := Lib.hid hp2
      have HM : Hid (p < p2 ∧ p2 ≤ 8) := Lib.hid (by rw [← hp, ← hp2]; unfold pw8; rcases (show j = 0 ∨ j = 1 ∨ j = 2 by omega) with rfl | rfl | rfl <;> decide)
      have hp9 : (p : Int) ≤ 4 := by omega
      have HLT := Lib.hid hlt
      clear hlt hp hpw hp1 hp4 hp2
      go_wp2_with fail
      go_loopw [4, 5] (fun bv kv wq => ∃ (k : Nat) (b : Bool), Hid (k = 0 ∨ k + p ≤ n) ∧ kv = .int .i64 (k : Int) ∧ bv = .bool b ∧ Hid (b = true ↔ pfw l p k) ∧ Hid (Below w.heap.size w wq)) (fun _ kv _ => n - (intOf kv).toNat)
      case atStart => exact ⟨0, true, Lib.hid (.inl rfl), rfl, rfl, Lib.hid ⟨fun _ i hi => absurd hi (Nat.not_lt_zero _), fun _ => rfl⟩, HB⟩
      case round =>
        clear HB
        obtain ⟨k, b, HK, rfl, rfl, HBB, HB⟩ := hrel
        obtain ⟨t, ht, hkt, hwt, hwt2⟩ := kp_facts (k := k) HPP.out.2.2 HN.out (by have := HK.out; omega)
        by_cases hlt : t < n
        · obtain ⟨htn, dt, dt', hkn, hkn2⟩ := kp_lt ht hlt
          obtain ⟨g, o, hA, g1⟩ := (HS.out.below HB.out (Nat.le_refl _)).int hkn
          cases hA
          obtain ⟨g', o', hA, g2⟩ := (HS.out.below HB.out (Nat.le_refl _)).int hlt
          cases hA
          have hst' := pfw_step (l := l) (p := p) (k := k)
          rw [ht] at hst'
          obtain ⟨x, hx⟩ : ∃ x, l.getD k 0 = x := ⟨_, rfl⟩
          obtain ⟨y, hy⟩ : ∃ y, l.getD t 0 = y := ⟨_, rfl⟩
          rw [hx] at g1
          rw [hy] at g2
          rw [hx, hy] at hst'
          have HST := Lib.hid hst'
          have HK2 : Hid (k + 1 = 0 ∨ k + 1 + p ≤ n) := Lib.hid (by omega)
          have HKN := Lib.hid hkn
          clear hlt hx hy hst' hkn ht
          by_cases he : x = y
          · have hE : (x == y) = true := by simpa using he
            have hE' : decide (x = y) = true := decide_eq_true he
            have HN2 : Hid (b = true ↔ pfw l p (k + 1)) := Lib.hid ⟨fun h => HST.out.2 ⟨HBB.out.1 h, he⟩, fun h => HBB.out.2 (HST.out.1 h).1⟩
            clear he
            go_wp2_with fail
            go_quiet (fail)
            go_wp2_with fail
            go_roundw
            case rel => exact ⟨k + 1, b, HK2, by go_num, rfl, HN2, Lib.hid (below_drewN HB.out _)⟩
            case measure => have h1 := HKN.out; clear hkt hwt hwt2 wp wp'; simp [intOf]; omega
          · have hE : (x == y) = false := by simpa using he
            have hE' : decide (x = y) = false := decide_eq_false he
            have HN2 : Hid (false = true ↔ pfw l p (k + 1)) := Lib.hid ⟨fun h => by (cases h), fun h => absurd (HST.out.1 h).2 he⟩
            clear he
            go_wp2_with fail
            go_quiet (fail)
            go_wp2_with fail
            go_roundw
            case rel => exact ⟨k + 1, false, HK2, by go_num, rfl, HN2, Lib.hid (below_drewN HB.out _)⟩
            case measure => have h1 := HKN.out; clear hkt hwt hwt2 wp wp'; simp [intOf]; omega
        · obtain ⟨dt, dt'⟩ := kp_ge hlt
          have hall := pfw_all (l := l) HK.out (by rw [ht]; exact hlt)
          have HE : Hid (b = true ↔ per l n p) := Lib.hid (HBB.out.trans hall)
          clear hlt hall ht
          cases b
          case false =>
            have HP3 : Hid (∀ i < j + 1, ¬ per l n (pw i)) := Lib.hid fun i hi => by
              rcases Nat.lt_or_ge i j with h | h
              · exact HP.out i h
              · obtain rfl : i = j := by omega
                rw [HPP.out.1]
                exact fun h => by have := HE.out.2 h; cases this
            go_wp2_with fail
            go_roundw
            case rel => exact ⟨j + 1, Lib.hid HLT.out, by rw [HP2.out], HP3, HB⟩
            case measure => have h1 := HM.out; clear hkt hwt hwt2 wp wp'; simp [intOf]; omega
          case true =>
            have HR : Hid (PerR l n (p : Int)) := Lib.hid (by
              have hpp := HE.out.1 rfl
              have hj := HLT.out
              have hpw := HPP.out.1
              rcases (show j = 0 ∨ j = 1 ∨ j = 2 by omega) with rfl | rfl | rfl
              · have : p = 1 := by rw [← hpw]; rfl
                subst this; exact .inl ⟨rfl, hpp⟩
              · have : p = 2 := by rw [← hpw]; rfl
                subst this; exact .inr (.inl ⟨rfl, HP.out 0 (by decide), hpp⟩)
              · have : p = 4 := by rw [← hpw]; rfl
                subst this; exact .inr (.inr (.inl ⟨rfl, HP.out 0 (by decide), HP.out 1 (by decide), hpp⟩)))
            go_wp2_with fail
            go_ret
            exact ⟨_, rfl, HR.out, HB.out⟩
    · obtain rfl : j = 3 := by have := HJ.out; omega
      clear hlt
      rw [show ((pw8 3 : Nat) : Int) = 8 from rfl]
      go_wp2_with fail
      go_ret
      exact ⟨_, rfl, .inr (.inr (.inr ⟨rfl, HP.out 0 (by decide), HP.out 1 (by decide), HP.out 2 (by decide)⟩)), HB.out⟩

/-- The eight parts in their order. -/
def pq8 (p q : Nat → Int) : Nat → Int := fun i => if i % 2 = 0 then p (i / 2) else q (i / 2)
theorem pq8_eq (p q : Nat → Int) : (ic8 (pq8 p q) : Array Value) = #[.int .i64 (p 0), .int .i64 (q 0), .int .i64 (p 1), .int .i64 (q 1), .int .i64 (p 2), .int .i64 (q 2), .int .i64 (p 3), .int .i64 (q 3)] := rfl
theorem pq8_get (p q : Nat → Int) (j : Nat) (hj : j < 4) : (ic8 (pq8 p q))[j * 2]? = some (.int .i64 (p j)) ∧ (ic8 (pq8 p q))[j * 2 + 1]? = some (.int .i64 (q j)) := by
  rcases (show j = 0 ∨ j = 1 ∨ j = 2 ∨ j = 3 by omega) with rfl | rfl | rfl | rfl <;> exact ⟨rfl, rfl⟩

set_option maxRecDepth 20000 in
set_option maxHeartbeats 1600000 in
theorem same_any (x y : Nat → Nat) (p q : Nat → Int) (w : World) (hf : ∀ j < 4, FI (x j) (p j) ∧ FI (y j) (q j)) (hz : ∀ j < 4, (p j).natAbs ≤ 9007199254740992 ∧ (q j).natAbs ≤ 9007199254740992) :
    Calls Try.prog 47 #[zf x y, nv p q] w fun e w' => e = .returned (.bool true) ∧ Below w.heap.size w w' := by
  obtain ⟨W, hW⟩ : ∃ W, (w.alloc (.cells #[.complex .f64 (x 0) (y 0), .complex .f64 (x 1) (y 1), .complex .f64 (x 2) (y 2), .complex .f64 (x 3) (y 3)] 26)).alloc (.cells (ic8 (pq8 p q)) 63) = W := ⟨_, rfl⟩
  have A1 : Arr 26 W w.heap.size #[.complex .f64 (x 0) (y 0), .complex .f64 (x 1) (y 1), .complex .f64 (x 2) (y 2), .complex .f64 (x 3) (y 3)] := by rw [← hW]; exact (Arr.new _ _ _).al _
  have A2 : Arr 63 W (w.heap.size + 1) (ic8 (pq8 p q)) := by rw [← hW]; exact Arr.new1 _ _ _ _
  have hB : Below w.heap.size w W := by rw [← hW]; exact below_al (below_al (Below.refl _ _) _) _
  have HA := Lib.hid (And.intro A1 (And.intro A2 hB))
  have HF := Lib.hid hf
  have HZ := Lib.hid hz
  have HW := Lib.hid hW
  rw [pq8_eq] at HW
  clear hf hz A1 A2 hB hW
  go_enter Try.func47, Try.ntmps47
  go_upto_region 1 with fail
  rw [HW.out]
  clear HW
  obtain ⟨⟨b0, b1, b2, b3⟩, -⟩ := HA.out.1.four
  go_wp2_with fail
  clear b0 b1 b2 b3
  go_loopw [8] (fun iv wr => ∃ k : Nat, Hid (k ≤ 4) ∧ iv = .int .i64 (k : Int) ∧ Hid (Arr 63 wr (w.heap.size + 1) (ic8 (pq8 p q)) ∧ Below w.heap.size w wr)) (fun iv _ => 4 - (intOf iv).toNat)
  case atStart => exact ⟨0, Lib.hid (Nat.zero_le _), rfl, Lib.hid HA.out.2⟩
  case round =>
    clear HA
    obtain ⟨k, HK, rfl, HB⟩ := hrel
    by_cases hlt : k < 4
    · have d0 : decide ((k : Int) < 4) = true := by simp; omega
      have d0' : decide (k < 4) = true := by simp; omega
      have hk3 : (k : Int) ≤ 3 := by omega
      have hk4 : (k : Int) < 4 := by omega
      have hix := ix_z x y k hlt
      obtain ⟨g1, g2⟩ := pq8_get p q k hlt
      have e1 := (HB.out.1.c (k * 2)).trans g1
      have e2 := (HB.out.1.c (k * 2 + 1)).trans g2
      have o1 := FI.ordE (HF.out k hlt).1 (FI.ofInt (HZ.out k hlt).1)
      have o2 := FI.ordE (HF.out k hlt).2 (FI.ofInt (HZ.out k hlt).2)
      have HLT := Lib.hid hlt
      clear hlt g1 g2
      go_wp2_with fail
      go_roundw
      case rel => exact ⟨k + 1, Lib.hid HLT.out, by go_num, HB⟩
      case measure => have := HLT.out; simp [intOf]; omega
    · obtain rfl : k = 4 := by have := HK.out; omega
      clear hlt
      go_wp2_with fail
      go_ret
      exact ⟨rfl, HB.out.2⟩
end Go.Proofs.Ythidfmkmklnhhaa
