/- Walks: the reference's Right, Behind, Ahead. -/
import Derived.Test.YtllbcohfelgamaaProg
import Derived.Test.YtllbcohfelgamaaCp
namespace Go.Proofs.Ytllbcohfelgamaa
open Go.RowKit
set_option linter.unusedVariables false

theorem MinAt.same {xs : List Int} {n a b : Nat} (ha : a < n) (hb : b < n) (h : MinAt xs n a) (k : MinAt xs n b) : a = b := by
  rcases Nat.lt_trichotomy a b with h' | h' | h'
  · have := k.2 a h'; have := h.1 b hb; omega
  · exact h'
  · have := h.2 b h'; have := k.1 a ha; omega
theorem MaxAt.same {xs : List Int} {n a b : Nat} (ha : a < n) (hb : b < n) (h : MaxAt xs n a) (k : MaxAt xs n b) : a = b := by
  rcases Nat.lt_trichotomy a b with h' | h' | h'
  · have := k.2 a h'; have := h.1 b hb; omega
  · exact h'
  · have := h.2 b h'; have := k.1 a ha; omega

set_option maxRecDepth 20000 in
set_option maxHeartbeats 800000 in
theorem refBehind_any (A : Option Addr) (n c : Nat) (xs : List Int) (w : World) (h : Sees w 1 A n c (xs.map (Value.int .i64))) (hn : 1 ≤ n) (hn2 : n ≤ 100000) :
    Calls Try.prog 40 #[.slice A n c] w fun e w' => ∃ b : Nat, e = .returned (.tuple #[.int .i64 (b : Int), .int .i64 (xs.getD b 0)]) ∧ b < n ∧ MinAt xs n b ∧ Below w.heap.size w w' := by
  have HP := Lib.hid hn
  have hn3 : (n : Int) ≤ 100000 := by omega
  have HS := Lib.hid h
  clear h hn hn2
  go_enter Try.func40, Try.ntmps40
  go_wp2
  go_loopw [4, 5] (fun bv i wr => ∃ k b : Nat, Hid (k ≤ n ∧ b < n) ∧ i = .int .i64 (k : Int) ∧ bv = .int .i64 (b : Int) ∧ Hid (MinAt xs k b) ∧ Below w.heap.size w wr) (fun _ i _ => n - (intOf i).toNat)
  case atStart => exact ⟨1, 0, Lib.hid ⟨HP.out, HP.out⟩, rfl, rfl, Lib.hid ⟨fun i hi => by obtain rfl : i = 0 := (by omega); exact Int.le_refl _, fun i hi => by omega⟩, Below.refl _ _⟩
  case round =>
    obtain ⟨k, b, HK, rfl, rfl, HM, hb⟩ := hrel
    have hs := HS.out.below hb (Nat.le_refl _)
    obtain ⟨b1, o1, hA, g2⟩ := hs.int HK.out.2
    cases hA
    have hb2 : (b : Int) < (n : Int) := by have := HK.out; omega
    have hb3 : decide ((b : Int) < (n : Int)) = true := by simp; omega
    by_cases hlt : k < n
    · obtain ⟨b1', o1', hA, g1⟩ := hs.int hlt
      cases hA
      obtain ⟨y, hy⟩ : ∃ y, xs.getD k 0 = y := ⟨_, rfl⟩
      obtain ⟨z, hz⟩ : ∃ z, xs.getD b 0 = z := ⟨_, rfl⟩
      rw [hy] at g1
      rw [hz] at g2
      have HYZ := Lib.hid (And.intro hy hz)
      have d3 : decide ((k : Int) < (n : Int)) = true := by simp; omega
      have hk2 : (k : Int) ≤ 99999 := by omega
      have hk3 : (k : Int) < (n : Int) := by omega
      have HL := Lib.hid hlt
      clear hlt hy hz hs
      by_cases hyz : y < z
      · have HYZ2 := Lib.hid hyz
        have d4 : decide (y < z) = true := decide_eq_true hyz
        clear hyz
        go_wp2_with fail
        go_quiet (fail)
        go_wp2
        go_roundw
        case rel => exact ⟨k + 1, k, Lib.hid ⟨HL.out, HL.out⟩, by go_num, rfl, Lib.hid (HM.out.new (by rw [HYZ.out.1, HYZ.out.2]; have := HYZ2.out; omega)), below_drewN hb _⟩
        case measure => have := HL.out; simp [intOf]; omega
      · have HYZ2 := Lib.hid hyz
        have d4 : decide (y < z) = false := decide_eq_false hyz
        clear hyz
        go_wp2_with fail
        go_quiet (fail)
        go_wp2
        go_roundw
        case rel => exact ⟨k + 1, b, Lib.hid ⟨HL.out, HK.out.2⟩, by go_num, rfl, Lib.hid (HM.out.keep (by rw [HYZ.out.1, HYZ.out.2]; have := HYZ2.out; omega)), below_drewN hb _⟩
        case measure => have := HL.out; simp [intOf]; omega
    · have hkn : k = n := by have := HK.out; omega
      have d3 : decide ((k : Int) < (n : Int)) = false := by simp; omega
      have d3' : decide (k < n) = false := by simp; omega
      have HKN := Lib.hid hkn
      obtain ⟨z, hz⟩ : ∃ z, xs.getD b 0 = z := ⟨_, rfl⟩
      rw [hz] at g2
      have HZ := Lib.hid hz
      clear hlt hkn hz hs
      go_wp2_with fail
      go_quiet (fail)
      go_wp2
      go_ret2
      exact ⟨b, by rw [HZ.out]; rfl, HK.out.2, by rw [← HKN.out]; exact HM.out, below_drewN hb _⟩
set_option maxRecDepth 20000 in
set_option maxHeartbeats 800000 in
theorem refAhead_any (A : Option Addr) (n c : Nat) (xs : List Int) (w : World) (h : Sees w 1 A n c (xs.map (Value.int .i64))) (hn : 1 ≤ n) (hn2 : n ≤ 100000) :
    Calls Try.prog 41 #[.slice A n c] w fun e w' => ∃ b : Nat, e = .returned (.tuple #[.int .i64 (b : Int), .int .i64 (xs.getD b 0)]) ∧ b < n ∧ MaxAt xs n b ∧ Below w.heap.size w w' := by
  have HP := Lib.hid hn
  have hn3 : (n : Int) ≤ 100000 := by omega
  have HS := Lib.hid h
  clear h hn hn2
  go_enter Try.func41, Try.ntmps41
  go_wp2
  go_loopw [4, 5] (fun bv i wr => ∃ k b : Nat, Hid (k ≤ n ∧ b < n) ∧ i = .int .i64 (k : Int) ∧ bv = .int .i64 (b : Int) ∧ Hid (MaxAt xs k b) ∧ Below w.heap.size w wr) (fun _ i _ => n - (intOf i).toNat)
  case atStart => exact ⟨1, 0, Lib.hid ⟨HP.out, HP.out⟩, rfl, rfl, Lib.hid ⟨fun i hi => by obtain rfl : i = 0 := (by omega); exact Int.le_refl _, fun i hi => by omega⟩, Below.refl _ _⟩
  case round =>
    obtain ⟨k, b, HK, rfl, rfl, HM, hb⟩ := hrel
    have hs := HS.out.below hb (Nat.le_refl _)
    obtain ⟨b1, o1, hA, g2⟩ := hs.int HK.out.2
    cases hA
    have hb2 : (b : Int) < (n : Int) := by have := HK.out; omega
    have hb3 : decide ((b : Int) < (n : Int)) = true := by simp; omega
    by_cases hlt : k < n
    · obtain ⟨b1', o1', hA, g1⟩ := hs.int hlt
      cases hA
      obtain ⟨y, hy⟩ : ∃ y, xs.getD k 0 = y := ⟨_, rfl⟩
      obtain ⟨z, hz⟩ : ∃ z, xs.getD b 0 = z := ⟨_, rfl⟩
      rw [hy] at g1
      rw [hz] at g2
      have HYZ := Lib.hid (And.intro hy hz)
      have d3 : decide ((k : Int) < (n : Int)) = true := by simp; omega
      have hk2 : (k : Int) ≤ 99999 := by omega
      have hk3 : (k : Int) < (n : Int) := by omega
      have HL := Lib.hid hlt
      clear hlt hy hz hs
      by_cases hyz : z < y
      · have HYZ2 := Lib.hid hyz
        have d4 : decide (z < y) = true := decide_eq_true hyz
        clear hyz
        go_wp2_with fail
        go_quiet (fail)
        go_wp2
        go_roundw
        case rel => exact ⟨k + 1, k, Lib.hid ⟨HL.out, HL.out⟩, by go_num, rfl, Lib.hid (HM.out.new (by rw [HYZ.out.1, HYZ.out.2]; have := HYZ2.out; omega)), below_drewN hb _⟩
        case measure => have := HL.out; simp [intOf]; omega
      · have HYZ2 := Lib.hid hyz
        have d4 : decide (z < y) = false := decide_eq_false hyz
        clear hyz
        go_wp2_with fail
        go_quiet (fail)
        go_wp2
        go_roundw
        case rel => exact ⟨k + 1, b, Lib.hid ⟨HL.out, HK.out.2⟩, by go_num, rfl, Lib.hid (HM.out.keep (by rw [HYZ.out.1, HYZ.out.2]; have := HYZ2.out; omega)), below_drewN hb _⟩
        case measure => have := HL.out; simp [intOf]; omega
    · have hkn : k = n := by have := HK.out; omega
      have d3 : decide ((k : Int) < (n : Int)) = false := by simp; omega
      have d3' : decide (k < n) = false := by simp; omega
      have HKN := Lib.hid hkn
      obtain ⟨z, hz⟩ : ∃ z, xs.getD b 0 = z := ⟨_, rfl⟩
      rw [hz] at g2
      have HZ := Lib.hid hz
      clear hlt hkn hz hs
      go_wp2_with fail
      go_quiet (fail)
      go_wp2
      go_ret2
      exact ⟨b, by rw [HZ.out]; rfl, HK.out.2, by rw [← HKN.out]; exact HM.out, below_drewN hb _⟩

def okTB (n : Nat) (l : List Int) : Bool := decide ((1 ≤ n ∧ n ≤ 64) ∧ ∀ x ∈ l, 0 ≤ x ∧ x ≤ 281474976710656)
theorem okTB_true {n : Nat} {l : List Int} (h : (1 ≤ n ∧ n ≤ 64) ∧ OkT l) : okTB n l = true := decide_eq_true h
theorem okTB_false {n : Nat} {l : List Int} (h : ¬ ((1 ≤ n ∧ n ≤ 64) ∧ OkT l)) : okTB n l = false := decide_eq_false h

set_option maxRecDepth 20000 in
set_option maxHeartbeats 800000 in
theorem refRight_any (A : Option Addr) (n c : Nat) (xs : List Int) (w : World) (h : Sees w 1 A n c (xs.map (Value.int .i64))) (hn2 : n ≤ 100000) :
    Calls Try.prog 36 #[.slice A n c] w fun e w' => e = .returned (.bool (okTB n xs)) ∧ w = w' := by
  have HLN := Lib.hid h.length
  by_cases hn : 1 ≤ n ∧ n ≤ 64
  · have d1 : decide ((n : Int) < 1) = false := by simp; omega
    have d2 : decide ((64 : Int) < (n : Int)) = false := by simp; omega
    have hn3 : (n : Int) ≤ 64 := by omega
    have HN := Lib.hid hn
    have HS := Lib.hid h
    have d1' : ¬ n = 0 := by omega
    have d2' : decide (64 < n) = false := by simp; omega
    clear h hn hn2
    go_enter Try.func36, Try.ntmps36
    go_wp2
    go_loop [3] (fun i => ∃ k : Nat, i = .int .i64 (k : Int) ∧ k ≤ n ∧ Hid (∀ j, j < k → 0 ≤ xs.getD j 0 ∧ xs.getD j 0 ≤ 281474976710656)) (fun i => n - (intOf i).toNat)
    case atStart => exact ⟨0, rfl, Nat.zero_le _, Lib.hid (fun j hj => by omega)⟩
    case round =>
      obtain ⟨k, rfl, hk, HA⟩ := hrel
      by_cases hlt : k < n
      · obtain ⟨b1, o1, hA, g1⟩ := HS.out.int hlt
        cases hA
        obtain ⟨y, hy⟩ : ∃ y, xs.getD k 0 = y := ⟨_, rfl⟩
        rw [hy] at g1
        have HY := Lib.hid hy
        clear hy
        by_cases hok : 0 ≤ y ∧ y ≤ 281474976710656
        · have e1 : decide (y < 0) = false := by simp; omega
          have e2 : decide ((281474976710656 : Int) < y) = false := by simp; omega
          have HK := Lib.hid hok
          clear hok
          go_wp2
          go_round
          case rel =>
            refine ⟨k + 1, by go_num, by omega, Lib.hid fun j hj => ?_⟩
            by_cases e : j = k
            · subst e; rw [HY.out]; exact HK.out
            · exact HA.out j (by omega)
          case measure => simp [intOf]; omega
        · have HB := Lib.hid (okTB_false (n := n) (l := xs) (fun h => hok (by
            have := h.2.at_ (k := k) (by rw [HLN.out]; exact hlt)
            rwa [HY.out] at this)))
          by_cases h0 : y < 0
          · have e1 : decide (y < 0) = true := decide_eq_true h0
            clear hok h0
            go_wp2
            go_ret
            exact ⟨by rw [HB.out]; rfl, rfl⟩
          · have e1 : decide (y < 0) = false := decide_eq_false h0
            have e2 : decide ((281474976710656 : Int) < y) = true := by simp; omega
            clear hok h0
            go_wp2
            go_ret
            exact ⟨by rw [HB.out]; rfl, rfl⟩
      · have HB := Lib.hid (okTB_true (n := n) (l := xs) ⟨HN.out, fun x hx => by
          obtain ⟨i, hi, rfl⟩ := List.mem_iff_getElem.1 hx
          have := HA.out i (by rw [HLN.out] at hi; omega)
          simpa [List.getD, hi] using this⟩)
        go_wp2
        go_ret
        exact ⟨by rw [HB.out]; rfl, rfl⟩
  · have HB := Lib.hid (okTB_false (n := n) (l := xs) (fun h => hn h.1))
    clear h
    by_cases h0 : n < 1
    · obtain rfl : n = 0 := by omega
      clear hn h0 hn2
      go_enter Try.func36, Try.ntmps36
      go_wp2
      go_ret
      exact ⟨by rw [HB.out]; rfl, rfl⟩
    · have d1 : decide ((n : Int) < 1) = false := by simp; omega
      have d1' : ¬ n = 0 := by omega
      have d2 : decide ((64 : Int) < (n : Int)) = true := by simp; omega
      have d2' : decide (64 < n) = true := by simp; omega
      clear hn h0 hn2
      go_enter Try.func36, Try.ntmps36
      go_wp2
      go_ret
      exact ⟨by rw [HB.out]; rfl, rfl⟩
end Go.Proofs.Ytllbcohfelgamaa
