/- Walks: Rhythm, Period. -/
import Derived.Test.YthidfmkmklnhhaaProg
import Derived.Test.YthidfmkmklnhhaaYn
import Derived.Deep.QuietTactic
namespace Go.Proofs.Ythidfmkmklnhhaa
open Go.RowKit
set_option linter.unusedVariables false

/-- The class of the first k elements that are id (-1: none of them is); none if they are in two classes. -/
def rhC (l : List Int) (id : Int) : Nat → Option Int
  | 0 => some (-1)
  | k + 1 => match rhC l id k with
    | none => none
    | some c => if l.getD k 0 = id then (if 0 ≤ c ∧ c ≠ ((k % 4 : Nat) : Int) then none else some ((k % 4 : Nat) : Int)) else some c
theorem rhC_none {l : List Int} {id : Int} {k n : Nat} (h : rhC l id k = none) (hk : k ≤ n) : rhC l id n = none := by
  induction n with
  | zero => rw [Nat.le_zero.1 hk] at h; exact h
  | succ n ih =>
    rcases Nat.lt_or_ge k (n + 1) with h1 | h1
    · have := ih (by omega)
      unfold rhC; rw [this]
    · rw [show n + 1 = k by omega]; exact h
theorem rhC_range {l : List Int} {id : Int} : ∀ (k : Nat) (c : Int), rhC l id k = some c → -1 ≤ c ∧ c < 4 := by
  intro k
  induction k with
  | zero => intro c h; cases h; decide
  | succ k ih =>
    intro c h
    unfold rhC at h
    cases hk : rhC l id k with
    | none => rw [hk] at h; cases h
    | some d =>
      rw [hk] at h
      simp only [] at h
      have := ih d hk
      split at h
      · split at h
        · cases h
        · cases h; omega
      · cases h; exact this
/-- What 'Rhythm' returns. -/
def RhR (o : Option Int) (a : Int) (b : Bool) : Prop := (o = none ∧ a = 0 ∧ b = false) ∨ (o = some (-1) ∧ a = 0 ∧ b = false) ∨ (0 ≤ a ∧ a < 4 ∧ o = some a ∧ b = true)

set_option maxRecDepth 20000 in
set_option maxHeartbeats 800000 in
theorem Rhythm_any (A : Option Addr) (n c : Nat) (l : List Int) (id : Int) (w : World) (hs : Sees w 1 A n c (l.map (Value.int .i64))) :
    Calls Try.prog 24 #[.slice A n c, .int .i64 id] w fun e w' => ∃ a b, e = .returned (.tuple #[.int .i64 a, .bool b]) ∧ RhR (rhC l id n) a b ∧ Below w.heap.size w w' := by
  have hcm : n ≤ 9223372036854775807 := Nat.le_trans hs.cap hs.capm
  have HS := Lib.hid hs
  clear hs
  go_enter Try.func24, Try.ntmps24
  go_wp2_with fail
  go_loopw [6, 11] (fun sv iv wr => ∃ (k : Nat) (d : Int), Hid (k ≤ n) ∧ iv = .int .i64 (k : Int) ∧ sv = .int .i64 d ∧ Hid (rhC l id k = some d) ∧ Hid (Below w.heap.size w wr)) (fun _ iv _ => n - (intOf iv).toNat)
  case atStart => exact ⟨0, -1, Lib.hid (Nat.zero_le _), rfl, rfl, Lib.hid rfl, Lib.hid (Below.refl _ _)⟩
  case round =>
    obtain ⟨k, d, HK, rfl, rfl, HD, HB⟩ := hrel
    by_cases hlt : k < n
    · obtain ⟨g, o, hA, g1⟩ := (HS.out.below HB.out (Nat.le_refl _)).int hlt
      cases hA
      have d0 : decide ((k : Int) < (n : Int)) = true := by simp; omega
      have d0' : decide (k < n) = true := by simp; omega
      have hkn : (k : Int) < (n : Int) := by omega
      obtain ⟨v, hv⟩ : ∃ v, l.getD k 0 = v := ⟨_, rfl⟩
      rw [hv] at g1
      have HLT := Lib.hid hlt
      have hrg := rhC_range k d HD.out
      have hstep : rhC l id (k + 1) = if v = id then (if 0 ≤ d ∧ d ≠ ((k % 4 : Nat) : Int) then none else some ((k % 4 : Nat) : Int)) else some d := by
        show (match rhC l id k with | none => none | some c => _) = _
        rw [HD.out]
        simp only [hv]
      obtain ⟨m, hm⟩ : ∃ m, k % 4 = m := ⟨_, rfl⟩
      rw [hm] at hstep
      have hkt : (k : Int).tmod 4 = (m : Int) := by rw [Int.tmod_eq_emod_of_nonneg (by omega)]; omega
      have hkm : (k : Int) % 4 = (m : Int) := by omega
      have hwm : IntKind.i64.wrap (m : Int) = (m : Int) := IntWalk.i64_in _ (by omega)
      by_cases he : v = id
      · rw [if_pos he] at hstep
        have hE : (v == id) = true := by simpa using he
        have hE' : (v != id) = false := by simp [he]
        subst he
        by_cases h0 : 0 ≤ d
        · have d1 : decide (0 ≤ d) = true := decide_eq_true h0
          by_cases hdm : d = (m : Int)
          · rw [if_neg (fun hh => hh.2 hdm)] at hstep
            have HST := Lib.hid hstep
            subst hdm
            clear hlt hv hrg hm hstep h0
            go_wp2_with fail
            go_roundw
            case rel => exact ⟨k + 1, (m : Int), Lib.hid HLT.out, by go_num, rfl, HST, HB⟩
            case measure => have := HLT.out; simp [intOf]; omega
          · rw [if_pos ⟨h0, hdm⟩] at hstep
            have HNO := Lib.hid (rhC_none hstep (show k + 1 ≤ n by omega))
            have e1 : (d == (m : Int)) = false := by simpa using hdm
            have e2 : (d != (m : Int)) = true := by simpa using hdm
            have e3 : decide (d = (m : Int)) = false := decide_eq_false hdm
            clear hlt hv hrg hm hstep h0
            go_wp2_with fail
            go_ret2
            exact ⟨_, _, rfl, .inl ⟨HNO.out, rfl, rfl⟩, HB.out⟩
        · have d1 : decide (0 ≤ d) = false := decide_eq_false h0
          rw [if_neg (fun hh => h0 hh.1)] at hstep
          have HST := Lib.hid hstep
          clear hlt hv hrg hm hstep h0
          go_wp2_with fail
          go_roundw
          case rel => exact ⟨k + 1, (m : Int), Lib.hid HLT.out, by go_num, rfl, HST, HB⟩
          case measure => have := HLT.out; simp [intOf]; omega
      · rw [if_neg he] at hstep
        have hE : (v == id) = false := by simpa using he
        have hE' : (v != id) = true := by simpa using he
        have hE2 : decide (v = id) = false := decide_eq_false he
        have HST := Lib.hid hstep
        clear hlt hv hrg hm hstep
        go_wp2_with fail
        go_roundw
        case rel => exact ⟨k + 1, d, Lib.hid HLT.out, by go_num, rfl, HST, HB⟩
        case measure => have := HLT.out; simp [intOf]; omega
    · obtain rfl : k = n := by have := HK.out; omega
      have d0 : decide ((k : Int) < (k : Int)) = false := by simp
      have d0' : decide (k < k) = false := by simp
      have hrg := rhC_range k d HD.out
      by_cases h0 : 0 ≤ d
      · have d1 : decide (0 ≤ d) = true := decide_eq_true h0
        have hx1 : (if d < 0 then 0 else d) = d := by rw [if_neg (by omega)]
        have hx2 : (if (0 : Int) < d then d else 0) = d := by split <;> omega
        have HR := Lib.hid (And.intro h0 hrg.2)
        clear hlt HK hrg h0
        go_wp2_with fail
        go_ret2
        exact ⟨_, _, rfl, .inr (.inr ⟨HR.out.1, HR.out.2, HD.out, rfl⟩), HB.out⟩
      · obtain rfl : d = -1 := by omega
        clear hlt HK hrg h0
        go_wp2_with fail
        go_ret2
        exact ⟨_, _, rfl, .inr (.inl ⟨HD.out, rfl, rfl⟩), HB.out⟩
end Go.Proofs.Ythidfmkmklnhhaa
