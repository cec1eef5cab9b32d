/- Walks of the reference: fits, turned. -/
import Derived.Test.YthidfmkmklnhhaaProg
import Derived.Test.YthidfmkmklnhhaaYq
namespace Go.Proofs.Ythidfmkmklnhhaa
open Go.RowKit
set_option linter.unusedVariables false

set_option maxRecDepth 20000 in
set_option maxHeartbeats 800000 in
theorem refFits_any (A : Option Addr) (n c M : Nat) (l : List Int) (w : World) (hs : Sees w 1 A n c (l.map (Value.int .i64))) (hM : M ≤ 1125899906842624) :
    Calls Try.prog 57 #[.slice A n c, .int .i64 (M : Int)] w fun e w' => e = .returned (.bool (decide (sz l n ≤ M))) ∧ Below w.heap.size w w' := by
  have hcm : n ≤ 9223372036854775807 := Nat.le_trans hs.cap hs.capm
  have HS := Lib.hid hs
  have HM := Lib.hid hM
  clear hs hM
  go_enter Try.func57, Try.ntmps57
  go_wp2_with fail
  go_loopw [1, 5] (fun mv iv wr => ∃ k m : Nat, Hid (k ≤ n) ∧ iv = .int .i64 (k : Int) ∧ mv = .int .i64 (m : Int) ∧ Hid (sz l k + m = M) ∧ Hid (Below w.heap.size w wr)) (fun _ iv _ => n - (intOf iv).toNat)
  case atStart => exact ⟨0, M, Lib.hid (Nat.zero_le _), rfl, rfl, Lib.hid (Nat.zero_add _), Lib.hid (Below.refl _ _)⟩
  case round =>
    obtain ⟨k, m, HK, rfl, rfl, HZ, HB⟩ := hrel
    by_cases hlt : k < n
    · obtain ⟨g, o, hA, g1⟩ := (HS.out.below HB.out (Nat.le_refl _)).int hlt
      cases hA
      have d0 : decide ((k : Int) < (n : Int)) = true := by simp; omega
      have d0' : decide (k < n) = true := by simp; omega
      obtain ⟨v, hv⟩ : ∃ v, l.getD k 0 = v := ⟨_, rfl⟩
      rw [hv] at g1
      have hkn : (k : Int) < (n : Int) := by omega
      have hsz : sz l (k + 1) = sz l k + v.natAbs := by rw [← hv]; rfl
      have hmo := sz_mono l (show k + 1 ≤ n by omega)
      have hm1 := HM.out
      have hz1 := HZ.out
      obtain ⟨nm, hnm⟩ : ∃ nm, -(m : Int) = nm := ⟨_, rfl⟩
      have hwn : IntKind.i64.wrap nm = nm := IntWalk.i64_in _ (by omega)
      by_cases h1 : v < nm
      · have d1 : decide (v < nm) = true := decide_eq_true h1
        have HN : Hid (decide (sz l n ≤ M) = false) := Lib.hid (decide_eq_false (by omega))
        clear hlt hv hsz hmo hm1 hz1 h1
        go_wp2_with fail
        go_ret
        exact ⟨by rw [HN.out]; rfl, HB.out⟩
      · have d1 : decide (v < nm) = false := decide_eq_false h1
        by_cases h2 : (m : Int) < v
        · have d2 : decide ((m : Int) < v) = true := decide_eq_true h2
          have HN : Hid (decide (sz l n ≤ M) = false) := Lib.hid (decide_eq_false (by omega))
          clear hlt hv hsz hmo hm1 hz1 h1 h2
          go_wp2_with fail
          go_ret
          exact ⟨by rw [HN.out]; rfl, HB.out⟩
        · have d2 : decide ((m : Int) < v) = false := decide_eq_false h2
          have HLT := Lib.hid hlt
          by_cases h3 : v < 0
          · have d3 : decide (v < 0) = true := decide_eq_true h3
            obtain ⟨a, ha⟩ : ∃ a, -v = a := ⟨_, rfl⟩
            have hwa : IntKind.i64.wrap a = a := IntWalk.i64_in _ (by omega)
            obtain ⟨t, ht⟩ : ∃ t : Nat, (m : Int) - a = (t : Int) := ⟨((m : Int) - a).toNat, by omega⟩
            have hwt : IntKind.i64.wrap (t : Int) = (t : Int) := IntWalk.i64_in _ (by omega)
            have HT : Hid (sz l (k + 1) + t = M) := Lib.hid (by omega)
            clear hlt hv hsz hmo hm1 hz1 h1 h2 h3
            go_wp2_with fail
            go_roundw
            case rel => exact ⟨k + 1, t, Lib.hid HLT.out, by go_num, rfl, HT, HB⟩
            case measure => have := HLT.out; simp [intOf]; omega
          · have d3 : decide (v < 0) = false := decide_eq_false h3
            obtain ⟨t, ht⟩ : ∃ t : Nat, (m : Int) - v = (t : Int) := ⟨((m : Int) - v).toNat, by omega⟩
            have hwt : IntKind.i64.wrap (t : Int) = (t : Int) := IntWalk.i64_in _ (by omega)
            have HT : Hid (sz l (k + 1) + t = M) := Lib.hid (by omega)
            clear hlt hv hsz hmo hm1 hz1 h1 h2 h3
            go_wp2_with fail
            go_roundw
            case rel => exact ⟨k + 1, t, Lib.hid HLT.out, by go_num, rfl, HT, HB⟩
            case measure => have := HLT.out; simp [intOf]; omega
    · obtain rfl : k = n := by have := HK.out; omega
      have d0 : decide ((k : Int) < (k : Int)) = false := by simp
      have d0' : decide (k < k) = false := by simp
      have HN : Hid (decide (sz l k ≤ M) = true) := Lib.hid (decide_eq_true (by have := HZ.out; omega))
      clear hlt
      go_wp2_with fail
      go_ret
      exact ⟨by rw [HN.out]; rfl, HB.out⟩

/-- A number turned k times. -/
def tn2 (a b : Int) : Nat → Int × Int
  | 0 => (a, b)
  | k + 1 => (-(tn2 a b k).2, (tn2 a b k).1)
theorem tn2_eq (a b : Int) : ∀ k < 4, tn2 a b k = (tRe k a b, tIm k a b) := by
  refine all4 ?_ ?_ ?_ ?_ <;> simp [tn2, tRe, tIm, uRe, uIm]
theorem tn2_le (a b : Int) (M : Nat) (ha : a.natAbs ≤ M) (hb : b.natAbs ≤ M) : ∀ k, (tn2 a b k).1.natAbs ≤ M ∧ (tn2 a b k).2.natAbs ≤ M := by
  intro k
  induction k with
  | zero => exact ⟨ha, hb⟩
  | succ k ih => show (-(tn2 a b k).2).natAbs ≤ M ∧ _; exact ⟨by rw [Int.natAbs_neg]; exact ih.2, ih.1⟩
set_option maxRecDepth 20000 in
set_option maxHeartbeats 800000 in
theorem turned_any (a b : Int) (n : Nat) (w : World) (hn : n < 4) (ha : a.natAbs ≤ 4611686018427387904) (hb : b.natAbs ≤ 4611686018427387904) :
    Calls Try.prog 58 #[.agg #[.int .i64 a, .int .i64 b], .int .i64 (n : Int)] w fun e w' => e = .returned (.agg #[.int .i64 (tRe n a b), .int .i64 (tIm n a b)]) ∧ Below w.heap.size w w' := by
  obtain ⟨W, hW⟩ : ∃ W, (w.alloc (.cells #[.int .i64 a, .int .i64 b] 62)).alloc (.cells #[.int .i64 0, .int .i64 0] 62) = W := ⟨_, rfl⟩
  have A1 : Arr 62 W w.heap.size #[.int .i64 a, .int .i64 b] := by rw [← hW]; exact (Arr.new _ _ _).al _
  have A2 : Arr 62 W (w.heap.size + 1) #[.int .i64 0, .int .i64 0] := by rw [← hW]; exact Arr.new1 _ _ _ _
  have hB : Below w.heap.size w W := by rw [← hW]; exact ((Below.refl _ _).alloc (Nat.le_refl _) _).alloc (by simp) _
  have HA := Lib.hid (And.intro A1 (And.intro A2 hB))
  have HW := Lib.hid hW
  have HL := Lib.hid (tn2_le a b _ ha hb)
  clear A1 A2 hB hW ha hb
  have hn9 : (n : Int) < 4 := by omega
  have HN := Lib.hid hn
  clear hn
  go_enter Try.func58, Try.ntmps58
  go_upto_region 2 with fail
  rw [HW.out]
  go_wp2_with fail
  go_loopw [5] (fun iv wr => ∃ k : Nat, Hid (k ≤ n) ∧ iv = .int .i64 (k : Int) ∧ Hid (Arr 62 wr w.heap.size #[.int .i64 (tn2 a b k).1, .int .i64 (tn2 a b k).2] ∧ Arr 62 wr (w.heap.size + 1) #[.int .i64 0, .int .i64 0] ∧ Below w.heap.size w wr)) (fun iv _ => n - (intOf iv).toNat)
  case atStart => exact ⟨0, Lib.hid (Nat.zero_le _), rfl, Lib.hid HA.out⟩
  case round =>
    obtain ⟨k, HK, rfl, HB⟩ := hrel
    have c0 : wr.cell? ⟨w.heap.size, 0, none⟩ = some (.int .i64 (tn2 a b k).1) := HB.out.1.c 0
    have c1 : wr.cell? ⟨w.heap.size, 1, none⟩ = some (.int .i64 (tn2 a b k).2) := HB.out.1.c 1
    have f0 := HB.out.1.f 0
    have f1 := HB.out.1.f 1
    by_cases hlt : k < n
    · have d0 : decide ((k : Int) < (n : Int)) = true := by simp; omega
      have d0' : decide (k < n) = true := by simp; omega
      have hkn : (k : Int) < (n : Int) := by omega
      have hL := HL.out k
      obtain ⟨p, hp⟩ : ∃ p, (tn2 a b k).1 = p := ⟨_, rfl⟩
      obtain ⟨q, hq⟩ : ∃ q, (tn2 a b k).2 = q := ⟨_, rfl⟩
      have e1 : (tn2 a b (k + 1)).1 = -q := by rw [← hq]; rfl
      have e2 : (tn2 a b (k + 1)).2 = p := by rw [← hp]; rfl
      rw [hp, hq] at hL HB
      rw [hp] at c0
      rw [hq] at c1
      obtain ⟨nq, hnq⟩ : ∃ nq, -q = nq := ⟨_, rfl⟩
      rw [hnq] at e1
      have hwq : IntKind.i64.wrap nq = nq := IntWalk.i64_in _ (by omega)
      have HE := Lib.hid (And.intro e1 e2)
      have HLT := Lib.hid hlt
      clear hL e1 e2 hp hq hlt
      go_wp2_with fail
      go_roundw
      case rel => exact ⟨k + 1, Lib.hid HLT.out, by go_num, Lib.hid (by rw [HE.out.1, HE.out.2]; exact ⟨(HB.out.1.set 0 _).set 1 _, (HB.out.2.1.other _ (by omega)).other _ (by omega), (HB.out.2.2.setCell (Nat.le_refl _) _).setCell (Nat.le_refl _) _⟩)⟩
      case measure => have := HLT.out; simp [intOf]; omega
    · obtain rfl : k = n := by have := HK.out; omega
      have d0 : decide ((k : Int) < (k : Int)) = false := by simp
      have d0' : decide (k < k) = false := by simp
      have HT := Lib.hid (tn2_eq a b k HN.out)
      have g0 : wr.cell? ⟨w.heap.size + 1, 0, none⟩ = some (.int .i64 0) := HB.out.2.1.c 0
      have g1 : wr.cell? ⟨w.heap.size + 1, 1, none⟩ = some (.int .i64 0) := HB.out.2.1.c 1
      have k0 := HB.out.2.1.f 0
      have k1 := HB.out.2.1.f 1
      clear hlt
      go_wp2_with fail
      have P9 := (HB.out.2.1.set 0 (.int .i64 (tn2 a b k).1)).set 1 (.int .i64 (tn2 a b k).2)
      have z0 : _ = some (Value.int .i64 (tn2 a b k).1) := P9.c 0
      have z1 : _ = some (Value.int .i64 (tn2 a b k).2) := P9.c 1
      exact bodyPost_ret (v := .agg #[.int .i64 (tn2 a b k).1, .int .i64 (tn2 a b k).2]) (by simp [results, Try.results58, go_sem, z0, z1]) rfl ⟨by rw [HT.out], (HB.out.2.2.setCell (Nat.le_succ _) _).setCell (Nat.le_succ _) _⟩
end Go.Proofs.Ythidfmkmklnhhaa
