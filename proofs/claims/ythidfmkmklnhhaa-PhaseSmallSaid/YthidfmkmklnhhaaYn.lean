/- Walks: Runs. -/
import Derived.Test.YthidfmkmklnhhaaProg
import Derived.Test.YthidfmkmklnhhaaYm
namespace Go.Proofs.Ythidfmkmklnhhaa
open Go.RowKit
set_option linter.unusedVariables false

theorem E_ii : Elem Try.prog 22 3 (.int .i64 0) 1 8 := elem_of Try.underlying22 (by kernel_rfl) rfl (by decide)
/-- 1 where a row has the number, of its first k elements; else 0. -/
def idr (l : List Int) (id : Int) (n k : Nat) : List Int := (List.range n).map fun i => if i < k ∧ l.getD i 0 = id then 1 else 0
theorem idr_len (l : List Int) (id : Int) (n k : Nat) : (idr l id n k).length = n := by simp [idr]
theorem idr_get (l : List Int) (id : Int) (n k i : Nat) (hi : i < n) : (idr l id n k).getD i 0 = if i < k ∧ l.getD i 0 = id then 1 else 0 := by simp [idr, hi]
theorem idr_zero (l : List Int) (id : Int) (n : Nat) : idr l id n 0 = List.replicate n 0 := by
  apply List.ext_getElem <;> simp [idr]
theorem idr_same (l : List Int) (id : Int) (n k : Nat) (h : l.getD k 0 ≠ id) : idr l id n (k + 1) = idr l id n k := by
  unfold idr
  apply List.map_congr_left
  intro i _
  by_cases hi : i = k
  · subst hi; rw [if_neg (fun hh => h hh.2), if_neg (fun hh => h hh.2)]
  · by_cases h1 : i < k
    · by_cases h2 : l.getD i 0 = id
      · rw [if_pos ⟨by omega, h2⟩, if_pos ⟨h1, h2⟩]
      · rw [if_neg (fun hh => h2 hh.2), if_neg (fun hh => h2 hh.2)]
    · rw [if_neg (fun hh => by omega), if_neg (fun hh => by omega)]
theorem idr_set (l : List Int) (id : Int) (n k : Nat) (hk : k < n) (h : l.getD k 0 = id) : (idr l id n k).set k 1 = idr l id n (k + 1) := by
  apply List.ext_getElem
  · simp [idr]
  · intro i h1 h2
    have hi : i < n := by simpa [idr] using h2
    rw [List.getElem_set]
    simp only [idr, List.getElem_map, List.getElem_range]
    by_cases hik : k = i
    · subst hik; rw [if_pos rfl, if_pos ⟨by omega, h⟩]
    · rw [if_neg hik]
      by_cases h1 : i < k
      · by_cases h2 : l.getD i 0 = id
        · rw [if_pos ⟨h1, h2⟩, if_pos ⟨by omega, h2⟩]
        · rw [if_neg (fun hh => h2 hh.2), if_neg (fun hh => h2 hh.2)]
      · rw [if_neg (fun hh => by omega), if_neg (fun hh => by omega)]
theorem idr_sz (l : List Int) (id : Int) (n k : Nat) : ∀ m, sz (idr l id n k) m ≤ m := by
  intro m
  induction m with
  | zero => exact Nat.le_refl _
  | succ m ih =>
    show sz (idr l id n k) m + ((idr l id n k).getD m 0).natAbs ≤ m + 1
    have : ((idr l id n k).getD m 0).natAbs ≤ 1 := by
      by_cases hm : m < n
      · rw [idr_get l id n k m hm]; split <;> decide
      · rw [List.getD, List.getElem?_eq_none (by rw [idr_len]; omega)]; decide
    omega

set_option maxRecDepth 20000 in
set_option maxHeartbeats 1600000 in
theorem Runs_any (A : Option Addr) (n c : Nat) (l : List Int) (id : Int) (w : World) (hs : Sees w 1 A n c (l.map (Value.int .i64))) (hn : n ≤ 10000) :
    Calls Try.prog 21 #[.slice A n c, .int .i64 id] w fun e w' => ∃ x y, e = .returned (zf x y) ∧ CIF x y (cs (idr l id n n) n) ∧ Below w.heap.size w w' := by
  obtain ⟨W, hW⟩ : ∃ W, w.alloc ZO = W := ⟨_, rfl⟩
  have A1 : Arr 26 W w.heap.size #[.complex .f64 0 0, .complex .f64 0 0, .complex .f64 0 0, .complex .f64 0 0] := by rw [← hW]; exact Arr.new _ _ _
  have hB : Below w.heap.size w W := by rw [← hW]; exact below_al (Below.refl _ _) _
  have HS := Lib.hid (hs.below hB (Nat.le_refl _))
  have HA := Lib.hid (And.intro A1 hB)
  have HN := Lib.hid hn
  have HW := Lib.hid hW
  have hst := st_c
  have hn9 : (n : Int) ≤ 10000 := by omega
  clear hs A1 hB hW hn
  go_enter Try.func21, Try.ntmps21
  go_upto_region 1 with fail
  rw [HW.out]
  go_wp2_with (at_make; refine wpList_mkF E_ii rfl _ _ rfl n rfl rfl (by rfl) (by rfl) (by have := HN.out; omega) (by have := HN.out; simp [maxLen]; omega) ?_; intro w1 hown1 hg1 hb1; have B1 : Hid (Arr 26 w1 w.heap.size #[.complex .f64 0 0, .complex .f64 0 0, .complex .f64 0 0, .complex .f64 0 0] ∧ w1.ownsRow W.heap.size 3 1 (.slice (some ⟨W.heap.size, 0, none⟩) n n) n ((idr l id n 0).map (Value.int .i64)) ∧ Below W.heap.size W w1) := Lib.hid ⟨HA.out.1.step hb1, by rw [idr_zero]; exact hown1, hb1⟩; clear hown1 hg1 hb1)
  go_loopw [13] (fun iv wr => ∃ k : Nat, Hid (k ≤ n) ∧ iv = .int .i64 (k : Int) ∧ Hid (Arr 26 wr w.heap.size #[.complex .f64 0 0, .complex .f64 0 0, .complex .f64 0 0, .complex .f64 0 0] ∧ wr.ownsRow W.heap.size 3 1 (.slice (some ⟨W.heap.size, 0, none⟩) n n) n ((idr l id n k).map (Value.int .i64)) ∧ Below W.heap.size W wr)) (fun iv _ => n - (intOf iv).toNat)
  case atStart => exact ⟨0, Lib.hid (Nat.zero_le _), rfl, B1⟩
  case round =>
    clear B1
    obtain ⟨k, HK, rfl, HB⟩ := hrel
    by_cases hlt : k < n
    · obtain ⟨g, o, hA, g1⟩ := (HS.out.below HB.out.2.2 (Nat.le_refl _)).int hlt
      cases hA
      have d0 : decide ((k : Int) < (n : Int)) = true := by simp; omega
      have d0' : decide (k < n) = true := by simp; omega
      have hkn : (k : Int) < (n : Int) := by omega
      obtain ⟨v, hv⟩ : ∃ v, l.getD k 0 = v := ⟨_, rfl⟩
      rw [hv] at g1
      have HLT := Lib.hid hlt
      have HV := Lib.hid hv
      obtain ⟨u0, u1⟩ := own_cellK HB.out.2.1 hlt
      have hss := sees_own HB.out.2.1
      by_cases he : v = id
      · have hE : (v == id) = true := by simpa using he
        have d1 : decide (v = id) = true := decide_eq_true he
        have HE := Lib.hid he
        have HB2 : Hid (Arr 26 (wr.setCell ⟨W.heap.size, k, none⟩ (.int .i64 1)) w.heap.size #[.complex .f64 0 0, .complex .f64 0 0, .complex .f64 0 0, .complex .f64 0 0] ∧ (wr.setCell ⟨W.heap.size, k, none⟩ (.int .i64 1)).ownsRow W.heap.size 3 1 (.slice (some ⟨W.heap.size, 0, none⟩) n n) n ((idr l id n (k + 1)).map (Value.int .i64)) ∧ Below W.heap.size W (wr.setCell ⟨W.heap.size, k, none⟩ (.int .i64 1))) := Lib.hid ⟨HB.out.1.other (k := k) (.int .i64 1) (by have := HA.out.1.lt; omega), by rw [← idr_set l id n k hlt (by rw [hv]; exact he)]; exact own_setK HB.out.2.1 k 1, HB.out.2.2.setCell (show W.heap.size ≤ (⟨W.heap.size, k, none⟩ : Addr).block from Nat.le_refl _) (.int .i64 1)⟩
        subst he
        clear hlt hv
        go_wp2_with fail
        go_roundw
        case rel => exact ⟨k + 1, Lib.hid HLT.out, by go_num, HB2⟩
        case measure => have := HLT.out; simp [intOf]; omega
      · have hE : (v == id) = false := by simpa using he
        have d1 : decide (v = id) = false := decide_eq_false he
        have HE := Lib.hid he
        clear hlt hv
        go_wp2_with fail
        go_roundw
        case rel => exact ⟨k + 1, Lib.hid HLT.out, by go_num, Lib.hid (by rw [idr_same l id n k (by rw [HV.out]; exact HE.out)]; exact HB.out)⟩
        case measure => have := HLT.out; simp [intOf]; omega
    · obtain rfl : k = n := by have := HK.out; omega
      have d0 : decide ((k : Int) < (k : Int)) = false := by simp
      have d0' : decide (k < k) = false := by simp
      clear hlt HK
      go_wp2_with (go_at_call 35; refine (sums_any _ k k (idr l id k k) _ (sees_own HB.out.2.1) (by have := idr_sz l id k k k; have := HN.out; omega)).mono ?_; rintro e w2 ⟨x0, y0, x1, y1, x2, y2, x3, y3, rfl, o2, k2⟩; have B3 := Lib.hid (And.intro (HB.out.1.step k2) (below_step (HA.out.2.trans (HB.out.2.2.mono HA.out.2.size)) k2)); obtain ⟨u, v, rfl, rfl, rfl, rfl, rfl, rfl, rfl, rfl⟩ := fun4 x0 y0 x1 y1 x2 y2 x3 y3; have O3 := Lib.hid (CI4.f o2); obtain ⟨⟨s0, s1, s2, s3⟩, q0, q1, q2, q3⟩ := B3.out.1.four; clear o2 k2)
      have P9 := B3.out.1.put4 (.complex .f64 (u 0) (v 0)) (.complex .f64 (u 1) (v 1)) (.complex .f64 (u 2) (v 2)) (.complex .f64 (u 3) (v 3))
      obtain ⟨⟨z0, z1, z2, z3⟩, -⟩ := P9.four
      exact bodyPost_ret (v := zf u v) (by simp [results, Try.results21, go_sem, z0, z1, z2, z3]) rfl ⟨_, _, rfl, O3.out, below_set4 B3.out.2 (Nat.le_refl _) _ _ _ _⟩
end Go.Proofs.Ythidfmkmklnhhaa
