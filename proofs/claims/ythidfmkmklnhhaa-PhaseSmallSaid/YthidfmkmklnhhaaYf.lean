/- Walks: sums, size, Of, Row. -/
import Derived.Test.YthidfmkmklnhhaaProg
import Derived.Test.YthidfmkmklnhhaaYe
namespace Go.Proofs.Ythidfmkmklnhhaa
open Go.RowKit
set_option linter.unusedVariables false

/-- Four complex numbers. -/
abbrev zv (x0 y0 x1 y1 x2 y2 x3 y3 : Nat) : Value := .agg #[.complex .f64 x0 y0, .complex .f64 x1 y1, .complex .f64 x2 y2, .complex .f64 x3 y3]
/-- They are those of class sums. -/
def CI4 (x0 y0 x1 y1 x2 y2 x3 y3 : Nat) (c : Nat → Int) : Prop :=
  (FI x0 (dR 0 c) ∧ FI y0 (dI 0 c)) ∧ (FI x1 (dR 1 c) ∧ FI y1 (dI 1 c)) ∧ (FI x2 (dR 2 c) ∧ FI y2 (dI 2 c)) ∧ (FI x3 (dR 3 c) ∧ FI y3 (dI 3 c))
abbrev ZO : Obj := .cells #[.complex .f64 0 0, .complex .f64 0 0, .complex .f64 0 0, .complex .f64 0 0] 26

set_option maxRecDepth 20000 in
set_option maxHeartbeats 800000 in
theorem sums_any (A : Option Addr) (n c : Nat) (l : List Int) (w : World) (hs : Sees w 1 A n c (l.map (Value.int .i64))) (hz : sz l n ≤ 4503599627370496) :
    Calls Try.prog 35 #[.slice A n c] w fun e w' => ∃ x0 y0 x1 y1 x2 y2 x3 y3, e = .returned (zv x0 y0 x1 y1 x2 y2 x3 y3) ∧ CI4 x0 y0 x1 y1 x2 y2 x3 y3 (cs l n) ∧ Below w.heap.size w w' := by
  have hmf : ∀ (fn : Fn) (first cap : Array Value) (w : World), (Instr.makeFunc fn first cap).run Try.prog w = .ok (.func fn first cap) w := fun _ _ _ _ => rfl
  obtain ⟨W, hW⟩ : ∃ W, (w.alloc (.cells #[.slice A n c] 22)).alloc ZO = W := ⟨_, rfl⟩
  have A1 : Arr 22 W w.heap.size #[.slice A n c] := by rw [← hW]; exact (Arr.new _ _ _).al _
  have A2 : Arr 26 W (w.heap.size + 1) #[.complex .f64 0 0, .complex .f64 0 0, .complex .f64 0 0, .complex .f64 0 0] := by rw [← hW]; exact Arr.new1 _ _ _ _
  have hB : Below w.heap.size w W := by rw [← hW]; exact ((Below.refl _ _).alloc (Nat.le_refl _) _).alloc (by simp) _
  have HD : Hid (Does 59 #[.pointer (some ⟨w.heap.size, 0, none⟩)] W.heap.size W fun j x y => FI x (dR j (cs l n)) ∧ FI y (dI j (cs l n))) := Lib.hid fun j i W' hj hi k =>
    sums1_any j i hj hi w.heap.size A n c l W' (A1.step k) ((hs.below hB (Nat.le_refl _)).below k (Nat.le_refl _)) hz
  have HA := Lib.hid (And.intro A2 hB)
  have HW := Lib.hid hW
  have hst := st_c
  clear hs hz A1 A2 hB hW
  go_enter Try.func35, Try.ntmps35
  go_wp2_with (go_at_call 37; rw [HW.out]; refine (eachSums_any _ _ _ HD.out).mono ?_; rintro e w1 ⟨x0, y0, x1, y1, x2, y2, x3, y3, rfl, o1, k1⟩; have O1 := Lib.hid o1; have B1 := Lib.hid (And.intro (HA.out.1.step k1) (below_step HA.out.2 k1)); have s0 : _ = some (Value.complex .f64 0 0) := B1.out.1.c 0; have s1 : _ = some (Value.complex .f64 0 0) := B1.out.1.c 1; have s2 : _ = some (Value.complex .f64 0 0) := B1.out.1.c 2; have s3 : _ = some (Value.complex .f64 0 0) := B1.out.1.c 3; have q0 := B1.out.1.f 0; have q1 := B1.out.1.f 1; have q2 := B1.out.1.f 2; have q3 := B1.out.1.f 3; clear o1 k1)
  have P9 := B1.out.1.put4 (.complex .f64 x0 y0) (.complex .f64 x1 y1) (.complex .f64 x2 y2) (.complex .f64 x3 y3)
  have z0 : _ = some (Value.complex .f64 x0 y0) := P9.c 0
  have z1 : _ = some (Value.complex .f64 x1 y1) := P9.c 1
  have z2 : _ = some (Value.complex .f64 x2 y2) := P9.c 2
  have z3 : _ = some (Value.complex .f64 x3 y3) := P9.c 3
  exact bodyPost_ret (v := zv x0 y0 x1 y1 x2 y2 x3 y3) (by simp [results, Try.results35, go_sem, z0, z1, z2, z3]) rfl ⟨_, _, _, _, _, _, _, _, rfl, O1.out, below_set4 B1.out.2 (Nat.le_succ _) _ _ _ _⟩

/-- What 'size' returns. -/
def SizeR (l : List Int) (n M : Nat) (s : Int) (b : Bool) : Prop := (sz l n ≤ M ∧ b = true ∧ s = (sz l n : Int)) ∨ (¬ sz l n ≤ M ∧ b = false ∧ s = 0)

set_option maxRecDepth 20000 in
set_option maxHeartbeats 800000 in
theorem size_any (A : Option Addr) (n c M : Nat) (l : List Int) (w : World) (hs : Sees w 1 A n c (l.map (Value.int .i64))) (hM : M ≤ 1125899906842624) :
    Calls Try.prog 34 #[.slice A n c, .int .i64 (M : Int)] w fun e w' => ∃ s b, e = .returned (.tuple #[.int .i64 s, .bool b]) ∧ SizeR l n M s b ∧ Below w.heap.size w w' := by
  have hcm : n ≤ 9223372036854775807 := Nat.le_trans hs.cap hs.capm
  have HS := Lib.hid hs
  obtain ⟨nM, hnM⟩ : ∃ nM, -(M : Int) = nM := ⟨_, rfl⟩
  have hwM : IntKind.i64.wrap nM = nM := IntWalk.i64_in _ (by omega)
  have HM := Lib.hid (And.intro hM hnM)
  clear hs hM
  go_enter Try.func34, Try.ntmps34
  go_wp2_with fail
  go_loopw [6, 11] (fun sv iv wr => ∃ k : Nat, Hid (k ≤ n) ∧ iv = .int .i64 (k : Int) ∧ sv = .int .i64 (sz l k : Int) ∧ Hid (sz l k ≤ M) ∧ Hid (Below w.heap.size w wr)) (fun _ iv _ => n - (intOf iv).toNat)
  case atStart => exact ⟨0, Lib.hid (Nat.zero_le _), rfl, rfl, Lib.hid (Nat.zero_le _), Lib.hid (Below.refl _ _)⟩
  case round =>
    obtain ⟨k, HK, rfl, rfl, HZ, HB⟩ := hrel
    obtain ⟨s, hs⟩ : ∃ s, sz l k = s := ⟨_, rfl⟩
    rw [hs] at HZ ⊢
    by_cases hlt : k < n
    · obtain ⟨g, o, hA, g1⟩ := (HS.out.below HB.out (Nat.le_refl _)).int hlt
      cases hA
      have d0 : decide ((k : Int) < (n : Int)) = true := by simp; omega
      have d0' : decide (k < n) = true := by simp; omega
      obtain ⟨v, hv⟩ : ∃ v, l.getD k 0 = v := ⟨_, rfl⟩
      rw [hv] at g1
      have hkn : (k : Int) < (n : Int) := by omega
      have hsz : sz l (k + 1) = s + v.natAbs := by rw [← hs, ← hv]; rfl
      have hmo := sz_mono l (show k + 1 ≤ n by omega)
      have hm1 := HM.out.1
      have hm2 := HM.out.2
      have hz1 := HZ.out
      obtain ⟨a, ha⟩ : ∃ a : Nat, v.natAbs = a := ⟨_, rfl⟩
      by_cases h1 : v < nM
      · have d1 : decide (v < nM) = true := decide_eq_true h1
        have HN : Hid (¬ sz l n ≤ M) := Lib.hid (by omega)
        clear hlt hv hsz hmo hm1 hm2 hz1 ha h1
        go_wp2_with fail
        go_ret2
        exact ⟨_, _, rfl, .inr ⟨HN.out, rfl, rfl⟩, HB.out⟩
      · have d1 : decide (v < nM) = false := decide_eq_false h1
        by_cases h2 : (M : Int) < v
        · have d2 : decide ((M : Int) < v) = true := decide_eq_true h2
          have HN : Hid (¬ sz l n ≤ M) := Lib.hid (by omega)
          clear hlt hv hsz hmo hm1 hm2 hz1 ha h1 h2
          go_wp2_with fail
          go_ret2
          exact ⟨_, _, rfl, .inr ⟨HN.out, rfl, rfl⟩, HB.out⟩
        · have d2 : decide ((M : Int) < v) = false := decide_eq_false h2
          obtain ⟨nv, hnv⟩ : ∃ nv, -v = nv := ⟨_, rfl⟩
          have hwv : IntKind.i64.wrap nv = nv := IntWalk.i64_in _ (by omega)
          have hmx1 : (if v < nv then nv else v) = (a : Int) := by split <;> omega
          have hmx2 : (if nv < v then v else nv) = (a : Int) := by split <;> omega
          obtain ⟨t, ht⟩ : ∃ t : Nat, s + a = t := ⟨_, rfl⟩
          have ht1 : (s : Int) + (a : Int) = (t : Int) := by omega
          have hwt : IntKind.i64.wrap (t : Int) = (t : Int) := IntWalk.i64_in _ (by omega)
          by_cases h3 : M < t
          · have d3 : decide ((M : Int) < (t : Int)) = true := by simp; omega
            have d3' : decide (M < t) = true := by simp; omega
            have HN : Hid (¬ sz l n ≤ M) := Lib.hid (by omega)
            clear hlt hv hsz hmo hm1 hm2 hz1 ha h1 h2 h3 ht
            go_wp2_with fail
            go_ret2
            exact ⟨_, _, rfl, .inr ⟨HN.out, rfl, rfl⟩, HB.out⟩
          · have d3 : decide ((M : Int) < (t : Int)) = false := by simp; omega
            have d3' : decide (M < t) = false := by simp; omega
            have HT : Hid (sz l (k + 1) = t ∧ t ≤ M) := Lib.hid (by omega)
            have HLT := Lib.hid hlt
            clear hlt hv hsz hmo hm1 hm2 hz1 ha h1 h2 h3 ht
            go_wp2_with fail
            go_roundw
            case rel => exact ⟨k + 1, Lib.hid HLT.out, by go_num, by rw [HT.out.1], Lib.hid (by rw [HT.out.1]; exact HT.out.2), HB⟩
            case measure => have := HLT.out; simp [intOf]; omega
    · obtain rfl : k = n := by have := HK.out; omega
      have d0 : decide ((k : Int) < (k : Int)) = false := by simp
      have d0' : decide (k < k) = false := by simp
      have HSS := Lib.hid hs
      clear hlt hs
      go_wp2_with fail
      go_ret2
      exact ⟨_, _, rfl, .inl ⟨by rw [HSS.out]; exact HZ.out, rfl, by rw [HSS.out]⟩, HB.out⟩
end Go.Proofs.Ythidfmkmklnhhaa
