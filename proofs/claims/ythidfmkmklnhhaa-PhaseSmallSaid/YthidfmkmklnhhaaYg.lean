/- Walks: Of, Row. -/
import Derived.Test.YthidfmkmklnhhaaProg
import Derived.Test.YthidfmkmklnhhaaYf
import Derived.Deep.DeepCutAuto
namespace Go.Proofs.Ythidfmkmklnhhaa
open Go.RowKit
set_option linter.unusedVariables false

theorem Arr.four {W : World} {b : Nat} {a0 a1 a2 a3 : Value} {t : TypeId} (h : Arr t W b #[a0, a1, a2, a3]) : (W.cell? ⟨b, 0, none⟩ = some a0 ∧ W.cell? ⟨b, 1, none⟩ = some a1 ∧ W.cell? ⟨b, 2, none⟩ = some a2 ∧ W.cell? ⟨b, 3, none⟩ = some a3) ∧ W.frozen? ⟨b, 0, none⟩ = false ∧ W.frozen? ⟨b, 1, none⟩ = false ∧ W.frozen? ⟨b, 2, none⟩ = false ∧ W.frozen? ⟨b, 3, none⟩ = false :=
  ⟨⟨h.c 0, h.c 1, h.c 2, h.c 3⟩, h.f 0, h.f 1, h.f 2, h.f 3⟩
/-- What a call returns that makes sums or an error: those of class sums if ok, else zeros and the error. -/
def Sums (x0 y0 x1 y1 x2 y2 x3 y3 : Nat) (err : Int) (ok : Prop) (c : Nat → Int) (er : Int) : Prop :=
  (ok ∧ err = 0 ∧ CI4 x0 y0 x1 y1 x2 y2 x3 y3 c) ∨ (¬ ok ∧ err = er ∧ zv x0 y0 x1 y1 x2 y2 x3 y3 = zv 0 0 0 0 0 0 0 0)

set_option maxRecDepth 20000 in
set_option maxHeartbeats 800000 in
theorem Of_any (A : Option Addr) (n c : Nat) (l : List Int) (w : World) (hs : Sees w 1 A n c (l.map (Value.int .i64))) :
    Calls Try.prog 15 #[.slice A n c] w fun e w' => ∃ x0 y0 x1 y1 x2 y2 x3 y3 err, e = .returned (.tuple #[zv x0 y0 x1 y1 x2 y2 x3 y3, .int .i64 err]) ∧ Sums x0 y0 x1 y1 x2 y2 x3 y3 err (sz l n ≤ 1125899906842624) (cs l n) 3 ∧ Below w.heap.size w w' := by
  obtain ⟨W, hW⟩ : ∃ W, w.alloc ZO = W := ⟨_, rfl⟩
  have A2 : Arr 26 W w.heap.size #[.complex .f64 0 0, .complex .f64 0 0, .complex .f64 0 0, .complex .f64 0 0] := by rw [← hW]; exact Arr.new _ _ _
  have hB : Below w.heap.size w W := by rw [← hW]; exact (Below.refl _ _).alloc (Nat.le_refl _) _
  have HS := Lib.hid (hs.below hB (Nat.le_refl _))
  have HA := Lib.hid (And.intro A2 hB)
  have HW := Lib.hid hW
  have hst := st_c
  clear hs A2 hB hW
  go_enter Try.func15, Try.ntmps15
  go_upto_region 2 with (go_at_call 34; rw [HW.out]; refine (size_any A n c 1125899906842624 l _ HS.out (Nat.le_refl _)).mono ?_; rintro e w1 ⟨sv, b, rfl, hr, k1⟩; have HR := Lib.hid hr; have B1 := Lib.hid (And.intro (HA.out.1.step k1) (below_step HA.out.2 k1)); have S1 := Lib.hid (HS.out.below k1 (Nat.le_refl _)); clear hr k1)
  have F1 := B1.out.1.four
  obtain ⟨⟨s0, s1, s2, s3⟩, q0, q1, q2, q3⟩ := F1
  cases b with
  | true =>
    have HZ : Hid (sz l n ≤ 1125899906842624) := Lib.hid (by rcases HR.out with ⟨h, _⟩ | ⟨_, h, _⟩; exact h; cases h)
    clear HR
    go_wp2_with (go_at_call 35; refine (sums_any A n c l _ S1.out (Nat.le_trans HZ.out (by decide))).mono ?_; rintro e w2 ⟨x0, y0, x1, y1, x2, y2, x3, y3, rfl, o2, k2⟩; have O2 := Lib.hid o2; have B2 := Lib.hid (And.intro (B1.out.1.step k2) (below_step B1.out.2 k2)); clear o2 k2 s0 s1 s2 s3 q0 q1 q2 q3; obtain ⟨⟨s0, s1, s2, s3⟩, q0, q1, q2, q3⟩ := B2.out.1.four)
    have P9 := B2.out.1.put4 (.complex .f64 x0 y0) (.complex .f64 x1 y1) (.complex .f64 x2 y2) (.complex .f64 x3 y3)
    obtain ⟨⟨z0, z1, z2, z3⟩, -⟩ := P9.four
    exact bodyPost_ret (v := .tuple #[zv x0 y0 x1 y1 x2 y2 x3 y3, .int .i64 0]) (by simp [results, Try.results15, go_sem, z0, z1, z2, z3]) rfl ⟨_, _, _, _, _, _, _, _, _, rfl, .inl ⟨HZ.out, rfl, O2.out⟩, below_set4 B2.out.2 (Nat.le_refl _) _ _ _ _⟩
  | false =>
    have HZ : Hid (¬ sz l n ≤ 1125899906842624) := Lib.hid (by rcases HR.out with ⟨_, h, _⟩ | ⟨h, _⟩; cases h; exact h)
    clear HR
    go_wp2_with fail
    have P9 := B1.out.1.put4 (.complex .f64 0 0) (.complex .f64 0 0) (.complex .f64 0 0) (.complex .f64 0 0)
    obtain ⟨⟨z0, z1, z2, z3⟩, -⟩ := P9.four
    exact bodyPost_ret (v := .tuple #[zv 0 0 0 0 0 0 0 0, .int .i64 3]) (by simp [results, Try.results15, go_sem, z0, z1, z2, z3]) rfl ⟨_, _, _, _, _, _, _, _, _, rfl, .inr ⟨HZ.out, rfl, rfl⟩, below_set4 B1.out.2 (Nat.le_refl _) _ _ _ _⟩
set_option maxRecDepth 20000 in
set_option maxHeartbeats 800000 in
theorem Row_any (c0 c1 c2 c3 : Int) (w : World) :
    Calls Try.prog 27 #[.agg #[.int .i64 c0, .int .i64 c1, .int .i64 c2, .int .i64 c3]] w fun e w' => ∃ x0 y0 x1 y1 x2 y2 x3 y3 err, e = .returned (.tuple #[zv x0 y0 x1 y1 x2 y2 x3 y3, .int .i64 err]) ∧ Sums x0 y0 x1 y1 x2 y2 x3 y3 err (sz [c0, c1, c2, c3] 4 ≤ 1125899906842624) (cs [c0, c1, c2, c3] 4) 3 ∧ Below w.heap.size w w' := by
  obtain ⟨W, hW⟩ : ∃ W, (w.alloc (.cells #[.int .i64 c0, .int .i64 c1, .int .i64 c2, .int .i64 c3] 40)).alloc ZO = W := ⟨_, rfl⟩
  have A1 : Arr 40 W w.heap.size #[.int .i64 c0, .int .i64 c1, .int .i64 c2, .int .i64 c3] := by rw [← hW]; exact (Arr.new _ _ _).al _
  have A2 : Arr 26 W (w.heap.size + 1) #[.complex .f64 0 0, .complex .f64 0 0, .complex .f64 0 0, .complex .f64 0 0] := by rw [← hW]; exact Arr.new1 _ _ _ _
  have hB : Below w.heap.size w W := by rw [← hW]; exact ((Below.refl _ _).alloc (Nat.le_refl _) _).alloc (by simp) _
  have HS : Hid (Sees W 1 (some ⟨w.heap.size, 0, none⟩) 4 4 ([c0, c1, c2, c3].map (Value.int .i64))) := Lib.hid (sees_block A1 rfl (Nat.le_refl _) (by decide) ⟨[], rfl⟩ : Sees W 1 _ 4 4 [Value.int .i64 c0, Value.int .i64 c1, Value.int .i64 c2, Value.int .i64 c3])
  have HA := Lib.hid (And.intro A2 hB)
  have HW := Lib.hid hW
  have hst := st_c
  clear A1 A2 hB hW
  go_enter Try.func27, Try.ntmps27
  go_wp2_with (go_at_call 15; rw [HW.out]; refine (Of_any _ _ _ _ _ HS.out).mono ?_; rintro e w1 ⟨x0, y0, x1, y1, x2, y2, x3, y3, err, rfl, o1, k1⟩; have O1 := Lib.hid o1; have B1 := Lib.hid (And.intro (HA.out.1.step k1) (below_step HA.out.2 k1)); clear o1 k1; obtain ⟨⟨s0, s1, s2, s3⟩, q0, q1, q2, q3⟩ := B1.out.1.four)
  have P9 := B1.out.1.put4 (.complex .f64 x0 y0) (.complex .f64 x1 y1) (.complex .f64 x2 y2) (.complex .f64 x3 y3)
  obtain ⟨⟨z0, z1, z2, z3⟩, -⟩ := P9.four
  exact bodyPost_ret (v := .tuple #[zv x0 y0 x1 y1 x2 y2 x3 y3, .int .i64 err]) (by simp [results, Try.results27, go_sem, z0, z1, z2, z3]) rfl ⟨_, _, _, _, _, _, _, _, _, rfl, O1.out, below_set4 B1.out.2 (Nat.le_succ _) _ _ _ _⟩
end Go.Proofs.Ythidfmkmklnhhaa
