/- Walks: what is told of four numbers that are the sums of no row, or are too great. Printed by gen_ub.py. -/
import Derived.Test.YthidfmkmklnhhaaProg
import Derived.Test.YthidfmkmklnhhaaYz
import Derived.Deep.DeepCutAuto
import Derived.Deep.QuietTactic
namespace Go.Proofs.Ythidfmkmklnhhaa
open Go.RowKit
set_option linter.unusedVariables false

/-- 'whole' tells t of x. -/
def Wh (x : Nat) (t : Bool) : Prop := ∀ w, Calls Try.prog 42 #[.float .f64 x] w fun e w' => e = .returned (.bool t) ∧ w' = w
theorem Wh.fi {x : Nat} {a : Int} (h : FI x a) (ha : a.natAbs ≤ 9007199254740992) : Wh x (decide (a.natAbs ≤ 1125899906842624)) := fun w => whole_any x a w h ha
/-- 'Classes' tells c and err of four numbers. -/
def Cl (x y : Nat → Nat) (c : Nat → Int) (err : Int) : Prop := ∀ w, Calls Try.prog 23 #[zf x y] w fun e w' => e = .returned (.tuple #[iv4 c, .int .i64 err]) ∧ Below w.heap.size w w'
theorem Cl.right {x y : Nat → Nat} {c : Nat → Int} (hf : CIF x y c) (hc : szc c ≤ 1125899906842624) : Cl x y c 0 := fun w => Classes_right x y c w hf hc
theorem Cl.no {x y : Nat → Nat} {p q : Nat → Int} (hf : ∀ j < 4, FI (x j) (p j) ∧ FI (y j) (q j)) (hz : ∀ j < 4, (p j).natAbs ≤ 9007199254740992 ∧ (q j).natAbs ≤ 9007199254740992) (hn : ¬ Right4 p q) : Cl x y (fun _ => 0) 400 := fun w =>
  (Classes_any x y p q w hf hz).mono fun e w' h => by
    obtain ⟨c', err, rfl, hcl, hb⟩ := h
    refine ⟨?_, hb⟩
    rcases hcl with ⟨h, _⟩ | ⟨_, rfl, h0⟩
    · exact absurd h hn
    · rw [iv4_ext (d := fun _ => 0) h0]
/-- 'small' tells err of four numbers. -/
def Sm (x y : Nat → Nat) (err : Int) : Prop := ∀ w, Calls Try.prog 40 #[zf x y] w fun e w' => e = .returned (.int .i64 err) ∧ Below w.heap.size w w'
theorem Sm.ok {x y : Nat → Nat} {c : Nat → Int} (hf : CIF x y c) (hc : szc c ≤ 16777216) : Sm x y 0 := fun w => small_ok x y c w hf hc
theorem Sm.great {x y : Nat → Nat} {c : Nat → Int} (hf : CIF x y c) (hc : szc c ≤ 1125899906842624) (hg : ¬ szc c ≤ 16777216) : Sm x y 2 := fun w =>
  (small_right x y c w hf hc).mono fun e w' h => by
    obtain ⟨err, rfl, h1, hb⟩ := h
    rcases h1 with ⟨h, _⟩ | ⟨_, rfl⟩
    · exact absurd h hg
    · exact ⟨rfl, hb⟩
/-- What a call returns that makes sums of a row or the error 3. -/
def RowR (ok : Prop) (c : Nat → Int) (u v : Nat → Nat) (err : Int) : Prop := (ok ∧ err = 0 ∧ CIF u v c) ∨ (¬ ok ∧ err = 3 ∧ u = (fun _ => 0) ∧ v = fun _ => 0)
theorem zv_zero {x0 y0 x1 y1 x2 y2 x3 y3 : Nat} (h : zv x0 y0 x1 y1 x2 y2 x3 y3 = zv 0 0 0 0 0 0 0 0) : zv x0 y0 x1 y1 x2 y2 x3 y3 = zf (fun _ => 0) (fun _ => 0) := h
theorem Row_all (c : Nat → Int) (w : World) :
    Calls Try.prog 27 #[iv4 c] w fun e w' => ∃ u v err, e = .returned (.tuple #[zf u v, .int .i64 err]) ∧ RowR (szc c ≤ 1125899906842624) c u v err ∧ Below w.heap.size w w' :=
  (Row_any (c 0) (c 1) (c 2) (c 3) w).mono fun e w' h => by
    obtain ⟨x0, y0, x1, y1, x2, y2, x3, y3, err, rfl, o, k⟩ := h
    rw [sz4] at o
    rcases o with ⟨h, rfl, o⟩ | ⟨h, rfl, o⟩
    · obtain ⟨x, y, rfl, rfl, rfl, rfl, rfl, rfl, rfl, rfl⟩ := fun4 x0 y0 x1 y1 x2 y2 x3 y3
      exact ⟨x, y, _, rfl, .inl ⟨h, rfl, (CI4.f o).ext (cs4 c)⟩, k⟩
    · rw [zv_zero o]
      exact ⟨_, _, _, rfl, .inr ⟨h, rfl, rfl, rfl⟩, k⟩
theorem Of_all (A : Option Addr) (n m : Nat) (l : List Int) (w : World) (hs : Sees w 1 A n m (l.map (Value.int .i64))) :
    Calls Try.prog 15 #[.slice A n m] w fun e w' => ∃ u v err, e = .returned (.tuple #[zf u v, .int .i64 err]) ∧ RowR (sz l n ≤ 1125899906842624) (cs l n) u v err ∧ Below w.heap.size w w' :=
  (Of_any A n m l w hs).mono fun e w' h => by
    obtain ⟨x0, y0, x1, y1, x2, y2, x3, y3, err, rfl, o, k⟩ := h
    rcases o with ⟨h, rfl, o⟩ | ⟨h, rfl, o⟩
    · obtain ⟨x, y, rfl, rfl, rfl, rfl, rfl, rfl, rfl, rfl⟩ := fun4 x0 y0 x1 y1 x2 y2 x3 y3
      exact ⟨x, y, _, rfl, .inl ⟨h, rfl, CI4.f o⟩, k⟩
    · rw [zv_zero o]
      exact ⟨_, _, _, rfl, .inr ⟨h, rfl, rfl, rfl⟩, k⟩

set_option maxRecDepth 20000 in
set_option maxHeartbeats 1600000 in
theorem Classes_bad (x y : Nat → Nat) (s t : Nat → Bool) (hw : ∀ j < 4, Wh (x j) (s j) ∧ Wh (y j) (t j)) (hb : ∃ j, j < 4 ∧ (s j = false ∨ t j = false)) : Cl x y (fun _ => 0) 400 := by
  intro w
  obtain ⟨W, hW⟩ : ∃ W, (w.alloc (.cells #[.complex .f64 (x 0) (y 0), .complex .f64 (x 1) (y 1), .complex .f64 (x 2) (y 2), .complex .f64 (x 3) (y 3)] 26)).alloc (.cells #[.int .i64 0, .int .i64 0, .int .i64 0, .int .i64 0] 40) = W := ⟨_, rfl⟩
  have A1 : Arr 26 W w.heap.size #[.complex .f64 (x 0) (y 0), .complex .f64 (x 1) (y 1), .complex .f64 (x 2) (y 2), .complex .f64 (x 3) (y 3)] := by rw [← hW]; exact (Arr.new _ _ _).al _
  have A2 : Arr 40 W (w.heap.size + 1) #[.int .i64 0, .int .i64 0, .int .i64 0, .int .i64 0] := by rw [← hW]; exact Arr.new1 _ _ _ _
  have hB : Below w.heap.size w W := by rw [← hW]; exact below_al (below_al (Below.refl _ _) _) _
  have HA := Lib.hid (And.intro A1 (And.intro A2 hB))
  have HF := Lib.hid hw
  have HZ := Lib.hid hb
  have HW := Lib.hid hW
  have hst := st_c
  clear hw hb A1 A2 hB hW
  go_enter Try.func23, Try.ntmps23
  go_upto_region 1 with fail
  rw [HW.out]
  obtain ⟨⟨b0, b1, b2, b3⟩, -⟩ := HA.out.1.four
  go_wp2_with fail
  clear b0 b1 b2 b3
  go_loopw [14] (fun iv wr => ∃ k : Nat, Hid (k ≤ 4) ∧ iv = .int .i64 (k : Int) ∧ Hid (∀ j < k, s j = true ∧ t j = true) ∧ Hid (Arr 40 wr (w.heap.size + 1) #[.int .i64 0, .int .i64 0, .int .i64 0, .int .i64 0] ∧ Below w.heap.size w wr)) (fun iv _ => 4 - (intOf iv).toNat)
  case atStart => exact ⟨0, Lib.hid (Nat.zero_le _), rfl, Lib.hid (fun j hj => absurd hj (Nat.not_lt_zero _)), Lib.hid HA.out.2⟩
  case round =>
    clear HA HW
    obtain ⟨k, HK, rfl, HIN, HA⟩ := hrel
    by_cases hlt : k < 4
    · have d0 : decide ((k : Int) < 4) = true := by simp; omega
      have d0' : decide (k < 4) = true := by simp; omega
      have hk3 : (k : Int) ≤ 3 := by omega
      have hix := ix_z x y k hlt
      have HFK := Lib.hid (HF.out k hlt)
      have HLT := Lib.hid hlt
      have s4 := HA.out.1.four
      obtain ⟨⟨s0, s1, s2, s3⟩, q0, q1, q2, q3⟩ := s4
      obtain ⟨sk, hsk⟩ : ∃ b, s k = b := ⟨_, rfl⟩
      obtain ⟨tk, htk⟩ : ∃ b, t k = b := ⟨_, rfl⟩
      rw [hsk, htk] at HFK
      have HST := Lib.hid (And.intro hsk htk)
      clear hsk htk
      cases sk with
      | true => cases tk with
        | true =>
          have HIN2 : Hid (∀ j < k + 1, s j = true ∧ t j = true) := Lib.hid fun j hj => by
            rcases Nat.lt_or_ge j k with h | h
            · exact HIN.out j h
            · obtain rfl : j = k := by omega
              exact HST.out
          clear hlt
          go_wp2_with (first
            | (go_at_call 42; have _q := Q1; refine (HFK.out.2 _).mono ?_; rintro e w2 ⟨rfl, rfl⟩)
            | (go_at_call 42; refine (HFK.out.1 _).mono ?_; rintro e w2 ⟨rfl, rfl⟩; have Q1 := Lib.hid trivial))
          go_roundw
          case rel => exact ⟨k + 1, Lib.hid HLT.out, by go_num, HIN2, HA⟩
          case measure => have := HLT.out; simp [intOf]; omega
        | false =>
          clear hlt
          go_wp2_with (first
            | (go_at_call 42; have _q := Q1; refine (HFK.out.2 _).mono ?_; rintro e w2 ⟨rfl, rfl⟩)
            | (go_at_call 42; refine (HFK.out.1 _).mono ?_; rintro e w2 ⟨rfl, rfl⟩; have Q1 := Lib.hid trivial))
          have P9 := HA.out.1.put4 (.int .i64 0) (.int .i64 0) (.int .i64 0) (.int .i64 0)
          obtain ⟨⟨z0, z1, z2, z3⟩, -⟩ := P9.four
          exact bodyPost_ret (v := .tuple #[iv4 fun _ => 0, .int .i64 400]) (by simp [results, Try.results23, go_sem, z0, z1, z2, z3]) rfl ⟨rfl, below_set4 HA.out.2 (Nat.le_succ _) _ _ _ _⟩
      | false =>
        clear hlt
        go_wp2_with (go_at_call 42; refine (HFK.out.1 _).mono ?_; rintro e w2 ⟨rfl, rfl⟩)
        have P9 := HA.out.1.put4 (.int .i64 0) (.int .i64 0) (.int .i64 0) (.int .i64 0)
        obtain ⟨⟨z0, z1, z2, z3⟩, -⟩ := P9.four
        exact bodyPost_ret (v := .tuple #[iv4 fun _ => 0, .int .i64 400]) (by simp [results, Try.results23, go_sem, z0, z1, z2, z3]) rfl ⟨rfl, below_set4 HA.out.2 (Nat.le_succ _) _ _ _ _⟩
    · obtain rfl : k = 4 := by have := HK.out; omega
      exfalso
      obtain ⟨j, hj, h⟩ := HZ.out
      obtain ⟨h1, h2⟩ := HIN.out j hj
      rcases h with h | h
      · rw [h1] at h; cases h
      · rw [h2] at h; cases h

set_option maxRecDepth 20000 in
set_option maxHeartbeats 800000 in
theorem Sm.bad {x y : Nat → Nat} {c : Nat → Int} (hcl : Cl x y c 400) : Sm x y 400 := by
  intro w
  obtain ⟨W, hW⟩ : ∃ W, w.alloc (.cells #[.complex .f64 (x 0) (y 0), .complex .f64 (x 1) (y 1), .complex .f64 (x 2) (y 2), .complex .f64 (x 3) (y 3)] 26) = W := ⟨_, rfl⟩
  have A1 : Arr 26 W w.heap.size #[.complex .f64 (x 0) (y 0), .complex .f64 (x 1) (y 1), .complex .f64 (x 2) (y 2), .complex .f64 (x 3) (y 3)] := by rw [← hW]; exact Arr.new _ _ _
  have hB : Below w.heap.size w W := by rw [← hW]; exact below_al (Below.refl _ _) _
  have HA := Lib.hid (And.intro A1 hB)
  have HC := Lib.hid hcl
  have HW := Lib.hid hW
  clear hcl A1 hB hW
  go_enter Try.func40, Try.ntmps40
  go_upto_region 1 with fail
  rw [HW.out]
  obtain ⟨⟨b0, b1, b2, b3⟩, -⟩ := HA.out.1.four
  go_upto_region 2 with (go_at_call 23; refine (HC.out _).mono ?_; rintro e w1 ⟨rfl, k1⟩; have B1 := Lib.hid (below_step HA.out.2 (below_al k1 (.cells (ic4 c) 40))); clear k1)
  go_wp2_with fail
  go_ret
  exact ⟨rfl, B1.out⟩

set_option maxRecDepth 20000 in
set_option maxHeartbeats 800000 in
theorem Norms_bad (x y : Nat → Nat) (err : Int) (he : err = 2 ∨ err = 400) (hs : Sm x y err) (w : World) :
    Calls Try.prog 22 #[zf x y] w fun e w' => e = .returned (.tuple #[iv4 fun _ => 0, .int .i64 err]) ∧ Below w.heap.size w w' := by
  obtain ⟨W, hW⟩ : ∃ W, (w.alloc (.cells #[.complex .f64 (x 0) (y 0), .complex .f64 (x 1) (y 1), .complex .f64 (x 2) (y 2), .complex .f64 (x 3) (y 3)] 26)).alloc (.cells #[.int .i64 0, .int .i64 0, .int .i64 0, .int .i64 0] 40) = W := ⟨_, rfl⟩
  have A1 : Arr 26 W w.heap.size #[.complex .f64 (x 0) (y 0), .complex .f64 (x 1) (y 1), .complex .f64 (x 2) (y 2), .complex .f64 (x 3) (y 3)] := by rw [← hW]; exact (Arr.new _ _ _).al _
  have A2 : Arr 40 W (w.heap.size + 1) #[.int .i64 0, .int .i64 0, .int .i64 0, .int .i64 0] := by rw [← hW]; exact Arr.new1 _ _ _ _
  have hB : Below w.heap.size w W := by rw [← hW]; exact below_al (below_al (Below.refl _ _) _) _
  have HA := Lib.hid (And.intro A1 (And.intro A2 hB))
  have HS := Lib.hid hs
  have HW := Lib.hid hW
  have hne : (err == 0) = false := by rcases he with rfl | rfl <;> decide
  have hne2 : decide (err = 0) = false := by rcases he with rfl | rfl <;> decide
  clear hs A1 A2 hB hW he
  go_enter Try.func22, Try.ntmps22
  go_upto_region 1 with fail
  rw [HW.out]
  obtain ⟨⟨b0, b1, b2, b3⟩, -⟩ := HA.out.1.four
  go_wp2_with (go_at_call 40; refine (HS.out _).mono ?_; rintro e w1 ⟨rfl, k1⟩; have B1 := Lib.hid (And.intro (HA.out.2.1.step k1) (below_step HA.out.2.2 k1)); obtain ⟨⟨s0, s1, s2, s3⟩, q0, q1, q2, q3⟩ := B1.out.1.four; clear k1 b0 b1 b2 b3)
  have P9 := B1.out.1.put4 (.int .i64 0) (.int .i64 0) (.int .i64 0) (.int .i64 0)
  obtain ⟨⟨z0, z1, z2, z3⟩, -⟩ := P9.four
  exact bodyPost_ret (v := .tuple #[iv4 fun _ => 0, .int .i64 err]) (by simp [results, Try.results22, go_sem, z0, z1, z2, z3]) rfl ⟨rfl, below_set4 B1.out.2 (Nat.le_succ _) _ _ _ _⟩

set_option maxRecDepth 20000 in
set_option maxHeartbeats 800000 in
theorem Shift_bad (x y : Nat → Nat) (c : Nat → Int) (n : Int) (hcl : Cl x y c 400) (w : World) :
    Calls Try.prog 18 #[zf x y, .int .i64 n] w fun e w' => e = .returned (.tuple #[zf (fun _ => 0) (fun _ => 0), .int .i64 400]) ∧ Below w.heap.size w w' := by
  obtain ⟨W, hW⟩ : ∃ W, ((w.alloc (.cells #[.complex .f64 (x 0) (y 0), .complex .f64 (x 1) (y 1), .complex .f64 (x 2) (y 2), .complex .f64 (x 3) (y 3)] 26)).alloc (.cells #[.int .i64 n] 3)).alloc ZO = W := ⟨_, rfl⟩
  have A1 : Arr 26 W w.heap.size #[.complex .f64 (x 0) (y 0), .complex .f64 (x 1) (y 1), .complex .f64 (x 2) (y 2), .complex .f64 (x 3) (y 3)] := by rw [← hW]; exact ((Arr.new _ _ _).al _).al _
  have A3 : Arr 26 W (w.heap.size + 1 + 1) #[.complex .f64 0 0, .complex .f64 0 0, .complex .f64 0 0, .complex .f64 0 0] := by rw [← hW]; exact Arr.new2 _ _ _ _ _
  have hB : Below w.heap.size w W := by rw [← hW]; exact below_al (below_al (below_al (Below.refl _ _) _) _) _
  have HA := Lib.hid (And.intro A1 (And.intro A3 hB))
  have HC := Lib.hid hcl
  have HW := Lib.hid hW
  have hst := st_c
  clear hcl A1 A3 hB hW
  go_enter Try.func18, Try.ntmps18
  go_upto_region 1 with fail
  rw [HW.out]
  obtain ⟨⟨b0, b1, b2, b3⟩, -⟩ := HA.out.1.four
  go_upto_region 2 with (go_at_call 23; refine (HC.out _).mono ?_; rintro e w1 ⟨rfl, k1⟩; have k2 := below_al k1 (.cells (ic4 c) 40); have B1 := Lib.hid (And.intro (HA.out.2.1.step k2) (below_step HA.out.2.2 k2)); clear k1 k2)
  obtain ⟨⟨s0, s1, s2, s3⟩, q0, q1, q2, q3⟩ := B1.out.1.four
  go_wp2_with fail
  have P9 := B1.out.1.put4 (.complex .f64 0 0) (.complex .f64 0 0) (.complex .f64 0 0) (.complex .f64 0 0)
  obtain ⟨⟨z0, z1, z2, z3⟩, -⟩ := P9.four
  exact bodyPost_ret (v := .tuple #[zf (fun _ => 0) (fun _ => 0), .int .i64 400]) (by simp [results, Try.results18, go_sem, z0, z1, z2, z3]) rfl ⟨rfl, below_set4 B1.out.2 (by omega) _ _ _ _⟩

set_option maxRecDepth 20000 in
set_option maxHeartbeats 800000 in
theorem Join_bad1 (x y x' y' : Nat → Nat) (c : Nat → Int) (n : Int) (hcl : Cl x y c 400) (w : World) :
    Calls Try.prog 16 #[zf x y, .int .i64 n, zf x' y'] w fun e w' => e = .returned (.tuple #[zf (fun _ => 0) (fun _ => 0), .int .i64 400]) ∧ Below w.heap.size w w' := by
  obtain ⟨W, hW⟩ : ∃ W, ((w.alloc (.cells #[.complex .f64 (x 0) (y 0), .complex .f64 (x 1) (y 1), .complex .f64 (x 2) (y 2), .complex .f64 (x 3) (y 3)] 26)).alloc (.cells #[.complex .f64 (x' 0) (y' 0), .complex .f64 (x' 1) (y' 1), .complex .f64 (x' 2) (y' 2), .complex .f64 (x' 3) (y' 3)] 26)).alloc ZO = W := ⟨_, rfl⟩
  have HA : Hid (TB w w.heap.size (w.heap.size + 1) (w.heap.size + 1 + 1) x y x' y' W) := Lib.hid ⟨by rw [← hW]; exact ((Arr.new _ _ _).al _).al _, by rw [← hW]; exact (Arr.new1 _ _ _ _).al _, by rw [← hW]; exact Arr.new2 _ _ _ _ _, by rw [← hW]; exact below_al (below_al (below_al (Below.refl _ _) _) _) _⟩
  have HC := Lib.hid hcl
  have HW := Lib.hid hW
  have hst := st_c
  clear hcl hW
  go_enter Try.func16, Try.ntmps16
  go_upto_region 1 with fail
  rw [HW.out]
  clear HW
  obtain ⟨⟨a0, a1, a2, a3⟩, -⟩ := HA.out.1.four
  go_upto_region 2 with (go_at_call 23; refine (HC.out _).mono ?_; rintro e w1 ⟨rfl, k1⟩; have k2 := below_al k1 (.cells (ic4 c) 40); have B1 := Lib.hid (And.intro (HA.out.2.2.1.step k2) (below_step HA.out.2.2.2 k2)); clear k1 k2)
  obtain ⟨⟨s0, s1, s2, s3⟩, q0, q1, q2, q3⟩ := B1.out.1.four
  go_wp2_with fail
  have P9 := B1.out.1.put4 (.complex .f64 0 0) (.complex .f64 0 0) (.complex .f64 0 0) (.complex .f64 0 0)
  obtain ⟨⟨z0, z1, z2, z3⟩, -⟩ := P9.four
  exact bodyPost_ret (v := .tuple #[zf (fun _ => 0) (fun _ => 0), .int .i64 400]) (by simp [results, Try.results16, go_sem, z0, z1, z2, z3]) rfl ⟨rfl, below_set4 B1.out.2 (by omega) _ _ _ _⟩

set_option maxRecDepth 20000 in
set_option maxHeartbeats 1600000 in
theorem Join_bad2 (x y x' y' : Nat → Nat) (c d : Nat → Int) (n : Int) (err err' : Int) (h1 : Cl x y c 0) (h2 : Cl x' y' d err) (he : (err = 400 ∧ err' = 400) ∨ (err = 0 ∧ err' = 2 ∧ n < 0)) (w : World) :
    Calls Try.prog 16 #[zf x y, .int .i64 n, zf x' y'] w fun e w' => e = .returned (.tuple #[zf (fun _ => 0) (fun _ => 0), .int .i64 err']) ∧ Below w.heap.size w w' := by
  obtain ⟨W, hW⟩ : ∃ W, ((w.alloc (.cells #[.complex .f64 (x 0) (y 0), .complex .f64 (x 1) (y 1), .complex .f64 (x 2) (y 2), .complex .f64 (x 3) (y 3)] 26)).alloc (.cells #[.complex .f64 (x' 0) (y' 0), .complex .f64 (x' 1) (y' 1), .complex .f64 (x' 2) (y' 2), .complex .f64 (x' 3) (y' 3)] 26)).alloc ZO = W := ⟨_, rfl⟩
  have HA : Hid (TB w w.heap.size (w.heap.size + 1) (w.heap.size + 1 + 1) x y x' y' W) := Lib.hid ⟨by rw [← hW]; exact ((Arr.new _ _ _).al _).al _, by rw [← hW]; exact (Arr.new1 _ _ _ _).al _, by rw [← hW]; exact Arr.new2 _ _ _ _ _, by rw [← hW]; exact below_al (below_al (below_al (Below.refl _ _) _) _) _⟩
  have HC := Lib.hid h1
  have HC2 := Lib.hid h2
  have HW := Lib.hid hW
  have hst := st_c
  clear h1 h2 hW
  go_enter Try.func16, Try.ntmps16
  go_upto_region 1 with fail
  rw [HW.out]
  clear HW
  obtain ⟨⟨a0, a1, a2, a3⟩, -⟩ := HA.out.1.four
  go_upto_region 4 with (go_at_call 23; refine (HC.out _).mono ?_; rintro e w1 ⟨rfl, k1⟩; have k2 := below_al k1 (.cells (ic4 c) 40); have B1 := Lib.hid (HA.out.step k2); clear k1 k2)
  generalize w1.alloc (.cells (ic4 c) 40) = V1 at B1 ⊢
  generalize w1.heap.size = g1
  clear a0 a1 a2 a3 HA
  obtain ⟨⟨a0, a1, a2, a3⟩, -⟩ := B1.out.2.1.four
  go_upto_region 5 with (go_at_call 23; refine (HC2.out _).mono ?_; rintro e w2 ⟨rfl, k1⟩; have k2 := below_al k1 (.cells (ic4 d) 40); have B2 := Lib.hid (And.intro (B1.out.2.2.1.step k2) (below_step B1.out.2.2.2 k2)); clear k1 k2)
  obtain ⟨⟨s0, s1, s2, s3⟩, q0, q1, q2, q3⟩ := B2.out.1.four
  rcases he with ⟨rfl, rfl⟩ | ⟨rfl, rfl, hn⟩
  · go_wp2_with fail
    have P9 := B2.out.1.put4 (.complex .f64 0 0) (.complex .f64 0 0) (.complex .f64 0 0) (.complex .f64 0 0)
    obtain ⟨⟨z0, z1, z2, z3⟩, -⟩ := P9.four
    exact bodyPost_ret (v := .tuple #[zf (fun _ => 0) (fun _ => 0), .int .i64 400]) (by simp [results, Try.results16, go_sem, z0, z1, z2, z3]) rfl ⟨rfl, below_set4 B2.out.2 (by omega) _ _ _ _⟩
  · have dn : decide (n < 0) = true := decide_eq_true hn
    clear hn
    go_wp2_with fail
    have P9 := B2.out.1.put4 (.complex .f64 0 0) (.complex .f64 0 0) (.complex .f64 0 0) (.complex .f64 0 0)
    obtain ⟨⟨z0, z1, z2, z3⟩, -⟩ := P9.four
    exact bodyPost_ret (v := .tuple #[zf (fun _ => 0) (fun _ => 0), .int .i64 2]) (by simp [results, Try.results16, go_sem, z0, z1, z2, z3]) rfl ⟨rfl, below_set4 B2.out.2 (by omega) _ _ _ _⟩
end Go.Proofs.Ythidfmkmklnhhaa
