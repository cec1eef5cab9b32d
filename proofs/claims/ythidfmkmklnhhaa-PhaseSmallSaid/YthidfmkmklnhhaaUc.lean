/- Walks: Times with errors, Join of any right sums; parts that are no integers. Printed by gen_uc.py. -/
import Derived.Test.YthidfmkmklnhhaaProg
import Derived.Test.YthidfmkmklnhhaaUb
import Derived.Deep.DeepCutAuto
import Derived.Deep.RegionHeld3
namespace Go.Proofs.Ythidfmkmklnhhaa
open Go.RowKit
set_option linter.unusedVariables false

set_option maxRecDepth 20000 in
set_option maxHeartbeats 1600000 in
theorem Join_any (x y x' y' : Nat → Nat) (c d : Nat → Int) (n : Nat) (w : World) (hn : n ≤ 9223372036854775807) (hf : CIF x y c) (hf' : CIF x' y' d) (hc : szc c ≤ 1125899906842624) (hd : szc d ≤ 1125899906842624) :
    Calls Try.prog 16 #[zf x y, .int .i64 (n : Int), zf x' y'] w fun e w' => ∃ u v err, e = .returned (.tuple #[zf u v, .int .i64 err]) ∧ RowR (szc (addc c d (n % 4)) ≤ 1125899906842624) (addc c d (n % 4)) u v err ∧ Below w.heap.size w w' := by
  obtain ⟨W, hW⟩ : ∃ W, ((w.alloc (.cells #[.complex .f64 (x 0) (y 0), .complex .f64 (x 1) (y 1), .complex .f64 (x 2) (y 2), .complex .f64 (x 3) (y 3)] 26)).alloc (.cells #[.complex .f64 (x' 0) (y' 0), .complex .f64 (x' 1) (y' 1), .complex .f64 (x' 2) (y' 2), .complex .f64 (x' 3) (y' 3)] 26)).alloc ZO = W := ⟨_, rfl⟩
  have HA : Hid (TB w w.heap.size (w.heap.size + 1) (w.heap.size + 1 + 1) x y x' y' W) := Lib.hid ⟨by rw [← hW]; exact ((Arr.new _ _ _).al _).al _, by rw [← hW]; exact (Arr.new1 _ _ _ _).al _, by rw [← hW]; exact Arr.new2 _ _ _ _ _, by rw [← hW]; exact below_al (below_al (below_al (Below.refl _ _) _) _) _⟩
  have HF := Lib.hid (And.intro hf hf')
  have HC := Lib.hid (And.intro hc hd)
  have HW := Lib.hid hW
  have hst := st_c
  obtain ⟨m, hm⟩ : ∃ m, n % 4 = m := ⟨_, rfl⟩
  have hm4 : m < 4 := by omega
  have hnt : (n : Int).tmod 4 = (m : Int) := by rw [Int.tmod_eq_emod_of_nonneg (by omega)]; omega
  have hwm : IntKind.i64.wrap (m : Int) = (m : Int) := IntWalk.i64_in _ (by omega)
  have hn9 : (n : Int) ≤ 9223372036854775807 := by omega
  have hn0 : decide ((n : Int) < 0) = false := by simp
  rw [hm]
  have HM := Lib.hid hm4
  clear hf hc hf' hd hW hn hm hm4
  go_enter Try.func16, Try.ntmps16
  go_upto_region 1 with fail
  rw [HW.out]
  clear HW
  obtain ⟨⟨a0, a1, a2, a3⟩, -⟩ := HA.out.1.four
  go_upto_region 4 with (go_at_call 23; refine (Classes_right x y c _ HF.out.1 HC.out.1).mono ?_; rintro e w1 ⟨rfl, k1⟩; have B1 : Hid (TB w w.heap.size (w.heap.size + 1) (w.heap.size + 1 + 1) x y x' y' (w1.alloc (.cells (ic4 c) 40)) ∧ Arr 40 (w1.alloc (.cells (ic4 c) 40)) w1.heap.size (ic4 c)) := Lib.hid ⟨(HA.out.step k1).step (below_al (Below.refl _ _) _), Arr.new _ _ _⟩; have HG0 : Hid (w.heap.size ≤ w1.heap.size ∧ w.heap.size + 1 + 1 ≠ w1.heap.size) := Lib.hid ⟨(below_step HA.out.2.2.2 k1).size, by have := (HA.out.2.2.1.step k1).lt; omega⟩; clear k1)
  generalize w1.alloc (.cells (ic4 c) 40) = V1 at B1 ⊢
  have HG : Hid (w.heap.size ≤ w1.heap.size ∧ w.heap.size + 1 + 1 ≠ w1.heap.size) := Lib.hid HG0.out
  generalize w1.heap.size = g1 at B1 HG ⊢
  clear HA HG0 a0 a1 a2 a3
  obtain ⟨⟨a0, a1, a2, a3⟩, -⟩ := B1.out.1.2.1.four
  go_upto_region 9 with (go_at_call 23; refine (Classes_right x' y' d _ HF.out.2 HC.out.2).mono ?_; rintro e w2 ⟨rfl, k2⟩; have B2 : Hid ((Arr 26 (w2.alloc (.cells (ic4 d) 40)) (w.heap.size + 1 + 1) #[.complex .f64 0 0, .complex .f64 0 0, .complex .f64 0 0, .complex .f64 0 0] ∧ Below w.heap.size w (w2.alloc (.cells (ic4 d) 40))) ∧ Arr 40 (w2.alloc (.cells (ic4 d) 40)) g1 (ic4 c) ∧ Arr 40 (w2.alloc (.cells (ic4 d) 40)) w2.heap.size (ic4 d) ∧ (w.heap.size ≤ g1 ∧ w.heap.size + 1 + 1 ≠ g1)) := Lib.hid ⟨⟨(B1.out.1.2.2.1.step k2).al _, below_al (below_step B1.out.1.2.2.2 k2) _⟩, (B1.out.2.step k2).al _, Arr.new _ _ _, HG.out⟩; clear k2)
  generalize w2.alloc (.cells (ic4 d) 40) = V2 at B2 ⊢
  generalize w2.heap.size = g2 at B2 ⊢
  clear B1 a0 a1 a2 a3 HG
  obtain ⟨⟨b0, b1, b2, b3⟩, -⟩ := B2.out.2.2.1.four
  have HNE := Lib.hid B2.out.2.2.2
  have B3 : Hid (Arr 26 V2 (w.heap.size + 1 + 1) #[.complex .f64 0 0, .complex .f64 0 0, .complex .f64 0 0, .complex .f64 0 0] ∧ Arr 40 V2 g1 (ic4 (adk c d m 0)) ∧ Below w.heap.size w V2) := Lib.hid ⟨B2.out.1.1, by rw [adk_zero]; exact B2.out.2.1, B2.out.1.2⟩
  clear B2
  go_wp2_with fail
  clear b0 b1 b2 b3
  go_loopw [35] (fun iv wr => ∃ k : Nat, Hid (k ≤ 4) ∧ iv = .int .i64 (k : Int) ∧ Hid (Arr 26 wr (w.heap.size + 1 + 1) #[.complex .f64 0 0, .complex .f64 0 0, .complex .f64 0 0, .complex .f64 0 0] ∧ Arr 40 wr g1 (ic4 (adk c d m k)) ∧ Below w.heap.size w wr)) (fun iv _ => 4 - (intOf iv).toNat)
  case atStart => exact ⟨0, Lib.hid (Nat.zero_le _), rfl, B3⟩
  case round =>
    clear B3
    obtain ⟨k, HK, rfl, HB⟩ := hrel
    by_cases hlt : k < 4
    · have d0 : decide ((k : Int) < 4) = true := by simp; omega
      have d0' : decide (k < 4) = true := by simp; omega
      have hk3 : (k : Int) ≤ 3 := by omega
      have hix := ix_i4 d k hlt
      obtain ⟨q, hq⟩ : ∃ q, (k + m) % 4 = q := ⟨_, rfl⟩
      have hq4 : q < 4 := by omega
      have hm4 := HM.out
      obtain ⟨t, ht⟩ : ∃ t : Nat, k + m = t := ⟨_, rfl⟩
      have hkt : (k : Int) + (m : Int) = (t : Int) := by omega
      have hwt : IntKind.i64.wrap (t : Int) = (t : Int) := IntWalk.i64_in _ (by omega)
      have hwt2 : wrap64 (t : Int) = (t : Int) := IntWalk.wrap64_in _ (by omega)
      have htq : (t : Int).tmod 4 = (q : Int) := by rw [Int.tmod_eq_emod_of_nonneg (by omega)]; omega
      have hwq : IntKind.i64.wrap (q : Int) = (q : Int) := IntWalk.i64_in _ (by omega)
      have hq9 : (q : Int) < 4 := by omega
      have dq : decide ((q : Int) < 4) = true := by simp; omega
      have dq' : decide (q < 4) = true := by simp; omega
      have e0 : wr.cell? ⟨g1, q, none⟩ = some (.int .i64 (c q)) := (HB.out.2.1.c q).trans (adk_get c d m k q hm4 hlt hq)
      have f0 := HB.out.2.1.f q
      have hset := adk_set c d m k q hm4 hlt hq
      have l1 := c_le c q hq4
      have l2 := c_le d k hlt
      have hC := HC.out
      obtain ⟨a, ha⟩ : ∃ a, c q = a := ⟨_, rfl⟩
      obtain ⟨b, hb⟩ : ∃ b, d k = b := ⟨_, rfl⟩
      rw [ha] at e0 hset l1
      rw [hb] at hix hset l2
      have hws : wrap64 (a + b) = a + b := IntWalk.wrap64_in _ (by omega)
      have hws2 : IntKind.i64.wrap (a + b) = a + b := IntWalk.i64_in _ (by omega)
      have HLT := Lib.hid hlt
      have HB2 : Hid (Arr 26 (wr.setCell ⟨g1, q, none⟩ (.int .i64 (a + b))) (w.heap.size + 1 + 1) #[.complex .f64 0 0, .complex .f64 0 0, .complex .f64 0 0, .complex .f64 0 0] ∧ Arr 40 (wr.setCell ⟨g1, q, none⟩ (.int .i64 (a + b))) g1 (ic4 (adk c d m (k + 1))) ∧ Below w.heap.size w (wr.setCell ⟨g1, q, none⟩ (.int .i64 (a + b)))) := Lib.hid ⟨HB.out.1.other (k := q) (.int .i64 (a + b)) HNE.out.2, by rw [← hset]; exact HB.out.2.1.set q (.int .i64 (a + b)), HB.out.2.2.setCell (show w.heap.size ≤ (⟨g1, q, none⟩ : Addr).block from HNE.out.1) _⟩
      clear hlt hq hq4 hm4 ht hset l1 l2 hC ha hb
      go_wp2_with fail
      go_roundw
      case rel => exact ⟨k + 1, Lib.hid HLT.out, by go_num, HB2⟩
      case measure => have := HLT.out; simp [intOf]; omega
    · obtain rfl : k = 4 := by have := HK.out; omega
      clear hlt
      obtain ⟨⟨b0, b1, b2, b3⟩, -⟩ := HB.out.2.1.four
      go_wp2_with (go_at_call 27; refine (Row_all (adk c d m 4) _).mono ?_; rintro e w5 ⟨u, v, err, rfl, f, k5⟩; have FU : Hid (RowR (szc (addc c d m) ≤ 1125899906842624) (addc c d m) u v err) := Lib.hid (by rw [szc_ext (adk_all c d m)] at f; rcases f with ⟨f1, f2, f3⟩ | f1; exact .inl ⟨f1, f2, CIF.ext f3 (adk_all c d m)⟩; exact .inr f1); have B5 := Lib.hid (And.intro (HB.out.1.step k5) (below_step HB.out.2.2 k5)); obtain ⟨⟨s0, s1, s2, s3⟩, q0, q1, q2, q3⟩ := B5.out.1.four; clear f k5)
      have P9 := B5.out.1.put4 (.complex .f64 (u 0) (v 0)) (.complex .f64 (u 1) (v 1)) (.complex .f64 (u 2) (v 2)) (.complex .f64 (u 3) (v 3))
      obtain ⟨⟨z0, z1, z2, z3⟩, -⟩ := P9.four
      exact bodyPost_ret (v := .tuple #[zf u v, .int .i64 err]) (by simp [results, Try.results16, go_sem, z0, z1, z2, z3]) rfl ⟨_, _, _, rfl, FU.out, below_set4 B5.out.2 (by omega) _ _ _ _⟩

set_option maxRecDepth 20000 in
set_option maxHeartbeats 1600000 in
theorem Times_err (x y x' y' : Nat → Nat) (e f r : Int) (h1 : Sm x y e) (h2 : Sm x' y' f) (he : (f = 400 ∧ r = 400) ∨ (f ≠ 400 ∧ e = 0 ∧ r = f ∧ f ≠ 0) ∨ (f ≠ 400 ∧ e ≠ 0 ∧ r = e)) (w : World) :
    Calls Try.prog 20 #[zf x y, zf x' y'] w fun e w' => e = .returned (.tuple #[zf (fun _ => 0) (fun _ => 0), .int .i64 r]) ∧ Below w.heap.size w w' := by
  obtain ⟨W, hW⟩ : ∃ W, ((w.alloc (.cells #[.complex .f64 (x 0) (y 0), .complex .f64 (x 1) (y 1), .complex .f64 (x 2) (y 2), .complex .f64 (x 3) (y 3)] 26)).alloc (.cells #[.complex .f64 (x' 0) (y' 0), .complex .f64 (x' 1) (y' 1), .complex .f64 (x' 2) (y' 2), .complex .f64 (x' 3) (y' 3)] 26)).alloc ZO = W := ⟨_, rfl⟩
  have HA : Hid (TB w w.heap.size (w.heap.size + 1) (w.heap.size + 1 + 1) x y x' y' W) := Lib.hid ⟨by rw [← hW]; exact ((Arr.new _ _ _).al _).al _, by rw [← hW]; exact (Arr.new1 _ _ _ _).al _, by rw [← hW]; exact Arr.new2 _ _ _ _ _, by rw [← hW]; exact below_al (below_al (below_al (Below.refl _ _) _) _) _⟩
  have HC := Lib.hid (And.intro h1 h2)
  have HE := Lib.hid he
  have HW := Lib.hid hW
  have hst := st_c
  clear h1 h2 hW he
  go_enter Try.func20, Try.ntmps20
  go_upto_region 1 with fail
  rw [HW.out]
  clear HW
  have hS0 : (C4 w.heap.size x y W ∧ C4 (w.heap.size + 1) x' y' W) ∧ TB w w.heap.size (w.heap.size + 1) (w.heap.size + 1 + 1) x y x' y' W := ⟨⟨HA.out.1.four.1, HA.out.2.1.four.1⟩, HA.out⟩
  go_region_held3 (fun w' => (C4 w.heap.size x y w' ∧ C4 (w.heap.size + 1) x' y' w') ∧ TB w w.heap.size (w.heap.size + 1) (w.heap.size + 1 + 1) x y x' y' w') (first | exact keepT0 hS0 | exact keepT (by assumption) (by assumption) | assumption) (first
    | (go_at_call_of 40 (Value.agg #[.complex .f64 (x 0) (y 0), .complex .f64 (x 1) (y 1), .complex .f64 (x 2) (y 2), .complex .f64 (x 3) (y 3)]); refine (HC.out.1 _).mono ?_; rintro e w' ⟨rfl, kk⟩)
    | (go_at_call_of 40 (Value.agg #[.complex .f64 (x' 0) (y' 0), .complex .f64 (x' 1) (y' 1), .complex .f64 (x' 2) (y' 2), .complex .f64 (x' 3) (y' 3)]); refine (HC.out.2 _).mono ?_; rintro e w' ⟨rfl, kk⟩))
  rename_i hH
  have B1 := Lib.hid hH.2
  clear hH hS0 HA
  obtain ⟨⟨s0, s1, s2, s3⟩, q0, q1, q2, q3⟩ := B1.out.2.2.1.four
  rcases HE.out with ⟨rfl, rfl⟩ | ⟨hf, rfl, rfl, hf0⟩ | ⟨hf, hf0, rfl⟩
  · go_wp2_with fail
    have P9 := B1.out.2.2.1.put4 (.complex .f64 0 0) (.complex .f64 0 0) (.complex .f64 0 0) (.complex .f64 0 0)
    obtain ⟨⟨z0, z1, z2, z3⟩, -⟩ := P9.four
    exact bodyPost_ret (v := .tuple #[zf (fun _ => 0) (fun _ => 0), .int .i64 400]) (by simp [results, Try.results20, go_sem, z0, z1, z2, z3]) rfl ⟨rfl, below_set4 B1.out.2.2.2 (by omega) _ _ _ _⟩
  · have d1 : (r == 400) = false := by simpa using hf
    have d1' : decide (r = 400) = false := decide_eq_false hf
    have d2 : (r == 0) = false := by simpa using hf0
    have d2' : decide (r = 0) = false := decide_eq_false hf0
    clear hf hf0 HE
    go_wp2_with fail
    have P9 := B1.out.2.2.1.put4 (.complex .f64 0 0) (.complex .f64 0 0) (.complex .f64 0 0) (.complex .f64 0 0)
    obtain ⟨⟨z0, z1, z2, z3⟩, -⟩ := P9.four
    exact bodyPost_ret (v := .tuple #[zf (fun _ => 0) (fun _ => 0), .int .i64 r]) (by simp [results, Try.results20, go_sem, z0, z1, z2, z3]) rfl ⟨rfl, below_set4 B1.out.2.2.2 (by omega) _ _ _ _⟩
  · have d1 : (f == 400) = false := by simpa using hf
    have d1' : decide (f = 400) = false := decide_eq_false hf
    have d2 : (r == 0) = false := by simpa using hf0
    have d2' : decide (r = 0) = false := decide_eq_false hf0
    clear hf hf0 HE
    go_wp2_with fail
    have P9 := B1.out.2.2.1.put4 (.complex .f64 0 0) (.complex .f64 0 0) (.complex .f64 0 0) (.complex .f64 0 0)
    obtain ⟨⟨z0, z1, z2, z3⟩, -⟩ := P9.four
    exact bodyPost_ret (v := .tuple #[zf (fun _ => 0) (fun _ => 0), .int .i64 r]) (by simp [results, Try.results20, go_sem, z0, z1, z2, z3]) rfl ⟨rfl, below_set4 B1.out.2.2.2 (by omega) _ _ _ _⟩

theorem read_mant {x : Nat} {s : Bool} {m : Nat} {e : Int} (h : Ieee.double.read x = .number s m e) : m < 9007199254740992 := by
  have hb : Ieee.double.binade = 4503599627370496 := by decide
  unfold Ieee.Format.read at h
  rw [hb] at h
  simp only [] at h
  by_cases h1 : x % Ieee.double.signWeight < 4503599627370496
  · rw [if_pos h1] at h; cases h; omega
  · rw [if_neg h1] at h
    by_cases h2 : x % Ieee.double.signWeight < Ieee.double.infRung
    · rw [if_pos h2] at h
      cases h
      have := Nat.mod_lt (x % Ieee.double.signWeight) (show 0 < 4503599627370496 by decide)
      omega
    · rw [if_neg h2] at h
      split at h <;> cases h
theorem cut_zero_le (s : Bool) (m d : Nat) : Ieee.Toward.zero.cut s m d ≤ m := by
  unfold Ieee.Toward.cut
  simp only [Bool.toNat_false, Nat.add_zero]
  exact Nat.div_le_self _ _
theorem half_trunc {x : Nat} {a : Int} (h : FQ x 1 a) (ho : a % 2 = 1) : (∃ b m e, Ieee.double.read x = .number b m e) ∧ ∃ n, FI (Ieee.double.write ((Ieee.double.read x).integral .zero)) n := by
  obtain ⟨-, s, m, e, h1, h2⟩ := h
  refine ⟨⟨s, m, e, h1⟩, ?_⟩
  have he : e < 0 := by
    rcases Int.lt_or_le e 0 with h | h
    · exact h
    · exfalso
      have h3 := h2 (e.toNat + 1) 0 (by omega)
      rw [Int.pow_zero, Int.mul_one, Int.pow_succ, ← Int.mul_assoc] at h3
      omega
  rw [h1]
  unfold Ieee.Datum.integral
  simp only []
  rw [show e.toNat = 0 by omega, Nat.shiftLeft_zero]
  have hm := read_mant h1
  have hc := cut_zero_le s m (-e).toNat
  generalize Ieee.Toward.zero.cut s m (-e).toNat = M at hc
  exact ⟨sg s M, w_lt _, write_exact (k := 0) (by decide) (by rw [sg_natAbs]; omega) (.of 0 0 rfl rfl)⟩
theorem FI.half {y : Nat} {n : Int} (h : FI y n) : FQ y 1 (2 * n) := by
  obtain ⟨hb, s, m, e, h1, h2⟩ := h
  refine ⟨hb, s, m, e, h1, fun p q hpq => ?_⟩
  rw [h2 p (q + 1) (by omega), Int.pow_succ, ← Int.mul_assoc, Int.mul_comm, Int.mul_assoc]
set_option maxRecDepth 20000 in
theorem Trunc_is (x y : Nat) (w : World) (h : ∃ b m e, Ieee.double.read x = .number b m e) (hy : Ieee.double.write ((Ieee.double.read x).integral .zero) = y) : Calls Try.prog 60 #[.float .f64 x] w fun e w' => e = .returned (.float .f64 y) ∧ w' = w := by
  obtain ⟨b, m, e, h1⟩ := h
  have hx := arch_trunc (s := 0) h1
  rw [hy] at hx
  clear h1 hy
  go_enter Try.func60, Try.ntmps60
  go_wp2_with fail
  go_ret
  exact ⟨rfl, rfl⟩
set_option maxRecDepth 20000 in
theorem Wh.frac {x y : Nat} (h : ∃ b m e, Ieee.double.read x = .number b m e) (hy : Ieee.double.write ((Ieee.double.read x).integral .zero) = y) (ho : FloatKind.f64.format.order x y = some .lt ∨ FloatKind.f64.format.order x y = some .gt) : Wh x false := by
  intro w
  have HT := Lib.hid (And.intro h hy)
  clear h hy
  rcases ho with ho | ho
  · go_enter Try.func42, Try.ntmps42
    go_wp2_with (go_at_call 60; refine (Trunc_is x y _ HT.out.1 HT.out.2).mono ?_; rintro e w1 ⟨rfl, rfl⟩)
    go_ret
    exact ⟨rfl, rfl⟩
  · go_enter Try.func42, Try.ntmps42
    go_wp2_with (go_at_call 60; refine (Trunc_is x y _ HT.out.1 HT.out.2).mono ?_; rintro e w1 ⟨rfl, rfl⟩)
    go_ret
    exact ⟨rfl, rfl⟩
theorem Wh.half {x : Nat} {a : Int} (h : FQ x 1 a) (ho : a % 2 = 1) : Wh x false := by
  obtain ⟨h1, n, h2⟩ := half_trunc h ho
  have ho2 : FloatKind.f64.format.order x _ = some (compare a (2 * n)) := FQ.order h h2.half
  refine Wh.frac h1 rfl ?_
  rcases (show a < 2 * n ∨ 2 * n < a by omega) with h3 | h3
  · left; rw [ho2, cmp_lt h3]
  · right; rw [ho2, cmp_gt h3]
end Go.Proofs.Ythidfmkmklnhhaa
