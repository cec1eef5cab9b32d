/- Walks: Join, of right sums. -/
import Derived.Test.YthidfmkmklnhhaaProg
import Derived.Test.YthidfmkmklnhhaaYs
import Derived.Deep.DeepCutAuto
namespace Go.Proofs.Ythidfmkmklnhhaa
open Go.RowKit
set_option linter.unusedVariables false

/-- The class sums of a row behind another one. -/
def addc (c d : Nat → Int) (m : Nat) : Nat → Int := fun r => c r + shc d m r
/-- The same, of the first k classes of the second. -/
def adk (c d : Nat → Int) (m k : Nat) : Nat → Int := fun r => c r + if (r + 4 - m) % 4 < k then d ((r + 4 - m) % 4) else 0
theorem adk_zero (c d : Nat → Int) (m : Nat) : ic4 (adk c d m 0) = ic4 c := by simp [adk, ic4]
theorem adk_all (c d : Nat → Int) (m : Nat) : ∀ r < 4, adk c d m 4 r = addc c d m r := fun r hr => by
  unfold adk addc shc
  rw [if_pos (Nat.mod_lt _ (by decide))]
theorem adk_set (c d : Nat → Int) (m k q : Nat) (hm : m < 4) (hk : k < 4) (hq : (k + m) % 4 = q) : (ic4 (adk c d m k)).setIfInBounds q (.int .i64 (c q + d k)) = ic4 (adk c d m (k + 1)) := by
  subst hq
  rcases (show m = 0 ∨ m = 1 ∨ m = 2 ∨ m = 3 by omega) with rfl | rfl | rfl | rfl <;>
  rcases (show k = 0 ∨ k = 1 ∨ k = 2 ∨ k = 3 by omega) with rfl | rfl | rfl | rfl <;> simp [adk, ic4]
theorem adk_get (c d : Nat → Int) (m k q : Nat) (hm : m < 4) (hk : k < 4) (hq : (k + m) % 4 = q) : (ic4 (adk c d m k))[q]? = some (.int .i64 (c q)) := by
  rw [cs_get _ q (by omega)]
  unfold adk
  rw [if_neg (by omega), Int.add_zero]
theorem c_le (c : Nat → Int) (r : Nat) (hr : r < 4) : (c r).natAbs ≤ szc c := by
  unfold szc
  rcases (show r = 0 ∨ r = 1 ∨ r = 2 ∨ r = 3 by omega) with rfl | rfl | rfl | rfl <;> omega
theorem ix_i4 (c : Nat → Int) (j : Nat) (hj : j < 4) (w : World) : (Instr.index 40 (iv4 c) (.int .i64 (j : Int))).run Try.prog w = .ok (.int .i64 (c j)) w := by
  rcases (show j = 0 ∨ j = 1 ∨ j = 2 ∨ j = 3 by omega) with rfl | rfl | rfl | rfl <;> kernel_rfl

set_option maxRecDepth 20000 in
set_option maxHeartbeats 1600000 in
theorem Join_right (x y x' y' : Nat → Nat) (c d : Nat → Int) (n : Nat) (w : World) (hn : n ≤ 1000000) (hf : CIF x y c) (hf' : CIF x' y' d) (hc : szc c ≤ 1125899906842624) (hd : szc d ≤ 1125899906842624) (hs : szc (addc c d (n % 4)) ≤ 1125899906842624) :
    Calls Try.prog 16 #[zf x y, .int .i64 (n : Int), zf x' y'] w fun e w' => ∃ u v, e = .returned (.tuple #[zf u v, .int .i64 0]) ∧ CIF u v (addc c d (n % 4)) ∧ Below w.heap.size w w' := by
  obtain ⟨W, hW⟩ : ∃ W, ((w.alloc (.cells #[.complex .f64 (x 0) (y 0), .complex .f64 (x 1) (y 1), .complex .f64 (x 2) (y 2), .complex .f64 (x 3) (y 3)] 26)).alloc (.cells #[.complex .f64 (x' 0) (y' 0), .complex .f64 (x' 1) (y' 1), .complex .f64 (x' 2) (y' 2), .complex .f64 (x' 3) (y' 3)] 26)).alloc ZO = W := ⟨_, rfl⟩
  have HA : Hid (TB w w.heap.size (w.heap.size + 1) (w.heap.size + 1 + 1) x y x' y' W) := Lib.hid ⟨by rw [← hW]; exact ((Arr.new _ _ _).al _).al _, by rw [← hW]; exact (Arr.new1 _ _ _ _).al _, by rw [← hW]; exact Arr.new2 _ _ _ _ _, by rw [← hW]; exact below_al (below_al (below_al (Below.refl _ _) _) _) _⟩
  have HF := Lib.hid (And.intro hf hf')
  have HC := Lib.hid (And.intro hc (And.intro hd hs))
  have HW := Lib.hid hW
  have hst := st_c
  obtain ⟨m, hm⟩ : ∃ m, n % 4 = m := ⟨_, rfl⟩
  have hm4 : m < 4 := by omega
  have hnt : (n : Int).tmod 4 = (m : Int) := by rw [Int.tmod_eq_emod_of_nonneg (by omega)]; omega
  have hwm : IntKind.i64.wrap (m : Int) = (m : Int) := IntWalk.i64_in _ (by omega)
  have hn9 : (n : Int) ≤ 1000000 := by omega
  have hn0 : decide ((n : Int) < 0) = false := by simp
  rw [hm] at HC ⊢
  have HM := Lib.hid hm4
  clear hf hc hf' hd hs hW hn hm hm4
  go_enter Try.func16, Try.ntmps16
  go_upto_region 1 with fail
  rw [HW.out]
  clear HW
  obtain ⟨⟨a0, a1, a2, a3⟩, -⟩ := HA.out.1.four
  go_upto_region 4 with (go_at_call 23; refine (Classes_right x y c _ HF.out.1 HC.out.1).mono ?_; rintro e w1 ⟨rfl, k1⟩; have B1 : Hid (TB w w.heap.size (w.heap.size + 1) (w.heap.size + 1 + 1) x y x' y' (w1.alloc (.cells (ic4 c) 40)) ∧ Arr 40 (w1.alloc (.cells (ic4 c) 40)) w1.heap.size (ic4 c)) := Lib.hid ⟨(HA.out.step k1).step (below_al (Below.refl _ _) _), Arr.new _ _ _⟩; have HG0 : Hid (w.heap.size ≤ w1.heap.size ∧ w.heap.size + 1 + 1 ≠ w1.heap.size) := Lib.hid ⟨(below_step HA.out.2.2.2 k1).size, by have := (HA.out.2.2.1.step k1).lt; omega⟩; clear k1)
  generalize w1.alloc (.cells (ic4 c) 40) = V1 at B1 ⊢
  have HG : Hid (w.heap.size ≤ w1.heap.size ∧ w.heap.size + 1 + 1 ≠ w1.heap.size) := Lib.hid HG0.out
  generalize w1.heap.size = g1 at B1 HG ⊢
  clear HA HG0 a0 a1 a2 a3
  obtain ⟨⟨a0, a1, a2, a3⟩, -⟩ := B1.out.1.2.1.four
  go_upto_region 9 with (go_at_call 23; refine (Classes_right x' y' d _ HF.out.2 HC.out.2.1).mono ?_; rintro e w2 ⟨rfl, k2⟩; have B2 : Hid ((Arr 26 (w2.alloc (.cells (ic4 d) 40)) (w.heap.size + 1 + 1) #[.complex .f64 0 0, .complex .f64 0 0, .complex .f64 0 0, .complex .f64 0 0] ∧ Below w.heap.size w (w2.alloc (.cells (ic4 d) 40))) ∧ Arr 40 (w2.alloc (.cells (ic4 d) 40)) g1 (ic4 c) ∧ Arr 40 (w2.alloc (.cells (ic4 d) 40)) w2.heap.size (ic4 d) ∧ (w.heap.size ≤ g1 ∧ w.heap.size + 1 + 1 ≠ g1)) := Lib.hid ⟨⟨(B1.out.1.2.2.1.step k2).al _, below_al (below_step B1.out.1.2.2.2 k2) _⟩, (B1.out.2.step k2).al _, Arr.new _ _ _, HG.out⟩; clear k2)
  generalize w2.alloc (.cells (ic4 d) 40) = V2 at B2 ⊢
  generalize w2.heap.size = g2 at B2 ⊢
  clear B1 a0 a1 a2 a3 HG
  obtain ⟨⟨b0, b1, b2, b3⟩, -⟩ := B2.out.2.2.1.four
  have HNE := Lib.hid B2.out.2.2.2
  have B3 : Hid (Arr 26 V2 (w.heap.size + 1 + 1) #[.complex .f64 0 0, .complex .f64 0 0, .complex .f64 0 0, .complex .f64 0 0] ∧ Arr 40 V2 g1 (ic4 (adk c d m 0)) ∧ Below w.heap.size w V2) := Lib.hid ⟨B2.out.1.1, by rw [adk_zero]; exact B2.out.2.1, B2.out.1.2⟩
  clear B2
  go_wp2_with fail
  clear b0 b1 b2 b3
  go_loopw [35] (fun iv wr => ∃ k : Nat, Hid (k ≤ 4) ∧ iv = .int .i64 (k : Int) ∧ Hid (Arr 26 wr (w.heap.size + 1 + 1) #[.complex .f64 0 0, .complex .f64 0 0, .complex .f64 0 0, .complex .f64 0 0] ∧ Arr 40 wr g1 (ic4 (adk c d m k)) ∧ Below w.heap.size w wr)) (fun iv _ => 4 - (intOf iv).toNat)
  case atStart => exact ⟨0, Lib.hid (Nat.zero_le _), rfl, B3⟩
  case round =>
    clear B3
    obtain ⟨k, HK, rfl, HB⟩ := hrel
    by_cases hlt : k < 4
    · have d0 : decide ((k : Int) < 4) = true := by simp; omega
      have d0' : decide (k < 4) = true := by simp; omega
      have hk3 : (k : Int) ≤ 3 := by omega
      have hix := ix_i4 d k hlt
      obtain ⟨q, hq⟩ : ∃ q, (k + m) % 4 = q := ⟨_, rfl⟩
      have hq4 : q < 4 := by omega
      have hm4 := HM.out
      obtain ⟨t, ht⟩ : ∃ t : Nat, k + m = t := ⟨_, rfl⟩
      have hkt : (k : Int) + (m : Int) = (t : Int) := by omega
      have hwt : IntKind.i64.wrap (t : Int) = (t : Int) := IntWalk.i64_in _ (by omega)
      have hwt2 : wrap64 (t : Int) = (t : Int) := IntWalk.wrap64_in _ (by omega)
      have htq : (t : Int).tmod 4 = (q : Int) := by rw [Int.tmod_eq_emod_of_nonneg (by omega)]; omega
      have hwq : IntKind.i64.wrap (q : Int) = (q : Int) := IntWalk.i64_in _ (by omega)
      have hq9 : (q : Int) < 4 := by omega
      have dq : decide ((q : Int) < 4) = true := by simp; omega
      have dq' : decide (q < 4) = true := by simp; omega
      have e0 : wr.cell? ⟨g1, q, none⟩ = some (.int .i64 (c q)) := (HB.out.2.1.c q).trans (adk_get c d m k q hm4 hlt hq)
      have f0 := HB.out.2.1.f q
      have hset := adk_set c d m k q hm4 hlt hq
      have l1 := c_le c q hq4
      have l2 := c_le d k hlt
      have hC := HC.out
      obtain ⟨a, ha⟩ : ∃ a, c q = a := ⟨_, rfl⟩
      obtain ⟨b, hb⟩ : ∃ b, d k = b := ⟨_, rfl⟩
      rw [ha] at e0 hset l1
      rw [hb] at hix hset l2
      have hws : wrap64 (a + b) = a + b := IntWalk.wrap64_in _ (by omega)
      have hws2 : IntKind.i64.wrap (a + b) = a + b := IntWalk.i64_in _ (by omega)
      have HLT := Lib.hid hlt
      have HB2 : Hid (Arr 26 (wr.setCell ⟨g1, q, none⟩ (.int .i64 (a + b))) (w.heap.size + 1 + 1) #[.complex .f64 0 0, .complex .f64 0 0, .complex .f64 0 0, .complex .f64 0 0] ∧ Arr 40 (wr.setCell ⟨g1, q, none⟩ (.int .i64 (a + b))) g1 (ic4 (adk c d m (k + 1))) ∧ Below w.heap.size w (wr.setCell ⟨g1, q, none⟩ (.int .i64 (a + b)))) := Lib.hid ⟨HB.out.1.other (k := q) (.int .i64 (a + b)) HNE.out.2, by rw [← hset]; exact HB.out.2.1.set q (.int .i64 (a + b)), HB.out.2.2.setCell (show w.heap.size ≤ (⟨g1, q, none⟩ : Addr).block from HNE.out.1) _⟩
      clear hlt hq hq4 hm4 ht hset l1 l2 hC ha hb
      go_wp2_with fail
      go_roundw
      case rel => exact ⟨k + 1, Lib.hid HLT.out, by go_num, HB2⟩
      case measure => have := HLT.out; simp [intOf]; omega
    · obtain rfl : k = 4 := by have := HK.out; omega
      clear hlt
      obtain ⟨⟨b0, b1, b2, b3⟩, -⟩ := HB.out.2.1.four
      go_wp2_with (go_at_call 27; refine (Row_right (adk c d m 4) _ (by rw [szc_ext (adk_all c d m)]; exact HC.out.2.2)).mono ?_; rintro e w5 ⟨u, v, rfl, f, k5⟩; have FU := Lib.hid (CIF.ext f (adk_all c d m)); have B5 := Lib.hid (And.intro (HB.out.1.step k5) (below_step HB.out.2.2 k5)); obtain ⟨⟨s0, s1, s2, s3⟩, q0, q1, q2, q3⟩ := B5.out.1.four; clear f k5)
      have P9 := B5.out.1.put4 (.complex .f64 (u 0) (v 0)) (.complex .f64 (u 1) (v 1)) (.complex .f64 (u 2) (v 2)) (.complex .f64 (u 3) (v 3))
      obtain ⟨⟨z0, z1, z2, z3⟩, -⟩ := P9.four
      exact bodyPost_ret (v := .tuple #[zf u v, .int .i64 0]) (by simp [results, Try.results16, go_sem, z0, z1, z2, z3]) rfl ⟨_, _, rfl, FU.out, below_set4 B5.out.2 (by omega) _ _ _ _⟩
end Go.Proofs.Ythidfmkmklnhhaa
