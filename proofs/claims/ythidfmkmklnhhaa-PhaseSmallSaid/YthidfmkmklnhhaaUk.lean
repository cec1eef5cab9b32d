/- Walks of the reference: Times. Printed by gen_uk.py. -/
import Derived.Test.YthidfmkmklnhhaaProg
import Derived.Test.YthidfmkmklnhhaaUj
import Derived.Test.YthidfmkmklnhhaaYv
import Derived.Deep.DeepCutAuto
import Derived.BigRegion
namespace Go.Proofs.Ythidfmkmklnhhaa
open Go.RowKit
set_option linter.unusedVariables false

/-- The product's class sums with the first i classes of the one. -/
def rs (a b : Nat → Int) : Nat → Nat → Int
  | 0, _ => 0
  | i + 1, r => rs a b i r + a i * b ((r + 4 - i) % 4)
/-- While class i is multiplied by j of the other's. -/
def pm (a b : Nat → Int) (i j : Nat) : Nat → Int := fun r => rs a b i r + if (r + 4 - i) % 4 < j then a i * b ((r + 4 - i) % 4) else 0
theorem pm_zero (a b : Nat → Int) : ic4 (pm a b 0 0) = ic4 fun _ => 0 := by simp [pm, rs, ic4]
theorem pm_row (a b : Nat → Int) (i : Nat) : ic4 (pm a b i 4) = ic4 (pm a b (i + 1) 0) := by
  have h : ∀ r, pm a b i 4 r = pm a b (i + 1) 0 r := fun r => by
    unfold pm
    rw [if_pos (Nat.mod_lt _ (by decide)), if_neg (Nat.not_lt_zero _)]
    show _ = rs a b i r + a i * b ((r + 4 - i) % 4) + 0
    rw [Int.add_zero]
  unfold ic4
  rw [h, h, h, h]
theorem pm_all (a b : Nat → Int) : ic4 (pm a b 4 0) = ic4 (mulc a b) := by
  have h : ∀ r, pm a b 4 0 r = mulc a b r := fun r => by
    unfold pm mulc
    rw [if_neg (Nat.not_lt_zero _)]
    show (0 + a 0 * b ((r + 4 - 0) % 4) + a 1 * b ((r + 4 - 1) % 4) + a 2 * b ((r + 4 - 2) % 4) + a 3 * b ((r + 4 - 3) % 4)) + 0 = _
    rw [Int.zero_add, Int.add_zero]
  unfold ic4
  rw [h, h, h, h]
theorem pm_at (a b : Nat → Int) (i j q : Nat) (hi : i < 4) (hj : j < 4) (hq : (i + j) % 4 = q) : pm a b i j q = rs a b i q := by
  unfold pm
  rw [if_neg (by omega), Int.add_zero]
theorem pm_set (a b : Nat → Int) (i j q : Nat) (hi : i < 4) (hj : j < 4) (hq : (i + j) % 4 = q) : (ic4 (pm a b i j)).setIfInBounds q (.int .i64 (rs a b i q + a i * b j)) = ic4 (pm a b i (j + 1)) := by
  have h : ∀ r < 4, pm a b i (j + 1) r = if r = q then rs a b i q + a i * b j else pm a b i j r := fun r hr => by
    unfold pm
    by_cases e : r = q
    · subst e
      rw [if_pos rfl, if_pos (by omega), show (r + 4 - i) % 4 = j by omega]
    · rw [if_neg e]
      by_cases h1 : (r + 4 - i) % 4 < j
      · rw [if_pos h1, if_pos (by omega)]
      · rw [if_neg h1, if_neg (by omega)]
  have h0 := h 0 (by decide)
  have h1 := h 1 (by decide)
  have h2 := h 2 (by decide)
  have h3 := h 3 (by decide)
  generalize rs a b i q + a i * b j = v at *
  unfold ic4
  rw [h0, h1, h2, h3]
  rcases (show q = 0 ∨ q = 1 ∨ q = 2 ∨ q = 3 by omega) with rfl | rfl | rfl | rfl <;> rfl
theorem rs_le (a b : Nat → Int) (ha : ∀ r < 4, (a r).natAbs ≤ 16777216) (hb : ∀ r < 4, (b r).natAbs ≤ 16777216) (r : Nat) : ∀ i ≤ 4, (rs a b i r).natAbs ≤ i * 281474976710656 := by
  intro i
  induction i with
  | zero => intro _; exact Nat.zero_le _
  | succ i ih =>
    intro hi
    have h1 := ih (Nat.le_of_succ_le hi)
    have h2 := Nat.le_trans (mul_le (ha i hi) (hb ((r + 4 - i) % 4) (Nat.mod_lt _ (by decide)))) (show 16777216 * 16777216 ≤ 281474976710656 by decide)
    have h3 : (rs a b (i + 1) r).natAbs ≤ _ := Int.natAbs_add_le (rs a b i r) (a i * b ((r + 4 - i) % 4))
    rw [Nat.succ_mul]
    exact Nat.le_trans h3 (Nat.add_le_add h1 h2)
/-- What the reference's 'Times' returns. -/
def TimesR (a b p q : Nat → Int) (err : Int) : Prop := ((szc a ≤ 16777216 ∧ szc b ≤ 16777216) ∧ err = 0 ∧ p = (fun j => dR j (mulc a b)) ∧ q = fun j => dI j (mulc a b)) ∨ (¬ (szc a ≤ 16777216 ∧ szc b ≤ 16777216) ∧ err = 2 ∧ p = (fun _ => 0) ∧ q = fun _ => 0)
theorem ij_facts {i j : Nat} (hi : i < 4) (hj : j < 4) : ∃ q s : Nat, (i + j) % 4 = q ∧ q < 4 ∧ (q : Int) < 4 ∧ (i : Int) + (j : Int) = (s : Int) ∧ wrap64 (s : Int) = (s : Int) ∧ IntKind.i64.wrap (s : Int) = (s : Int) ∧ (s : Int).tmod 4 = (q : Int) ∧ IntKind.i64.wrap (q : Int) = (q : Int) ∧ decide ((q : Int) < 4) = true ∧ decide (q < 4) = true := by
  have h1 : (i + j) % 4 < 4 := Nat.mod_lt _ (by decide)
  exact ⟨(i + j) % 4, i + j, rfl, h1, Int.ofNat_lt.2 h1, by omega, IntWalk.wrap64_in _ (by omega), IntWalk.i64_in _ (by omega), tm_nat (i + j) 4, IntWalk.i64_in _ (by omega), decide_eq_true (Int.ofNat_lt.2 h1), decide_eq_true h1⟩

set_option maxRecDepth 20000 in
set_option maxHeartbeats 1600000 in
theorem refTimes_any (a b : Nat → Int) (w : World) :
    Calls Try.prog 54 #[iv4 a, iv4 b] w fun e w' => ∃ p q err, e = .returned (.tuple #[nv p q, .int .i64 err]) ∧ TimesR a b p q err ∧ Below w.heap.size w w' := by
  obtain ⟨W, hW⟩ : ∃ W, ((w.alloc (.cells (ic4 a) 40)).alloc (.cells (ic4 b) 40)).alloc (.cells (ic8 fun _ => 0) 63) = W := ⟨_, rfl⟩
  have HA : Hid (Arr 40 W w.heap.size (ic4 a) ∧ Arr 40 W (w.heap.size + 1) (ic4 b) ∧ Arr 63 W (w.heap.size + 1 + 1) (ic8 fun _ => 0) ∧ Below w.heap.size w W) := Lib.hid ⟨by rw [← hW]; exact ((Arr.new _ _ _).al _).al _, by rw [← hW]; exact (Arr.new1 _ _ _ _).al _, by rw [← hW]; exact Arr.new2 _ _ _ _ _, by rw [← hW]; exact below_al (below_al (below_al (Below.refl _ _) _) _) _⟩
  have HW := Lib.hid hW
  clear hW
  obtain ⟨da, ha⟩ : ∃ b, decide (szc a ≤ 16777216) = b := ⟨_, rfl⟩
  obtain ⟨db, hb⟩ : ∃ x, decide (szc b ≤ 16777216) = x := ⟨_, rfl⟩
  have HDA := Lib.hid ha
  have HDB := Lib.hid hb
  go_enter Try.func54, Try.ntmps54
  go_upto_region 1 with fail
  rw [HW.out]
  clear HW
  cases da
  case false =>
    have HZ : Hid (¬ (szc a ≤ 16777216 ∧ szc b ≤ 16777216)) := Lib.hid fun h => of_decide_eq_false HDA.out h.1
    clear HDA HDB
    go_wp2_with (go_at_call 57;  refine (refFits_any _ 4 4 16777216 [a 0, a 1, a 2, a 3] _ (HA.out.1).al4 (by decide)).mono ?_; rintro e w1 ⟨rfl, k1⟩; rw [sz4, show (decide ((a 0).natAbs + (a 1).natAbs + (a 2).natAbs + (a 3).natAbs ≤ 16777216)) = false from ha]; have BA := Lib.hid (And.intro (HA.out.1.step k1) (And.intro (HA.out.2.1.step k1) (And.intro (HA.out.2.2.1.step k1) (below_step HA.out.2.2.2 k1))));obtain ⟨⟨s0, s1, s2, s3, s4, s5, s6, s7⟩, q0, q1, q2, q3, q4, q5, q6, q7⟩ := BA.out.2.2.1.eight; clear k1)
    have P9 := BA.out.2.2.1.put8 (.int .i64 0) (.int .i64 0) (.int .i64 0) (.int .i64 0) (.int .i64 0) (.int .i64 0) (.int .i64 0) (.int .i64 0)
    obtain ⟨⟨z0, z1, z2, z3, z4, z5, z6, z7⟩, -⟩ := P9.eight
    exact bodyPost_ret (v := .tuple #[nv (fun _ => 0) (fun _ => 0), .int .i64 2]) (by simp [results, Try.results54, go_sem, z0, z1, z2, z3, z4, z5, z6, z7]) rfl ⟨_, _, _, rfl, .inr ⟨HZ.out, rfl, rfl, rfl⟩, below_set8 BA.out.2.2.2 (by omega) _ _ _ _ _ _ _ _⟩
  case true =>
    cases db
    case false =>
      have HZ : Hid (¬ (szc a ≤ 16777216 ∧ szc b ≤ 16777216)) := Lib.hid fun h => of_decide_eq_false HDB.out h.2
      clear HDA HDB
      go_wp2_with (first | (go_at_call 57; have _q := BA; refine (refFits_any _ 4 4 16777216 [b 0, b 1, b 2, b 3] _ (BA.out.2.1).al4 (by decide)).mono ?_; rintro e w2 ⟨rfl, k1⟩; rw [sz4, show (decide ((b 0).natAbs + (b 1).natAbs + (b 2).natAbs + (b 3).natAbs ≤ 16777216)) = false from hb]; have BB := Lib.hid (And.intro (BA.out.1.step k1) (And.intro (BA.out.2.1.step k1) (And.intro (BA.out.2.2.1.step k1) (below_step BA.out.2.2.2 k1))));obtain ⟨⟨s0, s1, s2, s3, s4, s5, s6, s7⟩, q0, q1, q2, q3, q4, q5, q6, q7⟩ := BB.out.2.2.1.eight; clear k1) | (go_at_call 57;  refine (refFits_any _ 4 4 16777216 [a 0, a 1, a 2, a 3] _ (HA.out.1).al4 (by decide)).mono ?_; rintro e w1 ⟨rfl, k1⟩; rw [sz4, show (decide ((a 0).natAbs + (a 1).natAbs + (a 2).natAbs + (a 3).natAbs ≤ 16777216)) = true from ha]; have BA := Lib.hid (And.intro (HA.out.1.step k1) (And.intro (HA.out.2.1.step k1) (And.intro (HA.out.2.2.1.step k1) (below_step HA.out.2.2.2 k1)))); clear k1))
      have P9 := BB.out.2.2.1.put8 (.int .i64 0) (.int .i64 0) (.int .i64 0) (.int .i64 0) (.int .i64 0) (.int .i64 0) (.int .i64 0) (.int .i64 0)
      obtain ⟨⟨z0, z1, z2, z3, z4, z5, z6, z7⟩, -⟩ := P9.eight
      exact bodyPost_ret (v := .tuple #[nv (fun _ => 0) (fun _ => 0), .int .i64 2]) (by simp [results, Try.results54, go_sem, z0, z1, z2, z3, z4, z5, z6, z7]) rfl ⟨_, _, _, rfl, .inr ⟨HZ.out, rfl, rfl, rfl⟩, below_set8 BB.out.2.2.2 (by omega) _ _ _ _ _ _ _ _⟩
    case true =>
      have HZ : Hid (szc a ≤ 16777216 ∧ szc b ≤ 16777216) := Lib.hid ⟨of_decide_eq_true HDA.out, of_decide_eq_true HDB.out⟩
      clear HDA HDB
      go_upto_region 3 with (first | (go_at_call 57; have _q := BA; refine (refFits_any _ 4 4 16777216 [b 0, b 1, b 2, b 3] _ (BA.out.2.1).al4 (by decide)).mono ?_; rintro e w2 ⟨rfl, k1⟩; rw [sz4, show (decide ((b 0).natAbs + (b 1).natAbs + (b 2).natAbs + (b 3).natAbs ≤ 16777216)) = true from hb]; have BB := Lib.hid (And.intro (BA.out.1.step k1) (And.intro (BA.out.2.1.step k1) (And.intro (BA.out.2.2.1.step k1) (below_step BA.out.2.2.2 k1)))); clear k1) | (go_at_call 57;  refine (refFits_any _ 4 4 16777216 [a 0, a 1, a 2, a 3] _ (HA.out.1).al4 (by decide)).mono ?_; rintro e w1 ⟨rfl, k1⟩; rw [sz4, show (decide ((a 0).natAbs + (a 1).natAbs + (a 2).natAbs + (a 3).natAbs ≤ 16777216)) = true from ha]; have BA := Lib.hid (And.intro (HA.out.1.step k1) (And.intro (HA.out.2.1.step k1) (And.intro (HA.out.2.2.1.step k1) (below_step HA.out.2.2.2 k1)))); clear k1))
      clear ha hb HA BA
      have B3 : Hid ((Arr 40 (w2.alloc (.cells #[.int .i64 0, .int .i64 0, .int .i64 0, .int .i64 0] 40)) w.heap.size (ic4 a) ∧ Arr 40 (w2.alloc (.cells #[.int .i64 0, .int .i64 0, .int .i64 0, .int .i64 0] 40)) (w.heap.size + 1) (ic4 b) ∧ Arr 63 (w2.alloc (.cells #[.int .i64 0, .int .i64 0, .int .i64 0, .int .i64 0] 40)) (w.heap.size + 1 + 1) (ic8 fun _ => 0) ∧ Arr 40 (w2.alloc (.cells #[.int .i64 0, .int .i64 0, .int .i64 0, .int .i64 0] 40)) w2.heap.size (ic4 (pm a b 0 0)) ∧ Below w.heap.size w (w2.alloc (.cells #[.int .i64 0, .int .i64 0, .int .i64 0, .int .i64 0] 40))) ∧ (w.heap.size ≠ w2.heap.size ∧ w.heap.size + 1 ≠ w2.heap.size ∧ w.heap.size + 1 + 1 ≠ w2.heap.size ∧ w.heap.size ≤ w2.heap.size)) := Lib.hid ⟨⟨BB.out.1.al _, BB.out.2.1.al _, BB.out.2.2.1.al _, by rw [pm_zero]; exact Arr.new _ _ _, below_al BB.out.2.2.2 _⟩, Nat.ne_of_lt BB.out.1.lt, Nat.ne_of_lt BB.out.2.1.lt, Nat.ne_of_lt BB.out.2.2.1.lt, BB.out.2.2.2.size⟩
      go_upto_region 4 with fail
      generalize w2.alloc (.cells #[.int .i64 0, .int .i64 0, .int .i64 0, .int .i64 0] 40) = V at B3 ⊢
      generalize w2.heap.size = g2 at B3 ⊢
      have HNE := Lib.hid B3.out.2
      have BR : Hid (Arr 40 (V) w.heap.size (ic4 a) ∧ Arr 40 (V) (w.heap.size + 1) (ic4 b) ∧ Arr 63 (V) (w.heap.size + 1 + 1) (ic8 fun _ => 0) ∧ Arr 40 (V) g2 (ic4 (pm a b 0 0)) ∧ Below w.heap.size w (V)) := Lib.hid B3.out.1
      clear B3 BB
      go_wp2_with fail
      go_loopw [7] (fun iv wr => ∃ i : Nat, Hid (i ≤ 4) ∧ iv = .int .i64 (i : Int) ∧ Hid (Arr 40 (wr) w.heap.size (ic4 a) ∧ Arr 40 (wr) (w.heap.size + 1) (ic4 b) ∧ Arr 63 (wr) (w.heap.size + 1 + 1) (ic8 fun _ => 0) ∧ Arr 40 (wr) g2 (ic4 (pm a b i 0)) ∧ Below w.heap.size w (wr))) (fun iv _ => 4 - (intOf iv).toNat)
      case atStart => exact ⟨0, Lib.hid (Nat.zero_le _), rfl, BR⟩
      case round =>
        clear BR
        obtain ⟨i, HI, rfl, HB⟩ := hrel
        by_cases hlt : i < 4
        · have d0 : decide ((i : Int) < 4) = true := decide_eq_true (Int.ofNat_lt.2 hlt)
          have d0' : decide (i < 4) = true := decide_eq_true hlt
          have hi4 : (i : Int) < 4 := Int.ofNat_lt.2 hlt
          have HLT := Lib.hid hlt
          clear hlt
          go_wp2_with fail
          go_loopw [8] (fun iv wr => ∃ j : Nat, Hid (j ≤ 4) ∧ iv = .int .i64 (j : Int) ∧ Hid (Arr 40 (wr) w.heap.size (ic4 a) ∧ Arr 40 (wr) (w.heap.size + 1) (ic4 b) ∧ Arr 63 (wr) (w.heap.size + 1 + 1) (ic8 fun _ => 0) ∧ Arr 40 (wr) g2 (ic4 (pm a b i j)) ∧ Below w.heap.size w (wr))) (fun iv _ => 4 - (intOf iv).toNat)
          case atStart => exact ⟨0, Lib.hid (Nat.zero_le _), rfl, HB⟩
          case round =>
            clear HB
            obtain ⟨j, HJ, rfl, HB⟩ := hrel
            by_cases hlt : j < 4
            · have d1 : decide ((j : Int) < 4) = true := decide_eq_true (Int.ofNat_lt.2 hlt)
              have d1' : decide (j < 4) = true := decide_eq_true hlt
              have hj4 : (j : Int) < 4 := Int.ofNat_lt.2 hlt
              obtain ⟨q, s, hq, hq4, hq9, hs, hws, hws2, hsq, hwq, dq, dq'⟩ := ij_facts HLT.out hlt
              have e1 := (HB.out.1.c i).trans (cs_get a i HLT.out)
              have e2 := (HB.out.2.1.c j).trans (cs_get b j hlt)
              have e3 := (HB.out.2.2.2.1.c q).trans (cs_get (pm a b i j) q hq4)
              rw [pm_at a b i j q HLT.out hlt hq] at e3
              have f3 := HB.out.2.2.2.1.f q
              have hset := pm_set a b i j q HLT.out hlt hq
              have ra : ∀ r < 4, (a r).natAbs ≤ 16777216 := fun r hr => Nat.le_trans (c_le a r hr) HZ.out.1
              have rb : ∀ r < 4, (b r).natAbs ≤ 16777216 := fun r hr => Nat.le_trans (c_le b r hr) HZ.out.2
              have hle := rs_le a b ra rb q i (Nat.le_of_lt HLT.out)
              have hml := mul_le (ra i HLT.out) (rb j hlt)
              have h4 : i * 281474976710656 ≤ 4 * 281474976710656 := Nat.mul_le_mul_right _ (Nat.le_of_lt HLT.out)
              obtain ⟨R, hR⟩ : ∃ R, rs a b i q = R := ⟨_, rfl⟩
              obtain ⟨X, hX⟩ : ∃ X, a i * b j = X := ⟨_, rfl⟩
              rw [hR] at e3 hset hle
              rw [hX] at hset hml
              have v1 : IntKind.i64.wrap (a i * b j) = X := by rw [hX]; exact IntWalk.i64_in _ (by clear hsq hs; omega)
              have v2 : wrap64 (a i * b j) = X := by rw [hX]; exact IntWalk.wrap64_in _ (by clear hsq hs; omega)
              have v3 : IntKind.i64.wrap (R + X) = R + X := IntWalk.i64_in _ (by clear hsq hs; omega)
              have v4 : wrap64 (R + X) = R + X := IntWalk.wrap64_in _ (by clear hsq hs; omega)
              have HLT2 := Lib.hid hlt
              have HB2 : Hid (Arr 40 (wr.setCell ⟨g2, q, none⟩ (.int .i64 (R + X))) w.heap.size (ic4 a) ∧ Arr 40 (wr.setCell ⟨g2, q, none⟩ (.int .i64 (R + X))) (w.heap.size + 1) (ic4 b) ∧ Arr 63 (wr.setCell ⟨g2, q, none⟩ (.int .i64 (R + X))) (w.heap.size + 1 + 1) (ic8 fun _ => 0) ∧ Arr 40 (wr.setCell ⟨g2, q, none⟩ (.int .i64 (R + X))) g2 (ic4 (pm a b i (j + 1))) ∧ Below w.heap.size w (wr.setCell ⟨g2, q, none⟩ (.int .i64 (R + X)))) := Lib.hid ⟨HB.out.1.other (k := q) (.int .i64 (R + X)) HNE.out.1, HB.out.2.1.other (k := q) (.int .i64 (R + X)) HNE.out.2.1, HB.out.2.2.1.other (k := q) (.int .i64 (R + X)) HNE.out.2.2.1, by rw [← hset]; exact HB.out.2.2.2.1.set q (.int .i64 (R + X)), HB.out.2.2.2.2.setCell (show w.heap.size ≤ (⟨g2, q, none⟩ : Addr).block from HNE.out.2.2.2) _⟩
              clear hlt hset ra rb hle hml h4 hR hX hq hq4
              go_wp2_with fail
              go_region
              go_wp2_with fail
              go_roundw
              case rel => exact ⟨j + 1, Lib.hid HLT2.out, by go_num, Lib.hid ⟨HB2.out.1, HB2.out.2.1, HB2.out.2.2.1, HB2.out.2.2.2.1, HB2.out.2.2.2.2.drew⟩⟩
              case measure => have h1 := HLT2.out; clear hs hws hws2 hsq hwq v1 v2 v3 v4; simp [intOf]; omega
            · obtain rfl : j = 4 := Nat.le_antisymm HJ.out (Nat.not_lt.1 hlt)
              clear hlt
              have hrow := pm_row a b i
              rw [hrow] at HB
              clear hrow
              go_wp2_with fail
              go_roundw
              case rel => exact ⟨i + 1, Lib.hid HLT.out, by go_num, HB⟩
              case measure => have h1 := HLT.out; simp [intOf]; omega
        · obtain rfl : i = 4 := Nat.le_antisymm HI.out (Nat.not_lt.1 hlt)
          clear hlt
          have hall := pm_all a b
          rw [hall] at HB
          obtain ⟨C, hC⟩ : ∃ C, mulc a b = C := ⟨_, rfl⟩
          rw [hC] at HB
          have HC := Lib.hid hC
          have HSC : Hid (szc C ≤ 1125899906842624) := Lib.hid (by rw [← hC]; exact Nat.le_trans (szc_mul a b) (Nat.le_trans (Nat.mul_le_mul HZ.out.1 HZ.out.2) (by decide)))
          clear hall hC
          obtain ⟨⟨a0, a1, a2, a3⟩, -⟩ := HB.out.2.2.2.1.four
          go_wp2_with (go_at_call 32; refine (refRow_any C _).mono ?_; rintro e w5 ⟨p, q, err, rfl, hR, k5⟩; have HR := Lib.hid hR; have B5 := Lib.hid (And.intro (HB.out.2.2.1.step k5) (below_step HB.out.2.2.2.2 k5)); clear hR k5; obtain ⟨⟨s0, s1, s2, s3, s4, s5, s6, s7⟩, q0, q1, q2, q3, q4, q5, q6, q7⟩ := B5.out.1.eight)
          have P9 := B5.out.1.put8 (.int .i64 (p 0)) (.int .i64 (q 0)) (.int .i64 (p 1)) (.int .i64 (q 1)) (.int .i64 (p 2)) (.int .i64 (q 2)) (.int .i64 (p 3)) (.int .i64 (q 3))
          obtain ⟨⟨z0, z1, z2, z3, z4, z5, z6, z7⟩, -⟩ := P9.eight
          exact bodyPost_ret (v := .tuple #[nv p q, .int .i64 err]) (by simp [results, Try.results54, go_sem, z0, z1, z2, z3, z4, z5, z6, z7]) rfl ⟨_, _, _, rfl, .inl ⟨HZ.out, by rcases HR.out with ⟨_, h⟩ | ⟨h, _⟩; rw [HC.out]; exact h; exact absurd HSC.out h⟩, below_set8 B5.out.2 (by omega) _ _ _ _ _ _ _ _⟩
end Go.Proofs.Ythidfmkmklnhhaa
