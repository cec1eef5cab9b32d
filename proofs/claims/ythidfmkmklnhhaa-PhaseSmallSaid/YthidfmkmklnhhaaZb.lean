/- Walks of the reference: Row. -/
import Derived.Test.YthidfmkmklnhhaaProg
import Derived.Test.YthidfmkmklnhhaaZa
import Derived.Test.YthidfmkmklnhhaaYs
import Derived.Deep.DeepCutAuto
import Derived.BigRegion
namespace Go.Proofs.Ythidfmkmklnhhaa
open Go.RowKit
set_option linter.unusedVariables false

/-- The sum j of the first r classes. -/
def dRk (j : Nat) (c : Nat → Int) : Nat → Int
  | 0 => 0
  | r + 1 => dRk j c r + tRe (j * r % 4) (c r) 0
def dIk (j : Nat) (c : Nat → Int) : Nat → Int
  | 0 => 0
  | r + 1 => dIk j c r + tIm (j * r % 4) (c r) 0
theorem dk_all (j : Nat) (c : Nat → Int) : dRk j c 4 = dR j c ∧ dIk j c 4 = dI j c := by
  simp [dRk, dIk, dR, dI]
/-- The parts of the numbers while sum j is made of r classes. -/
def pt8 (c : Nat → Int) (j r : Nat) : Nat → Int := fun i => if i / 2 < j then (if i % 2 = 0 then dR (i / 2) c else dI (i / 2) c) else if i / 2 = j then (if i % 2 = 0 then dRk j c r else dIk j c r) else 0
abbrev ic8 (P : Nat → Int) : Array Value := #[.int .i64 (P 0), .int .i64 (P 1), .int .i64 (P 2), .int .i64 (P 3), .int .i64 (P 4), .int .i64 (P 5), .int .i64 (P 6), .int .i64 (P 7)]
theorem ic8_get (P : Nat → Int) (i : Nat) (hi : i < 8) : (ic8 P)[i]? = some (.int .i64 (P i)) := by
  rcases (show i = 0 ∨ i = 1 ∨ i = 2 ∨ i = 3 ∨ i = 4 ∨ i = 5 ∨ i = 6 ∨ i = 7 by omega) with rfl | rfl | rfl | rfl | rfl | rfl | rfl | rfl <;> rfl
theorem ic8_ext {P Q : Nat → Int} (h : ∀ i < 8, P i = Q i) : ic8 P = ic8 Q := by
  unfold ic8
  rw [h 0 (by decide), h 1 (by decide), h 2 (by decide), h 3 (by decide), h 4 (by decide), h 5 (by decide), h 6 (by decide), h 7 (by decide)]
theorem ic8_set (P : Nat → Int) (i : Nat) (hi : i < 8) (v : Int) : (ic8 P).setIfInBounds i (.int .i64 v) = ic8 fun k => if k = i then v else P k := by
  rcases (show i = 0 ∨ i = 1 ∨ i = 2 ∨ i = 3 ∨ i = 4 ∨ i = 5 ∨ i = 6 ∨ i = 7 by omega) with rfl | rfl | rfl | rfl | rfl | rfl | rfl | rfl <;> rfl
theorem pt8_zero (c : Nat → Int) : ic8 (pt8 c 0 0) = ic8 fun _ => 0 := by
  refine ic8_ext fun i hi => ?_
  unfold pt8
  split
  · omega
  · split <;> simp [dRk, dIk]
theorem pt8_next (c : Nat → Int) (j : Nat) : ic8 (pt8 c j 4) = ic8 (pt8 c (j + 1) 0) := by
  refine ic8_ext fun i hi => ?_
  unfold pt8
  rw [(dk_all j c).1, (dk_all j c).2]
  by_cases h1 : i / 2 < j
  · rw [if_pos h1, if_pos (show i / 2 < j + 1 by omega)]
  · rw [if_neg h1]
    by_cases h2 : i / 2 = j
    · rw [if_pos h2, if_pos (show i / 2 < j + 1 by omega), h2]
    · rw [if_neg h2, if_neg (show ¬ i / 2 < j + 1 by omega)]
      split <;> simp [dRk, dIk]
theorem pt8_all (c : Nat → Int) : ic8 (pt8 c 4 0) = #[.int .i64 (dR 0 c), .int .i64 (dI 0 c), .int .i64 (dR 1 c), .int .i64 (dI 1 c), .int .i64 (dR 2 c), .int .i64 (dI 2 c), .int .i64 (dR 3 c), .int .i64 (dI 3 c)] := rfl
theorem pt8_get0 (c : Nat → Int) (j r : Nat) : pt8 c j r (2 * j) = dRk j c r ∧ pt8 c j r (2 * j + 1) = dIk j c r := by
  unfold pt8
  constructor
  · rw [if_neg (by omega), if_pos (by omega), if_pos (by omega)]
  · rw [if_neg (by omega), if_pos (by omega), if_neg (by omega)]
theorem pt8_step (c : Nat → Int) (j r i : Nat) : pt8 c j (r + 1) i = if i = 2 * j + 1 then dIk j c (r + 1) else if i = 2 * j then dRk j c (r + 1) else pt8 c j r i := by
  unfold pt8
  by_cases h1 : i / 2 < j
  · rw [if_pos h1, if_neg (show ¬ i = 2 * j + 1 by omega), if_neg (show ¬ i = 2 * j by omega), if_pos h1]
  · rw [if_neg h1, if_neg h1]
    by_cases h2 : i / 2 = j
    · rw [if_pos h2, if_pos h2]
      by_cases h3 : i % 2 = 0
      · rw [if_pos h3, if_pos h3, if_neg (show ¬ i = 2 * j + 1 by omega), if_pos (show i = 2 * j by omega)]
      · rw [if_neg h3, if_neg h3, if_pos (show i = 2 * j + 1 by omega)]
    · rw [if_neg h2, if_neg h2, if_neg (show ¬ i = 2 * j + 1 by omega), if_neg (show ¬ i = 2 * j by omega)]
theorem pt8_set (c : Nat → Int) (j r : Nat) (hj : j < 4) : ((ic8 (pt8 c j r)).setIfInBounds (2 * j) (.int .i64 (dRk j c (r + 1)))).setIfInBounds (2 * j + 1) (.int .i64 (dIk j c (r + 1))) = ic8 (pt8 c j (r + 1)) := by
  rw [ic8_set _ _ (by omega), ic8_set _ _ (by omega)]
  exact ic8_ext fun i _ => (pt8_step c j r i).symm
theorem c_le4 (c : Nat → Int) (r : Nat) (hr : r < 4) : (c r).natAbs ≤ szc c := by
  unfold szc
  rcases (show r = 0 ∨ r = 1 ∨ r = 2 ∨ r = 3 by omega) with rfl | rfl | rfl | rfl <;> omega
theorem dk_le1 (j : Nat) (c : Nat → Int) (r : Nat) : (dRk j c (r + 1)).natAbs ≤ (dRk j c r).natAbs + (c r).natAbs ∧ (dIk j c (r + 1)).natAbs ≤ (dIk j c r).natAbs + (c r).natAbs := by
  have h := t_le (j * r % 4) (c r) 0 _ (Nat.le_refl _) (Nat.zero_le _)
  have h1 : (dRk j c (r + 1)).natAbs ≤ _ := Int.natAbs_add_le (dRk j c r) (tRe (j * r % 4) (c r) 0)
  have h2 : (dIk j c (r + 1)).natAbs ≤ _ := Int.natAbs_add_le (dIk j c r) (tIm (j * r % 4) (c r) 0)
  exact ⟨Nat.le_trans h1 (Nat.add_le_add_left h.1 _), Nat.le_trans h2 (Nat.add_le_add_left h.2 _)⟩
theorem dk_le (j : Nat) (c : Nat → Int) : ∀ r ≤ 4, (dRk j c r).natAbs ≤ szc c ∧ (dIk j c r).natAbs ≤ szc c := by
  have h0 := dk_le1 j c 0
  have h1 := dk_le1 j c 1
  have h2 := dk_le1 j c 2
  have h3 := dk_le1 j c 3
  have z : (dRk j c 0).natAbs = 0 ∧ (dIk j c 0).natAbs = 0 := ⟨rfl, rfl⟩
  intro r hr
  have e : ∃ r', r' = r ∧ r' ≤ 4 := ⟨r, rfl, hr⟩
  unfold szc
  simp only [Nat.zero_add, Nat.reduceAdd] at h0 h1 h2 h3
  generalize (c 0).natAbs = n0 at *
  generalize (c 1).natAbs = n1 at *
  generalize (c 2).natAbs = n2 at *
  generalize (c 3).natAbs = n3 at *
  rcases (show r = 0 ∨ r = 1 ∨ r = 2 ∨ r = 3 ∨ r = 4 by omega) with rfl | rfl | rfl | rfl | rfl
  all_goals
    generalize (dRk j c 0).natAbs = a0 at *
    generalize (dRk j c 1).natAbs = a1 at *
    generalize (dRk j c 2).natAbs = a2 at *
    generalize (dRk j c 3).natAbs = a3 at *
    generalize (dRk j c 4).natAbs = a4 at *
    generalize (dIk j c 0).natAbs = b0 at *
    generalize (dIk j c 1).natAbs = b1 at *
    generalize (dIk j c 2).natAbs = b2 at *
    generalize (dIk j c 3).natAbs = b3 at *
    generalize (dIk j c 4).natAbs = b4 at *
    clear hr e
    omega
theorem Arr.eight {W : World} {b : Nat} {a0 a1 a2 a3 a4 a5 a6 a7 : Value} {t : TypeId} (h : Arr t W b #[a0, a1, a2, a3, a4, a5, a6, a7]) : (W.cell? ⟨b, 0, none⟩ = some a0 ∧ W.cell? ⟨b, 1, none⟩ = some a1 ∧ W.cell? ⟨b, 2, none⟩ = some a2 ∧ W.cell? ⟨b, 3, none⟩ = some a3 ∧ W.cell? ⟨b, 4, none⟩ = some a4 ∧ W.cell? ⟨b, 5, none⟩ = some a5 ∧ W.cell? ⟨b, 6, none⟩ = some a6 ∧ W.cell? ⟨b, 7, none⟩ = some a7) ∧ W.frozen? ⟨b, 0, none⟩ = false ∧ W.frozen? ⟨b, 1, none⟩ = false ∧ W.frozen? ⟨b, 2, none⟩ = false ∧ W.frozen? ⟨b, 3, none⟩ = false ∧ W.frozen? ⟨b, 4, none⟩ = false ∧ W.frozen? ⟨b, 5, none⟩ = false ∧ W.frozen? ⟨b, 6, none⟩ = false ∧ W.frozen? ⟨b, 7, none⟩ = false :=
  ⟨⟨h.c 0, h.c 1, h.c 2, h.c 3, h.c 4, h.c 5, h.c 6, h.c 7⟩, h.f 0, h.f 1, h.f 2, h.f 3, h.f 4, h.f 5, h.f 6, h.f 7⟩
theorem Arr.put8 {t : TypeId} {W : World} {b : Nat} {a0 a1 a2 a3 a4 a5 a6 a7 : Value} (h : Arr t W b #[a0, a1, a2, a3, a4, a5, a6, a7]) (b0 b1 b2 b3 b4 b5 b6 b7 : Value) : Arr t ((((((((W.setCell ⟨b, 0, none⟩ b0).setCell ⟨b, 1, none⟩ b1).setCell ⟨b, 2, none⟩ b2).setCell ⟨b, 3, none⟩ b3).setCell ⟨b, 4, none⟩ b4).setCell ⟨b, 5, none⟩ b5).setCell ⟨b, 6, none⟩ b6).setCell ⟨b, 7, none⟩ b7) b #[b0, b1, b2, b3, b4, b5, b6, b7] := by
  have h8 := (((((((h.set 0 b0).set 1 b1).set 2 b2).set 3 b3).set 4 b4).set 5 b5).set 6 b6).set 7 b7
  simp only [List.setIfInBounds_toArray, List.set_cons_succ, List.set_cons_zero] at h8
  exact h8
/-- Four numbers of the reference. -/
abbrev nv (p q : Nat → Int) : Value := .agg #[.int .i64 (p 0), .int .i64 (q 0), .int .i64 (p 1), .int .i64 (q 1), .int .i64 (p 2), .int .i64 (q 2), .int .i64 (p 3), .int .i64 (q 3)]
/-- What the reference's 'Row' returns. -/
def NumR (ok : Prop) (c p q : Nat → Int) (err : Int) : Prop := (ok ∧ err = 0 ∧ p = (fun j => dR j c) ∧ q = fun j => dI j c) ∨ (¬ ok ∧ err = 3 ∧ p = (fun _ => 0) ∧ q = fun _ => 0)
theorem below_set8 {n : Nat} {w W : World} {b : Nat} (h : Below n w W) (hb : n ≤ b) (v0 v1 v2 v3 v4 v5 v6 v7 : Value) : Below n w ((((((((W.setCell ⟨b, 0, none⟩ v0).setCell ⟨b, 1, none⟩ v1).setCell ⟨b, 2, none⟩ v2).setCell ⟨b, 3, none⟩ v3).setCell ⟨b, 4, none⟩ v4).setCell ⟨b, 5, none⟩ v5).setCell ⟨b, 6, none⟩ v6).setCell ⟨b, 7, none⟩ v7) :=
  (((((((h.setCell hb v0).setCell hb v1).setCell hb v2).setCell hb v3).setCell hb v4).setCell hb v5).setCell hb v6).setCell hb v7

set_option maxRecDepth 20000 in
set_option maxHeartbeats 1600000 in
theorem refRow_any (c : Nat → Int) (w : World) :
    Calls Try.prog 32 #[iv4 c] w fun e w' => ∃ p q err, e = .returned (.tuple #[nv p q, .int .i64 err]) ∧ NumR (szc c ≤ 1125899906842624) c p q err ∧ Below w.heap.size w w' := by
  obtain ⟨W, hW⟩ : ∃ W, ((w.alloc (.cells (ic4 c) 40)).alloc (.cells (ic8 fun _ => 0) 63)).alloc (.cells (ic8 fun _ => 0) 63) = W := ⟨_, rfl⟩
  have A1 : Arr 40 W w.heap.size (ic4 c) := by rw [← hW]; exact ((Arr.new _ _ _).al _).al _
  have A2 : Arr 63 W (w.heap.size + 1) (ic8 fun _ => 0) := by rw [← hW]; exact (Arr.new1 _ _ _ _).al _
  have A3 : Arr 63 W (w.heap.size + 1 + 1) (ic8 fun _ => 0) := by rw [← hW]; exact Arr.new2 _ _ _ _ _
  have hB : Below w.heap.size w W := by rw [← hW]; exact below_al (below_al (below_al (Below.refl _ _) _) _) _
  have HS : Hid (Sees W 1 (some ⟨w.heap.size, 0, none⟩) 4 4 ([c 0, c 1, c 2, c 3].map (Value.int .i64))) := Lib.hid (sees_block A1 rfl (Nat.le_refl _) (by decide) ⟨[], rfl⟩ : Sees W 1 _ 4 4 [Value.int .i64 (c 0), Value.int .i64 (c 1), Value.int .i64 (c 2), Value.int .i64 (c 3)])
  have HA := Lib.hid (And.intro A1 (And.intro A2 (And.intro A3 hB)))
  have HW := Lib.hid hW
  clear A1 A2 A3 hB hW
  go_enter Try.func32, Try.ntmps32
  go_upto_region 2 with fail
  rw [HW.out]
  clear HW
  obtain ⟨b, hb⟩ : ∃ b, decide (szc c ≤ 1125899906842624) = b := ⟨_, rfl⟩
  have HBB := Lib.hid hb
  cases b
  case false =>
    have HZ : Hid (¬ szc c ≤ 1125899906842624) := Lib.hid (of_decide_eq_false HBB.out)
    clear HBB
    go_wp2_with (go_at_call 57; refine (refFits_any _ 4 4 1125899906842624 [c 0, c 1, c 2, c 3] _ HS.out (Nat.le_refl _)).mono ?_; rintro e w1 ⟨rfl, k1⟩; rw [sz4, show (decide ((c 0).natAbs + (c 1).natAbs + (c 2).natAbs + (c 3).natAbs ≤ 1125899906842624)) = false from hb]; have B1 := Lib.hid (And.intro (HA.out.1.step k1) (And.intro (HA.out.2.1.step k1) (And.intro (HA.out.2.2.1.step k1) (below_step HA.out.2.2.2 k1)))); obtain ⟨⟨s0, s1, s2, s3, s4, s5, s6, s7⟩, q0, q1, q2, q3, q4, q5, q6, q7⟩ := B1.out.2.1.eight; obtain ⟨⟨t0, t1, t2, t3, t4, t5, t6, t7⟩, r0, r1, r2, r3, r4, r5, r6, r7⟩ := B1.out.2.2.1.eight; clear k1)
    have P9 := B1.out.2.1.put8 (.int .i64 0) (.int .i64 0) (.int .i64 0) (.int .i64 0) (.int .i64 0) (.int .i64 0) (.int .i64 0) (.int .i64 0)
    obtain ⟨⟨z0, z1, z2, z3, z4, z5, z6, z7⟩, -⟩ := P9.eight
    exact bodyPost_ret (v := .tuple #[nv (fun _ => 0) (fun _ => 0), .int .i64 3]) (by simp [results, Try.results32, go_sem, z0, z1, z2, z3, z4, z5, z6, z7]) rfl ⟨_, _, _, rfl, .inr ⟨HZ.out, rfl, rfl, rfl⟩, below_set8 B1.out.2.2.2 (Nat.le_succ _) _ _ _ _ _ _ _ _⟩
  case true =>
    have HZ : Hid (szc c ≤ 1125899906842624) := Lib.hid (of_decide_eq_true HBB.out)
    clear HBB
    go_wp2_with (go_at_call 57; refine (refFits_any _ 4 4 1125899906842624 [c 0, c 1, c 2, c 3] _ HS.out (Nat.le_refl _)).mono ?_; rintro e w1 ⟨rfl, k1⟩; rw [sz4, show (decide ((c 0).natAbs + (c 1).natAbs + (c 2).natAbs + (c 3).natAbs ≤ 1125899906842624)) = true from hb]; have B1 := Lib.hid (And.intro (HA.out.1.step k1) (And.intro (HA.out.2.1.step k1) (And.intro (HA.out.2.2.1.step k1) (below_step HA.out.2.2.2 k1)))); obtain ⟨⟨s0, s1, s2, s3, s4, s5, s6, s7⟩, q0, q1, q2, q3, q4, q5, q6, q7⟩ := B1.out.2.1.eight; obtain ⟨⟨t0, t1, t2, t3, t4, t5, t6, t7⟩, r0, r1, r2, r3, r4, r5, r6, r7⟩ := B1.out.2.2.1.eight; clear k1)
    clear hb s0 s1 s2 s3 s4 s5 s6 s7 q0 q1 q2 q3 q4 q5 q6 q7 t0 t1 t2 t3 t4 t5 t6 t7 r0 r1 r2 r3 r4 r5 r6 r7 HA
    go_loopw [5] (fun iv wr => ∃ j : Nat, Hid (j ≤ 4) ∧ iv = .int .i64 (j : Int) ∧ Hid (Arr 40 wr w.heap.size (ic4 c) ∧ Arr 63 wr (w.heap.size + 1) (ic8 fun _ => 0) ∧ Arr 63 wr (w.heap.size + 1 + 1) (ic8 (pt8 c j 0)) ∧ Below w.heap.size w wr)) (fun iv _ => 4 - (intOf iv).toNat)
    case atStart => exact ⟨0, Lib.hid (Nat.zero_le _), rfl, Lib.hid ⟨B1.out.1, B1.out.2.1, by rw [pt8_zero]; exact B1.out.2.2.1, B1.out.2.2.2⟩⟩
    case round =>
      clear B1
      obtain ⟨j, HJ, rfl, HB⟩ := hrel
      by_cases hlt : j < 4
      · have d0 : decide ((j : Int) < 4) = true := by simp; omega
        have d0' : decide (j < 4) = true := by simp; omega
        have hj9 : (j : Int) < 4 := by omega
        have HLT := Lib.hid hlt
        clear hlt
        go_wp2_with fail
        go_loopw [6] (fun iv wr => ∃ r : Nat, Hid (r ≤ 4) ∧ iv = .int .i64 (r : Int) ∧ Hid (Arr 40 wr w.heap.size (ic4 c) ∧ Arr 63 wr (w.heap.size + 1) (ic8 fun _ => 0) ∧ Arr 63 wr (w.heap.size + 1 + 1) (ic8 (pt8 c j r)) ∧ Below w.heap.size w wr)) (fun iv _ => 4 - (intOf iv).toNat)
        case atStart => exact ⟨0, Lib.hid (Nat.zero_le _), rfl, HB⟩
        case round =>
          clear HB
          obtain ⟨r, HR, rfl, HB⟩ := hrel
          by_cases hlt : r < 4
          · have d1 : decide ((r : Int) < 4) = true := by simp; omega
            have d1' : decide (r < 4) = true := by simp; omega
            have hr9 : (r : Int) < 4 := by omega
            have hm : (j : Int) * (r : Int) = ((j * r : Nat) : Int) := by push_cast; rfl
            have HLT2 := Lib.hid hlt
            obtain ⟨m, hmm⟩ : ∃ m, j * r = m := ⟨_, rfl⟩
            have hm16 : m ≤ 9 := by rw [← hmm]; exact Nat.mul_le_mul (show j ≤ 3 by have := HLT.out; omega) (show r ≤ 3 by omega)
            rw [hmm] at hm
            have hwm : IntKind.i64.wrap (m : Int) = (m : Int) := IntWalk.i64_in _ (by omega)
            obtain ⟨q, hq⟩ : ∃ q, m % 4 = q := ⟨_, rfl⟩
            have hmq : (m : Int).tmod 4 = (q : Int) := by rw [Int.tmod_eq_emod_of_nonneg (by omega)]; omega
            have hwq : IntKind.i64.wrap (q : Int) = (q : Int) := IntWalk.i64_in _ (by omega)
            have e0 : wr.cell? ⟨w.heap.size, r, none⟩ = some (.int .i64 (c r)) := (HB.out.1.c r).trans (cs_get c r hlt)
            have hq4 : q < 4 := by rw [← hq]; exact Nat.mod_lt _ (by decide)
            have hcl := Nat.le_trans (c_le4 c r hlt) (Nat.le_trans HZ.out (by decide : 1125899906842624 ≤ 4611686018427387904))
            have hq9 : (q : Int) < 4 := Int.ofNat_lt.2 hq4
            have HQ : Hid (dRk j c (r + 1) = dRk j c r + tRe q (c r) 0 ∧ dIk j c (r + 1) = dIk j c r + tIm q (c r) 0) := Lib.hid (by rw [← hq, ← hmm]; exact ⟨rfl, rfl⟩)
            have HCL := Lib.hid (And.intro hq4 hcl)
            clear hlt hmm hm16 hq hq4 hcl
            go_upto_region 11 with (go_at_call 58; refine (turned_any (c r) 0 q _ HCL.out.1 HCL.out.2 (by decide)).mono ?_; rintro e w2 ⟨rfl, k2⟩; have B2 : Hid (Arr 40 (w2.alloc (.cells #[.int .i64 (tRe q (c r) 0), .int .i64 (tIm q (c r) 0)] 62)) w.heap.size (ic4 c) ∧ Arr 63 (w2.alloc (.cells #[.int .i64 (tRe q (c r) 0), .int .i64 (tIm q (c r) 0)] 62)) (w.heap.size + 1) (ic8 fun _ => 0) ∧ Arr 63 (w2.alloc (.cells #[.int .i64 (tRe q (c r) 0), .int .i64 (tIm q (c r) 0)] 62)) (w.heap.size + 1 + 1) (ic8 (pt8 c j r)) ∧ Arr 62 (w2.alloc (.cells #[.int .i64 (tRe q (c r) 0), .int .i64 (tIm q (c r) 0)] 62)) w2.heap.size #[.int .i64 (tRe q (c r) 0), .int .i64 (tIm q (c r) 0)] ∧ Below w.heap.size w (w2.alloc (.cells #[.int .i64 (tRe q (c r) 0), .int .i64 (tIm q (c r) 0)] 62)) ∧ w.heap.size + 1 + 1 < w2.heap.size) := Lib.hid ⟨(HB.out.1.step k2).al _, (HB.out.2.1.step k2).al _, (HB.out.2.2.1.step k2).al _, Arr.new _ _ _, below_al (below_step HB.out.2.2.2 k2) _, (HB.out.2.2.1.step k2).lt⟩; clear k2)
            generalize w2.alloc (.cells #[.int .i64 (tRe q (c r) 0), .int .i64 (tIm q (c r) 0)] 62) = V at B2 ⊢
            generalize w2.heap.size = gx at B2 ⊢
            clear HB e0
            obtain ⟨pr, pi⟩ := pt8_get0 c j r
            have e1 : V.cell? ⟨w.heap.size + 1 + 1, 2 * j, none⟩ = some (.int .i64 (dRk j c r)) := (B2.out.2.2.1.c (2 * j)).trans ((ic8_get _ _ (by have := HLT.out; omega)).trans (by rw [pr]))
            have e2 : V.cell? ⟨w.heap.size + 1 + 1, 2 * j + 1, none⟩ = some (.int .i64 (dIk j c r)) := (B2.out.2.2.1.c (2 * j + 1)).trans ((ic8_get _ _ (by have := HLT.out; omega)).trans (by rw [pi]))
            have x1 : V.cell? ⟨gx, 0, none⟩ = some (.int .i64 (tRe q (c r) 0)) := B2.out.2.2.2.1.c 0
            have x2 : V.cell? ⟨gx, 1, none⟩ = some (.int .i64 (tIm q (c r) 0)) := B2.out.2.2.2.1.c 1
            have f1 := B2.out.2.2.1.f (2 * j)
            have f2 := B2.out.2.2.1.f (2 * j + 1)
            rw [show (2 * j = j * 2) by omega] at e1 e2 f1 f2
            have h2j : 2 * j = j * 2 := Nat.mul_comm _ _
            have hle := dk_le j c (r + 1) HLT2.out
            obtain ⟨hd1, hd2⟩ := HQ.out
            have hset := pt8_set c j r HLT.out
            have hz := HZ.out
            obtain ⟨A, hA⟩ : ∃ A, dRk j c (r + 1) = A := ⟨_, rfl⟩
            obtain ⟨B, hBq⟩ : ∃ B, dIk j c (r + 1) = B := ⟨_, rfl⟩
            obtain ⟨a, ha⟩ : ∃ a, dRk j c r = a := ⟨_, rfl⟩
            obtain ⟨b, hb⟩ : ∃ b, dIk j c r = b := ⟨_, rfl⟩
            obtain ⟨tr, htr⟩ : ∃ t, tRe q (c r) 0 = t := ⟨_, rfl⟩
            obtain ⟨ti, hti⟩ : ∃ t, tIm q (c r) 0 = t := ⟨_, rfl⟩
            rw [hA, ha, htr] at hd1
            rw [hBq, hb, hti] at hd2
            rw [hA, hBq] at hle hset
            rw [ha] at e1
            rw [hb] at e2
            rw [htr] at x1
            rw [hti] at x2
            rw [htr, hti] at B2
            rw [h2j] at hset
            have v1 : IntKind.i64.wrap (a + tr) = A := by rw [← hd1]; exact IntWalk.i64_in _ (by clear hmq hm; omega)
            have v2 : wrap64 (a + tr) = A := by rw [← hd1]; exact IntWalk.wrap64_in _ (by clear hmq hm; omega)
            have v3 : IntKind.i64.wrap (b + ti) = B := by rw [← hd2]; exact IntWalk.i64_in _ (by clear hmq hm; omega)
            have v4 : wrap64 (b + ti) = B := by rw [← hd2]; exact IntWalk.wrap64_in _ (by clear hmq hm; omega)
            have HSET := Lib.hid hset
            have HE2 : Hid ((ic8 (pt8 c j r))[j * 2 + 1]? = some (.int .i64 b)) := Lib.hid (by rw [← h2j]; exact (ic8_get _ _ (by have := HLT.out; omega)).trans (by rw [(pt8_get0 c j r).2, hb]))
            have HNE : Hid (w.heap.size ≠ w.heap.size + 1 + 1 ∧ w.heap.size + 1 ≠ w.heap.size + 1 + 1 ∧ w.heap.size ≤ w.heap.size + 1 + 1) := Lib.hid (by omega)
            clear pr pi h2j hle hd1 hd2 hset hz hA hBq ha hb htr hti e2 x2 f2
            go_region
            have B3 : Hid (Arr 40 ((V.setCell ⟨w.heap.size + 1 + 1, j * 2, none⟩ (.int .i64 A)).drew) w.heap.size (ic4 c) ∧ Arr 63 ((V.setCell ⟨w.heap.size + 1 + 1, j * 2, none⟩ (.int .i64 A)).drew) (w.heap.size + 1) (ic8 fun _ => 0) ∧ Arr 63 ((V.setCell ⟨w.heap.size + 1 + 1, j * 2, none⟩ (.int .i64 A)).drew) (w.heap.size + 1 + 1) ((ic8 (pt8 c j r)).setIfInBounds (j * 2) (.int .i64 A)) ∧ Arr 62 ((V.setCell ⟨w.heap.size + 1 + 1, j * 2, none⟩ (.int .i64 A)).drew) gx #[.int .i64 tr, .int .i64 ti] ∧ Below w.heap.size w ((V.setCell ⟨w.heap.size + 1 + 1, j * 2, none⟩ (.int .i64 A)).drew) ∧ w.heap.size + 1 + 1 < gx) := Lib.hid ⟨B2.out.1.other (k := j * 2) (.int .i64 A) HNE.out.1, B2.out.2.1.other (k := j * 2) (.int .i64 A) HNE.out.2.1, B2.out.2.2.1.set (j * 2) (.int .i64 A), B2.out.2.2.2.1.other (k := j * 2) (.int .i64 A) (Nat.ne_of_gt B2.out.2.2.2.2.2), (B2.out.2.2.2.2.1.setCell (show w.heap.size ≤ (⟨w.heap.size + 1 + 1, j * 2, none⟩ : Addr).block from HNE.out.2.2) _).drew, B2.out.2.2.2.2.2⟩
            generalize (V.setCell ⟨w.heap.size + 1 + 1, j * 2, none⟩ (.int .i64 A)).drew = V2 at B3 ⊢
            clear B2 e1 x1 f1
            have e2 : V2.cell? ⟨w.heap.size + 1 + 1, j * 2 + 1, none⟩ = some (.int .i64 b) := (B3.out.2.2.1.c (j * 2 + 1)).trans ((Array.getElem?_setIfInBounds_ne (Nat.ne_of_lt (Nat.lt_succ_self _))).trans HE2.out)
            have x2 : V2.cell? ⟨gx, 1, none⟩ = some (.int .i64 ti) := B3.out.2.2.2.1.c 1
            have f2 := B3.out.2.2.1.f (j * 2 + 1)
            go_wp2_with fail
            go_region
            have B4 : Hid (Arr 40 ((V2.setCell ⟨w.heap.size + 1 + 1, j * 2 + 1, none⟩ (.int .i64 B)).drew) w.heap.size (ic4 c) ∧ Arr 63 ((V2.setCell ⟨w.heap.size + 1 + 1, j * 2 + 1, none⟩ (.int .i64 B)).drew) (w.heap.size + 1) (ic8 fun _ => 0) ∧ Arr 63 ((V2.setCell ⟨w.heap.size + 1 + 1, j * 2 + 1, none⟩ (.int .i64 B)).drew) (w.heap.size + 1 + 1) (ic8 (pt8 c j (r + 1))) ∧ Below w.heap.size w ((V2.setCell ⟨w.heap.size + 1 + 1, j * 2 + 1, none⟩ (.int .i64 B)).drew)) := Lib.hid ⟨B3.out.1.other (k := j * 2 + 1) (.int .i64 B) HNE.out.1, B3.out.2.1.other (k := j * 2 + 1) (.int .i64 B) HNE.out.2.1, by rw [← HSET.out]; exact B3.out.2.2.1.set (j * 2 + 1) (.int .i64 B), (B3.out.2.2.2.2.1.setCell (show w.heap.size ≤ (⟨w.heap.size + 1 + 1, j * 2 + 1, none⟩ : Addr).block from HNE.out.2.2) _).drew⟩
            generalize (V2.setCell ⟨w.heap.size + 1 + 1, j * 2 + 1, none⟩ (.int .i64 B)).drew = V3 at B4 ⊢
            clear B3 e2 x2 f2
            go_wp2_with fail
            go_roundw
            case rel => exact ⟨r + 1, Lib.hid HLT2.out, by go_num, B4⟩
            case measure => have h := HLT2.out; clear hmq hm hwm hwq v1 v2 v3 v4; simp [intOf]; omega
          · obtain rfl : r = 4 := Nat.le_antisymm HR.out (Nat.not_lt.1 hlt)
            clear hlt
            have HB2 := HB
            rw [pt8_next] at HB2
            go_wp2_with fail
            go_roundw
            case rel => exact ⟨j + 1, Lib.hid HLT.out, by go_num, HB2⟩
            case measure => have := HLT.out; simp [intOf]; omega
      · obtain rfl : j = 4 := Nat.le_antisymm HJ.out (Nat.not_lt.1 hlt)
        clear hlt
        have HP4 := Lib.hid (pt8_all c)
        have HB2 := HB
        rw [HP4.out] at HB2
        clear HB
        obtain ⟨⟨s0, s1, s2, s3, s4, s5, s6, s7⟩, q0, q1, q2, q3, q4, q5, q6, q7⟩ := HB2.out.2.1.eight
        obtain ⟨⟨t0, t1, t2, t3, t4, t5, t6, t7⟩, -⟩ := HB2.out.2.2.1.eight
        go_wp2_with fail
        have P9 := HB2.out.2.1.put8 (.int .i64 (dR 0 c)) (.int .i64 (dI 0 c)) (.int .i64 (dR 1 c)) (.int .i64 (dI 1 c)) (.int .i64 (dR 2 c)) (.int .i64 (dI 2 c)) (.int .i64 (dR 3 c)) (.int .i64 (dI 3 c))
        obtain ⟨⟨z0, z1, z2, z3, z4, z5, z6, z7⟩, -⟩ := P9.eight
        exact bodyPost_ret (v := .tuple #[nv (fun j => dR j c) (fun j => dI j c), .int .i64 0]) (by simp [results, Try.results32, go_sem, z0, z1, z2, z3, z4, z5, z6, z7]) rfl ⟨_, _, _, rfl, .inl ⟨HZ.out, rfl, rfl, rfl⟩, below_set8 HB2.out.2.2.2 (Nat.le_succ _) _ _ _ _ _ _ _ _⟩
end Go.Proofs.Ythidfmkmklnhhaa
