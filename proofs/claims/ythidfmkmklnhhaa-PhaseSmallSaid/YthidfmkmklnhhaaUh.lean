/- Walks: the reference's Classes. Printed by gen_uh.py. -/
import Derived.Test.YthidfmkmklnhhaaProg
import Derived.Test.YthidfmkmklnhhaaUg
import Derived.Deep.DeepCutAuto
import Derived.Deep.QuietTactic
import Derived.BigRegion
namespace Go.Proofs.Ythidfmkmklnhhaa
open Go.RowKit Go.Op
set_option linter.unusedVariables false

theorem Arr.new3 (t : TypeId) (W : World) (o o2 o3 : Obj) (cs : Array Value) : Arr t ((((W.alloc o).alloc o2).alloc o3).alloc (.cells cs t)) (W.heap.size + 1 + 1 + 1) cs := by
  have h := Arr.new2 t (W.alloc o) o2 o3 cs
  simpa using h
/-- The reference's 'Classes' tells c and err of four numbers, by their parts. -/
def RCl (x y : Nat → Nat) (c : Nat → Int) (err : Int) : Prop := ∀ w, Calls Try.prog 49 #[fl4 x, fl4 y] w fun e w' => e = .returned (.tuple #[iv4 c, .int .i64 err]) ∧ Below w.heap.size w w'

set_option maxRecDepth 20000 in
set_option maxHeartbeats 1600000 in
theorem refClasses_bad (x y : Nat → Nat) (p q : Nat → Int) (s t : Nat → Bool) (hw : ∀ j < 4, Pa (x j) (p j) (s j) ∧ Pa (y j) (q j) (t j)) (hb : ∃ j, j < 4 ∧ (s j = false ∨ t j = false)) : RCl x y (fun _ => 0) 400 := by
  intro w
  have HF := Lib.hid hw
  have HZ := Lib.hid hb
  clear hw hb
  obtain ⟨W, hW⟩ : ∃ W, (((w.alloc (.cells (fc4 x) 79)).alloc (.cells (fc4 y) 79)).alloc (.cells #[.int .i64 0, .int .i64 0, .int .i64 0, .int .i64 0] 40)).alloc (.cells (ic8 fun _ => 0) 63) = W := ⟨_, rfl⟩
  have HA : Hid (Arr 79 (W) w.heap.size (fc4 x) ∧ Arr 79 (W) (w.heap.size + 1) (fc4 y) ∧ Arr 40 (W) (w.heap.size + 1 + 1) #[.int .i64 0, .int .i64 0, .int .i64 0, .int .i64 0] ∧ Arr 63 (W) (w.heap.size + 1 + 1 + 1) (ic8 (cut8 p q 0)) ∧ Below w.heap.size w (W)) := Lib.hid ⟨by rw [← hW]; exact (((Arr.new _ _ _).al _).al _).al _, by rw [← hW]; exact ((Arr.new1 _ _ _ _).al _).al _, by rw [← hW]; exact (Arr.new2 _ _ _ _ _).al _, by rw [← hW]; exact Arr.new3 _ _ _ _ _ _, by rw [← hW]; exact below_al (below_al (below_al (below_al (Below.refl _ _) _) _) _) _⟩
  have HW := Lib.hid hW
  clear hW
  go_enter Try.func49, Try.ntmps49
  go_upto_region 2 with fail
  rw [HW.out]
  clear HW
  go_wp2_with fail
  go_loopw [7] (fun iv wr => ∃ k : Nat, Hid (k ≤ 4) ∧ iv = .int .i64 (k : Int) ∧ Hid (∀ j < k, s j = true ∧ t j = true) ∧ Hid (Arr 79 (wr) w.heap.size (fc4 x) ∧ Arr 79 (wr) (w.heap.size + 1) (fc4 y) ∧ Arr 40 (wr) (w.heap.size + 1 + 1) #[.int .i64 0, .int .i64 0, .int .i64 0, .int .i64 0] ∧ Arr 63 (wr) (w.heap.size + 1 + 1 + 1) (ic8 (cut8 p q k)) ∧ Below w.heap.size w (wr))) (fun iv _ => 4 - (intOf iv).toNat)
  case atStart => exact ⟨0, Lib.hid (Nat.zero_le _), rfl, Lib.hid (fun j hj => absurd hj (Nat.not_lt_zero _)), HA⟩
  case round =>
    clear HA
    obtain ⟨k, HK, rfl, HIN, HB⟩ := hrel
    by_cases hlt : k < 4
    · have d0 : decide ((k : Int) < 4) = true := decide_eq_true (Int.ofNat_lt.2 hlt)
      have d0' : decide (k < 4) = true := decide_eq_true hlt
      have hk4 : (k : Int) < 4 := Int.ofNat_lt.2 hlt
      have e1 : wr.cell? ⟨w.heap.size, k, none⟩ = some (.float .f64 (x k)) := (HB.out.1.c k).trans (fc4_get x k hlt)
      have e2 : wr.cell? ⟨w.heap.size + 1, k, none⟩ = some (.float .f64 (y k)) := (HB.out.2.1.c k).trans (fc4_get y k hlt)
      have PX := Lib.hid (HF.out k hlt).1
      have PY := Lib.hid (HF.out k hlt).2
      have HLT := Lib.hid hlt
      obtain ⟨⟨s0, s1, s2, s3⟩, q0, q1, q2, q3⟩ := HB.out.2.2.1.four
      have c1 := (HB.out.2.2.2.1.c (k * 2)).trans (cut8_get p q k hlt).1
      have c2 := (HB.out.2.2.2.1.c (k * 2 + 1)).trans (cut8_get p q k hlt).2
      have f1 := HB.out.2.2.2.1.f (k * 2)
      have f2 := HB.out.2.2.2.1.f (k * 2 + 1)
      have hset := cut8_set p q k hlt
      obtain ⟨sk, hsk⟩ : ∃ b, s k = b := ⟨_, rfl⟩
      obtain ⟨tk, htk⟩ : ∃ b, t k = b := ⟨_, rfl⟩
      rw [hsk] at PX
      rw [htk] at PY
      have HST := Lib.hid (And.intro hsk htk)
      clear hsk htk
      cases sk
      case true =>
        cases tk
        case true =>
          have HIN2 : Hid (∀ j < k + 1, s j = true ∧ t j = true) := Lib.hid fun j hj => by
            rcases Nat.lt_or_ge j k with h | h
            · exact HIN.out j h
            · obtain rfl : j = k := by omega
              exact HST.out
          have HB2 : Hid (Arr 79 ((wr.setCell ⟨w.heap.size + 1 + 1 + 1, k * 2, none⟩ (.int .i64 (p k))).setCell ⟨w.heap.size + 1 + 1 + 1, k * 2 + 1, none⟩ (.int .i64 (q k))) w.heap.size (fc4 x) ∧ Arr 79 ((wr.setCell ⟨w.heap.size + 1 + 1 + 1, k * 2, none⟩ (.int .i64 (p k))).setCell ⟨w.heap.size + 1 + 1 + 1, k * 2 + 1, none⟩ (.int .i64 (q k))) (w.heap.size + 1) (fc4 y) ∧ Arr 40 ((wr.setCell ⟨w.heap.size + 1 + 1 + 1, k * 2, none⟩ (.int .i64 (p k))).setCell ⟨w.heap.size + 1 + 1 + 1, k * 2 + 1, none⟩ (.int .i64 (q k))) (w.heap.size + 1 + 1) #[.int .i64 0, .int .i64 0, .int .i64 0, .int .i64 0] ∧ Arr 63 ((wr.setCell ⟨w.heap.size + 1 + 1 + 1, k * 2, none⟩ (.int .i64 (p k))).setCell ⟨w.heap.size + 1 + 1 + 1, k * 2 + 1, none⟩ (.int .i64 (q k))) (w.heap.size + 1 + 1 + 1) (ic8 (cut8 p q (k + 1))) ∧ Below w.heap.size w ((wr.setCell ⟨w.heap.size + 1 + 1 + 1, k * 2, none⟩ (.int .i64 (p k))).setCell ⟨w.heap.size + 1 + 1 + 1, k * 2 + 1, none⟩ (.int .i64 (q k)))) := Lib.hid ⟨(HB.out.1.other (k := k * 2) (.int .i64 (p k)) (by omega)).other (k := k * 2 + 1) (.int .i64 (q k)) (by omega), (HB.out.2.1.other (k := k * 2) (.int .i64 (p k)) (by omega)).other (k := k * 2 + 1) (.int .i64 (q k)) (by omega), (HB.out.2.2.1.other (k := k * 2) (.int .i64 (p k)) (by omega)).other (k := k * 2 + 1) (.int .i64 (q k)) (by omega), by rw [← hset]; exact (HB.out.2.2.2.1.set (k * 2) (.int .i64 (p k))).set (k * 2 + 1) (.int .i64 (q k)), (HB.out.2.2.2.2.setCell (show w.heap.size ≤ (⟨w.heap.size + 1 + 1 + 1, k * 2, none⟩ : Addr).block by show w.heap.size ≤ w.heap.size + 1 + 1 + 1; omega) _).setCell (show w.heap.size ≤ (⟨w.heap.size + 1 + 1 + 1, k * 2 + 1, none⟩ : Addr).block by show w.heap.size ≤ w.heap.size + 1 + 1 + 1; omega) _⟩
          clear hlt hset
          go_wp2_with (first
            | (go_at_call 62; have _q := Q1; refine (PY.out _).mono ?_; rintro e w2 ⟨rfl, rfl⟩)
            | (go_at_call 62; refine (PX.out _).mono ?_; rintro e w2 ⟨rfl, rfl⟩; have Q1 := Lib.hid trivial))
          go_roundw
          case rel => exact ⟨k + 1, Lib.hid HLT.out, by go_num, HIN2, HB2⟩
          case measure => have := HLT.out; simp [intOf]; omega
        case false =>
          clear hlt hset
          go_wp2_with (first
            | (go_at_call 62; have _q := Q1; refine (PY.out _).mono ?_; rintro e w2 ⟨rfl, rfl⟩)
            | (go_at_call 62; refine (PX.out _).mono ?_; rintro e w2 ⟨rfl, rfl⟩; have Q1 := Lib.hid trivial))
          have P9 := HB.out.2.2.1.put4 (.int .i64 0) (.int .i64 0) (.int .i64 0) (.int .i64 0)
          obtain ⟨⟨z0, z1, z2, z3⟩, -⟩ := P9.four
          exact bodyPost_ret (v := .tuple #[iv4 fun _ => 0, .int .i64 400]) (by simp [results, Try.results49, go_sem, z0, z1, z2, z3]) rfl ⟨rfl, below_set4 HB.out.2.2.2.2 (by omega) _ _ _ _⟩
      case false =>
        clear hlt hset
        cases tk
        case true =>
          go_wp2_with (first
            | (go_at_call 62; have _q := Q1; refine (PY.out _).mono ?_; rintro e w2 ⟨rfl, rfl⟩)
            | (go_at_call 62; refine (PX.out _).mono ?_; rintro e w2 ⟨rfl, rfl⟩; have Q1 := Lib.hid trivial))
          have P9 := HB.out.2.2.1.put4 (.int .i64 0) (.int .i64 0) (.int .i64 0) (.int .i64 0)
          obtain ⟨⟨z0, z1, z2, z3⟩, -⟩ := P9.four
          exact bodyPost_ret (v := .tuple #[iv4 fun _ => 0, .int .i64 400]) (by simp [results, Try.results49, go_sem, z0, z1, z2, z3]) rfl ⟨rfl, below_set4 HB.out.2.2.2.2 (by omega) _ _ _ _⟩
        case false =>
          go_wp2_with (first
            | (go_at_call 62; have _q := Q1; refine (PY.out _).mono ?_; rintro e w2 ⟨rfl, rfl⟩)
            | (go_at_call 62; refine (PX.out _).mono ?_; rintro e w2 ⟨rfl, rfl⟩; have Q1 := Lib.hid trivial))
          have P9 := HB.out.2.2.1.put4 (.int .i64 0) (.int .i64 0) (.int .i64 0) (.int .i64 0)
          obtain ⟨⟨z0, z1, z2, z3⟩, -⟩ := P9.four
          exact bodyPost_ret (v := .tuple #[iv4 fun _ => 0, .int .i64 400]) (by simp [results, Try.results49, go_sem, z0, z1, z2, z3]) rfl ⟨rfl, below_set4 HB.out.2.2.2.2 (by omega) _ _ _ _⟩
    · obtain rfl : k = 4 := Nat.le_antisymm HK.out (Nat.not_lt.1 hlt)
      exfalso
      obtain ⟨j, hj, h⟩ := HZ.out
      obtain ⟨h1, h2⟩ := HIN.out j hj
      rcases h with h | h
      · rw [h1] at h; cases h
      · rw [h2] at h; cases h

set_option maxRecDepth 20000 in
set_option maxHeartbeats 1600000 in
theorem refClasses_all (x y : Nat → Nat) (p q : Nat → Int) (hp : ∀ j < 4, Pa (x j) (p j) true ∧ Pa (y j) (q j) true) (hz : ∀ j < 4, (p j).natAbs ≤ 1125899906842624 ∧ (q j).natAbs ≤ 1125899906842624) (w : World) :
    Calls Try.prog 49 #[fl4 x, fl4 y] w fun e w' => ∃ c err, e = .returned (.tuple #[iv4 c, .int .i64 err]) ∧ Cls p q c err ∧ Below w.heap.size w w' := by
  have HF := Lib.hid hp
  have HZ := Lib.hid hz
  clear hp hz
  obtain ⟨W, hW⟩ : ∃ W, (((w.alloc (.cells (fc4 x) 79)).alloc (.cells (fc4 y) 79)).alloc (.cells #[.int .i64 0, .int .i64 0, .int .i64 0, .int .i64 0] 40)).alloc (.cells (ic8 fun _ => 0) 63) = W := ⟨_, rfl⟩
  have HA : Hid (Arr 79 (W) w.heap.size (fc4 x) ∧ Arr 79 (W) (w.heap.size + 1) (fc4 y) ∧ Arr 40 (W) (w.heap.size + 1 + 1) #[.int .i64 0, .int .i64 0, .int .i64 0, .int .i64 0] ∧ Arr 63 (W) (w.heap.size + 1 + 1 + 1) (ic8 (cut8 p q 0)) ∧ Below w.heap.size w (W)) := Lib.hid ⟨by rw [← hW]; exact (((Arr.new _ _ _).al _).al _).al _, by rw [← hW]; exact ((Arr.new1 _ _ _ _).al _).al _, by rw [← hW]; exact (Arr.new2 _ _ _ _ _).al _, by rw [← hW]; exact Arr.new3 _ _ _ _ _ _, by rw [← hW]; exact below_al (below_al (below_al (below_al (Below.refl _ _) _) _) _) _⟩
  have HW := Lib.hid hW
  clear hW
  go_enter Try.func49, Try.ntmps49
  go_upto_region 2 with fail
  rw [HW.out]
  clear HW
  go_wp2_with fail
  go_loopw [7] (fun iv wr => ∃ k : Nat, Hid (k ≤ 4) ∧ iv = .int .i64 (k : Int) ∧ Hid (Arr 79 (wr) w.heap.size (fc4 x) ∧ Arr 79 (wr) (w.heap.size + 1) (fc4 y) ∧ Arr 40 (wr) (w.heap.size + 1 + 1) #[.int .i64 0, .int .i64 0, .int .i64 0, .int .i64 0] ∧ Arr 63 (wr) (w.heap.size + 1 + 1 + 1) (ic8 (cut8 p q k)) ∧ Below w.heap.size w (wr))) (fun iv _ => 4 - (intOf iv).toNat)
  case atStart => exact ⟨0, Lib.hid (Nat.zero_le _), rfl, HA⟩
  case round =>
    clear HA
    obtain ⟨k, HK, rfl, HB⟩ := hrel
    by_cases hlt : k < 4
    · have d0 : decide ((k : Int) < 4) = true := decide_eq_true (Int.ofNat_lt.2 hlt)
      have d0' : decide (k < 4) = true := decide_eq_true hlt
      have hk4 : (k : Int) < 4 := Int.ofNat_lt.2 hlt
      have e1 : wr.cell? ⟨w.heap.size, k, none⟩ = some (.float .f64 (x k)) := (HB.out.1.c k).trans (fc4_get x k hlt)
      have e2 : wr.cell? ⟨w.heap.size + 1, k, none⟩ = some (.float .f64 (y k)) := (HB.out.2.1.c k).trans (fc4_get y k hlt)
      have PX := Lib.hid (HF.out k hlt).1
      have PY := Lib.hid (HF.out k hlt).2
      have HLT := Lib.hid hlt
      have c1 := (HB.out.2.2.2.1.c (k * 2)).trans (cut8_get p q k hlt).1
      have c2 := (HB.out.2.2.2.1.c (k * 2 + 1)).trans (cut8_get p q k hlt).2
      have f1 := HB.out.2.2.2.1.f (k * 2)
      have f2 := HB.out.2.2.2.1.f (k * 2 + 1)
      have hset := cut8_set p q k hlt
      have HB2 : Hid (Arr 79 ((wr.setCell ⟨w.heap.size + 1 + 1 + 1, k * 2, none⟩ (.int .i64 (p k))).setCell ⟨w.heap.size + 1 + 1 + 1, k * 2 + 1, none⟩ (.int .i64 (q k))) w.heap.size (fc4 x) ∧ Arr 79 ((wr.setCell ⟨w.heap.size + 1 + 1 + 1, k * 2, none⟩ (.int .i64 (p k))).setCell ⟨w.heap.size + 1 + 1 + 1, k * 2 + 1, none⟩ (.int .i64 (q k))) (w.heap.size + 1) (fc4 y) ∧ Arr 40 ((wr.setCell ⟨w.heap.size + 1 + 1 + 1, k * 2, none⟩ (.int .i64 (p k))).setCell ⟨w.heap.size + 1 + 1 + 1, k * 2 + 1, none⟩ (.int .i64 (q k))) (w.heap.size + 1 + 1) #[.int .i64 0, .int .i64 0, .int .i64 0, .int .i64 0] ∧ Arr 63 ((wr.setCell ⟨w.heap.size + 1 + 1 + 1, k * 2, none⟩ (.int .i64 (p k))).setCell ⟨w.heap.size + 1 + 1 + 1, k * 2 + 1, none⟩ (.int .i64 (q k))) (w.heap.size + 1 + 1 + 1) (ic8 (cut8 p q (k + 1))) ∧ Below w.heap.size w ((wr.setCell ⟨w.heap.size + 1 + 1 + 1, k * 2, none⟩ (.int .i64 (p k))).setCell ⟨w.heap.size + 1 + 1 + 1, k * 2 + 1, none⟩ (.int .i64 (q k)))) := Lib.hid ⟨(HB.out.1.other (k := k * 2) (.int .i64 (p k)) (by omega)).other (k := k * 2 + 1) (.int .i64 (q k)) (by omega), (HB.out.2.1.other (k := k * 2) (.int .i64 (p k)) (by omega)).other (k := k * 2 + 1) (.int .i64 (q k)) (by omega), (HB.out.2.2.1.other (k := k * 2) (.int .i64 (p k)) (by omega)).other (k := k * 2 + 1) (.int .i64 (q k)) (by omega), by rw [← hset]; exact (HB.out.2.2.2.1.set (k * 2) (.int .i64 (p k))).set (k * 2 + 1) (.int .i64 (q k)), (HB.out.2.2.2.2.setCell (show w.heap.size ≤ (⟨w.heap.size + 1 + 1 + 1, k * 2, none⟩ : Addr).block by show w.heap.size ≤ w.heap.size + 1 + 1 + 1; omega) _).setCell (show w.heap.size ≤ (⟨w.heap.size + 1 + 1 + 1, k * 2 + 1, none⟩ : Addr).block by show w.heap.size ≤ w.heap.size + 1 + 1 + 1; omega) _⟩
      clear hlt hset
      go_wp2_with (first
            | (go_at_call 62; have _q := Q1; refine (PY.out _).mono ?_; rintro e w2 ⟨rfl, rfl⟩)
            | (go_at_call 62; refine (PX.out _).mono ?_; rintro e w2 ⟨rfl, rfl⟩; have Q1 := Lib.hid trivial))
      go_roundw
      case rel => exact ⟨k + 1, Lib.hid HLT.out, by go_num, HB2⟩
      case measure => have := HLT.out; simp [intOf]; omega
    · obtain rfl : k = 4 := Nat.le_antisymm HK.out (Nat.not_lt.1 hlt)
      clear hlt HK
      have hca := cut8_all p q
      rw [hca] at HB
      obtain ⟨⟨z0, z1, z2, z3, z4, z5, z6, z7⟩, -⟩ := HB.out.2.2.2.1.eight
      obtain ⟨ev, od, e2, o2, a0, a1, a2, a3, ⟨he1, he2, he3, he4, he5, he6, he7, he8⟩, ⟨u1, u2, u3, u4, u5, u6, u7, u8⟩, ⟨v1, v2, v3, v4, v5, v6, v7, v8⟩, htc⟩ := tC_le HZ.out
      obtain ⟨C, hC⟩ : ∃ C, tC p q = C := ⟨_, rfl⟩
      have HC := Lib.hid hC
      have t0 : a0.tdiv 2 = C 0 := by rw [← hC, ← he5, ← he3, ← he1]; rfl
      have t1 : a1.tdiv 2 = C 1 := by rw [← hC, ← he6, ← he4, ← he2]; rfl
      have t2 : a2.tdiv 2 = C 2 := by rw [← hC, ← he7, ← he3, ← he1]; rfl
      have t3 : a3.tdiv 2 = C 3 := by rw [← hC, ← he8, ← he4, ← he2]; rfl
      rw [hC] at htc
      obtain ⟨h0, h0'⟩ := htc 0 (by decide)
      obtain ⟨h1, h1'⟩ := htc 1 (by decide)
      obtain ⟨h2, h2'⟩ := htc 2 (by decide)
      obtain ⟨h3, h3'⟩ := htc 3 (by decide)
      clear hC htc hca
      go_wp2_with fail
      go_quiet (fail)
      have bq : Below wr.heap.size wr (wr.drewN nq) := below_drewN (Below.refl _ _) nq
      have HQ : Hid (Arr 40 (wr.drewN nq) (w.heap.size + 1 + 1) #[.int .i64 0, .int .i64 0, .int .i64 0, .int .i64 0] ∧ Arr 63 (wr.drewN nq) (w.heap.size + 1 + 1 + 1) #[.int .i64 (p 0), .int .i64 (q 0), .int .i64 (p 1), .int .i64 (q 1), .int .i64 (p 2), .int .i64 (q 2), .int .i64 (p 3), .int .i64 (q 3)] ∧ Below w.heap.size w (wr.drewN nq)) := Lib.hid ⟨HB.out.2.2.1.step bq, HB.out.2.2.2.1.step bq, below_step HB.out.2.2.2.2 bq⟩
      clear bq HB z0 z1 z2 z3 z4 z5 z6 z7
      generalize wr.drewN nq = V at HQ ⊢
      obtain ⟨⟨z0, z1, z2, z3, z4, z5, z6, z7⟩, -⟩ := HQ.out.2.1.eight
      go_upto_region 12 with fail
      have B2 : Hid (Arr 40 (V.alloc (.cells (ic4 C) 40)) (w.heap.size + 1 + 1) #[.int .i64 0, .int .i64 0, .int .i64 0, .int .i64 0] ∧ Arr 63 (V.alloc (.cells (ic4 C) 40)) (w.heap.size + 1 + 1 + 1) #[.int .i64 (p 0), .int .i64 (q 0), .int .i64 (p 1), .int .i64 (q 1), .int .i64 (p 2), .int .i64 (q 2), .int .i64 (p 3), .int .i64 (q 3)] ∧ Arr 40 (V.alloc (.cells (ic4 C) 40)) V.heap.size (ic4 C) ∧ Below w.heap.size w (V.alloc (.cells (ic4 C) 40))) := Lib.hid ⟨HQ.out.1.al _, HQ.out.2.1.al _, Arr.new _ _ _, below_al HQ.out.2.2 _⟩
      generalize V.alloc (.cells (ic4 C) 40) = V2 at B2 ⊢
      generalize V.heap.size = g2 at B2 ⊢
      clear HQ z0 z1 z2 z3 z4 z5 z6 z7
      obtain ⟨⟨b0, b1, b2, b3⟩, -⟩ := B2.out.2.2.1.four
      go_upto_region 13 with (go_at_call 32; refine (refRow_any C _).mono ?_; rintro e w5 ⟨P, Q, err, rfl, hR, kk⟩; have HR := Lib.hid hR; have B3 : Hid (Arr 40 (w5.alloc (.cells #[.int .i64 (P 0), .int .i64 (Q 0), .int .i64 (P 1), .int .i64 (Q 1), .int .i64 (P 2), .int .i64 (Q 2), .int .i64 (P 3), .int .i64 (Q 3)] 63)) (w.heap.size + 1 + 1) #[.int .i64 0, .int .i64 0, .int .i64 0, .int .i64 0] ∧ Arr 63 (w5.alloc (.cells #[.int .i64 (P 0), .int .i64 (Q 0), .int .i64 (P 1), .int .i64 (Q 1), .int .i64 (P 2), .int .i64 (Q 2), .int .i64 (P 3), .int .i64 (Q 3)] 63)) (w.heap.size + 1 + 1 + 1) #[.int .i64 (p 0), .int .i64 (q 0), .int .i64 (p 1), .int .i64 (q 1), .int .i64 (p 2), .int .i64 (q 2), .int .i64 (p 3), .int .i64 (q 3)] ∧ Arr 40 (w5.alloc (.cells #[.int .i64 (P 0), .int .i64 (Q 0), .int .i64 (P 1), .int .i64 (Q 1), .int .i64 (P 2), .int .i64 (Q 2), .int .i64 (P 3), .int .i64 (Q 3)] 63)) g2 (ic4 C) ∧ Arr 63 (w5.alloc (.cells #[.int .i64 (P 0), .int .i64 (Q 0), .int .i64 (P 1), .int .i64 (Q 1), .int .i64 (P 2), .int .i64 (Q 2), .int .i64 (P 3), .int .i64 (Q 3)] 63)) w5.heap.size #[.int .i64 (P 0), .int .i64 (Q 0), .int .i64 (P 1), .int .i64 (Q 1), .int .i64 (P 2), .int .i64 (Q 2), .int .i64 (P 3), .int .i64 (Q 3)] ∧ Below w.heap.size w (w5.alloc (.cells #[.int .i64 (P 0), .int .i64 (Q 0), .int .i64 (P 1), .int .i64 (Q 1), .int .i64 (P 2), .int .i64 (Q 2), .int .i64 (P 3), .int .i64 (Q 3)] 63))) := Lib.hid ⟨(B2.out.1.step kk).al _, (B2.out.2.1.step kk).al _, (B2.out.2.2.1.step kk).al _, Arr.new _ _ _, below_al (below_step B2.out.2.2.2 kk) _⟩; clear kk hR)
      generalize w5.alloc (.cells #[.int .i64 (P 0), .int .i64 (Q 0), .int .i64 (P 1), .int .i64 (Q 1), .int .i64 (P 2), .int .i64 (Q 2), .int .i64 (P 3), .int .i64 (Q 3)] 63) = V3 at B3 ⊢
      generalize w5.heap.size = g3 at B3 ⊢
      clear B2 b0 b1 b2 b3
      obtain ⟨⟨s0, s1, s2, s3⟩, q0, q1, q2, q3⟩ := B3.out.1.four
      obtain ⟨⟨z0, z1, z2, z3, z4, z5, z6, z7⟩, -⟩ := B3.out.2.1.eight
      obtain ⟨⟨b0, b1, b2, b3⟩, -⟩ := B3.out.2.2.1.four
      obtain ⟨⟨y0, y1, y2, y3, y4, y5, y6, y7⟩, -⟩ := B3.out.2.2.2.1.eight
      have hnq := neq_n P Q p q
      by_cases hok : szc C ≤ 1125899906842624
      · obtain ⟨rfl, rfl, rfl⟩ : err = 0 ∧ P = (fun j => dR j C) ∧ Q = fun j => dI j C := by
          rcases HR.out with ⟨_, h⟩ | ⟨h, _⟩
          · exact h
          · exact absurd hok h
        by_cases heq : (dR 0 C = p 0 ∧ dI 0 C = q 0) ∧ (dR 1 C = p 1 ∧ dI 1 C = q 1) ∧ (dR 2 C = p 2 ∧ dI 2 C = q 2) ∧ dR 3 C = p 3 ∧ dI 3 C = q 3
        · have hd := decide_eq_true heq
          have HQR := Lib.hid (right_tC hok (all4 heq.1 heq.2.1 heq.2.2.1 heq.2.2.2))
          simp only [hd, Bool.not_true] at hnq
          clear hd heq hok HR
          go_wp2_with fail
          have P9 := B3.out.1.put4 (.int .i64 (C 0)) (.int .i64 (C 1)) (.int .i64 (C 2)) (.int .i64 (C 3))
          obtain ⟨⟨z0, z1, z2, z3⟩, -⟩ := P9.four
          exact bodyPost_ret (v := .tuple #[iv4 C, .int .i64 0]) (by simp [results, Try.results49, go_sem, z0, z1, z2, z3]) rfl ⟨_, _, rfl, .inl ⟨HQR.out.1, rfl, HQR.out.2⟩, below_set4 B3.out.2.2.2.2 (by omega) _ _ _ _⟩
        · have hd := decide_eq_false heq
          have HNO : Hid (¬ Right4 p q) := Lib.hid fun h => heq (by
            have k := (tC_right h).2
            rw [HC.out] at k
            exact ⟨k 0 (by decide), k 1 (by decide), k 2 (by decide), k 3 (by decide)⟩)
          simp only [hd, Bool.not_false] at hnq
          clear hd heq hok HR
          go_wp2_with fail
          have P9 := B3.out.1.put4 (.int .i64 0) (.int .i64 0) (.int .i64 0) (.int .i64 0)
          obtain ⟨⟨z0, z1, z2, z3⟩, -⟩ := P9.four
          exact bodyPost_ret (v := .tuple #[iv4 fun _ => 0, .int .i64 400]) (by simp [results, Try.results49, go_sem, z0, z1, z2, z3]) rfl ⟨_, _, rfl, .inr ⟨HNO.out, rfl, fun _ _ => rfl⟩, below_set4 B3.out.2.2.2.2 (by omega) _ _ _ _⟩
      · obtain rfl : err = 3 := by
          rcases HR.out with ⟨h, _⟩ | ⟨_, h, _⟩
          · exact absurd h hok
          · exact h
        have HNO : Hid (¬ Right4 p q) := Lib.hid fun h => hok (by
          have k := (tC_right h).1
          rw [HC.out] at k
          have h3 := h.2.2
          rw [sz4, ← k 0 (by decide), ← k 1 (by decide), ← k 2 (by decide), ← k 3 (by decide)] at h3
          exact h3)
        clear hok HR hnq
        go_wp2_with fail
        have P9 := B3.out.1.put4 (.int .i64 0) (.int .i64 0) (.int .i64 0) (.int .i64 0)
        obtain ⟨⟨z0, z1, z2, z3⟩, -⟩ := P9.four
        exact bodyPost_ret (v := .tuple #[iv4 fun _ => 0, .int .i64 400]) (by simp [results, Try.results49, go_sem, z0, z1, z2, z3]) rfl ⟨_, _, rfl, .inr ⟨HNO.out, rfl, fun _ _ => rfl⟩, below_set4 B3.out.2.2.2.2 (by omega) _ _ _ _⟩
end Go.Proofs.Ythidfmkmklnhhaa
