/- Walks: PhaseWrong. Printed by gen_ue.py. -/
import Derived.Test.YthidfmkmklnhhaaProg
import Derived.Test.YthidfmkmklnhhaaUd
import Derived.Deep.DeepCutAuto
import Derived.Deep.RegionHeld3
import Derived.BigRegion
namespace Go.Proofs.Ythidfmkmklnhhaa
open Go.RowKit
set_option linter.unusedVariables false

set_option maxRecDepth 20000 in
set_option maxHeartbeats 4000000 in
theorem PhaseWrong_any (c : Nat → Int) (t : Nat) (n : Int) (w : World) (ht : t < 256) (hn : -9223372036854775808 ≤ n ∧ n ≤ 9223372036854775807) :
    Calls Try.prog 11 #[iv4 c, .int .u8 (t : Int), .int .i64 n] w fun e w' => e = .returned (.bool true) ∧ Below w.heap.size w w' := by
  have hst := st_c
  obtain ⟨j, d, q, hj1, hj2, hj3, hj4, hq1, hq2, hd1, hd2, hd3, hd4⟩ := way_facts t ht
  have dj : decide ((j : Int) < 4) = true := decide_eq_true hj4
  have dj' : decide (j < 4) = true := decide_eq_true hj3
  have dd : decide ((d : Int) < 6) = true := decide_eq_true hd4
  have dd' : decide (d < 6) = true := decide_eq_true hd3
  obtain ⟨mg, hmg, hmg2⟩ := max_facts n hn
  obtain ⟨ml, hml, hml2⟩ := min_facts n hn
  obtain ⟨mn, hmn, hmn2⟩ := neg_facts n
  have HJ := Lib.hid (And.intro hj3 hd3)
  have HM := Lib.hid (And.intro hmg2 (And.intro hml2 hmn2))
  obtain ⟨W, hW⟩ : ∃ W, w.alloc (.cells (ic4 c) 40) = W := ⟨_, rfl⟩
  have HA : Hid (Arr 40 W w.heap.size (ic4 (mw c 0)) ∧ Below w.heap.size w W) := Lib.hid ⟨by rw [← hW, mw_zero]; exact Arr.new _ _ _, by rw [← hW]; exact below_al (Below.refl _ _) _⟩
  have HW := Lib.hid hW
  clear hW ht hj3 hd3 hmg2 hml2 hmn2
  go_enter Try.func11, Try.ntmps11
  go_wp2_with (go_at_call 13; rw [HW.out]; refine (awake_any _).mono ?_; rintro e w0 ⟨rfl, k0⟩; have HB0 : Hid (Arr 40 w0 w.heap.size (ic4 (mw c 0)) ∧ Below w.heap.size w w0) := Lib.hid ⟨HA.out.1.step k0, below_step HA.out.2 k0⟩; clear k0)
  clear HA HW
  go_loopw [47] (fun iv wr => ∃ k : Nat, Hid (k ≤ 4) ∧ iv = .int .i64 (k : Int) ∧ Hid (Arr 40 wr w.heap.size (ic4 (mw c k)) ∧ Below w.heap.size w wr)) (fun iv _ => 4 - (intOf iv).toNat)
  case atStart => exact ⟨0, Lib.hid (Nat.zero_le _), rfl, HB0⟩
  case round =>
    clear HB0
    obtain ⟨k, HK, rfl, HB⟩ := hrel
    by_cases hlt : k < 4
    · have d0 : decide ((k : Int) < 4) = true := decide_eq_true (Int.ofNat_lt.2 hlt)
      have d0' : decide (k < 4) = true := decide_eq_true hlt
      have hk4 : (k : Int) < 4 := Int.ofNat_lt.2 hlt
      have e0 : wr.cell? ⟨w.heap.size, k, none⟩ = some (.int .i64 (c k)) := (HB.out.1.c k).trans (mw_get c k hlt)
      have f0 := HB.out.1.f k
      have hcl := redw_le c k
      have hms := mw_set c k hlt
      obtain ⟨u, hu⟩ : ∃ u, (c k).tmod 1048576 = u := ⟨_, rfl⟩
      rw [show redw c k = u from hu] at hcl
      rw [hu] at hms
      have hwu : IntKind.i64.wrap u = u := IntWalk.i64_in _ (by clear hu hj1 hd1; omega)
      have HLT := Lib.hid hlt
      have HB2 : Hid (Arr 40 (wr.setCell ⟨w.heap.size, k, none⟩ (.int .i64 u)) w.heap.size (ic4 (mw c (k + 1))) ∧ Below w.heap.size w (wr.setCell ⟨w.heap.size, k, none⟩ (.int .i64 u))) := Lib.hid ⟨by rw [← hms]; exact HB.out.1.set k (.int .i64 u), HB.out.2.setCell (show w.heap.size ≤ (⟨w.heap.size, k, none⟩ : Addr).block from Nat.le_refl _) _⟩
      clear hlt hcl hms
      go_wp2_with fail
      go_roundw
      case rel => exact ⟨k + 1, Lib.hid HLT.out, by go_num, HB2⟩
      case measure => have h1 := HLT.out; clear hj1 hd1 hu hq1; simp [intOf]; omega
    · obtain rfl : k = 4 := Nat.le_antisymm HK.out (Nat.not_lt.1 hlt)
      clear hlt HK
      have hm1 := mw_all c
      have HZ := Lib.hid (szc_redw c)
      obtain ⟨a, ha⟩ : ∃ a, redw c = a := ⟨_, rfl⟩
      rw [ha] at hm1 HZ
      have B0 : Hid (Below w.heap.size w wr ∧ Arr 40 wr w.heap.size (ic4 a)) := Lib.hid ⟨HB.out.2, by rw [← hm1]; exact HB.out.1⟩
      clear HB ha hm1
      generalize hV0 : wr = V0 at B0 ⊢
      clear hV0
      obtain ⟨⟨p0, p1, p2, p3⟩, -⟩ := (B0.out.2).four
      go_upto_region 9 with (go_at_call 27; refine (Row_right a _ (by have := HZ.out; omega)).mono ?_; rintro e w10 ⟨x, y, rfl, f, kk⟩; have F := Lib.hid f; clear f; have B1 : Hid (Below w.heap.size w (w10.alloc (.cells #[.complex .f64 (x 0) (y 0), .complex .f64 (x 1) (y 1), .complex .f64 (x 2) (y 2), .complex .f64 (x 3) (y 3)] 26)) ∧ Arr 40 (w10.alloc (.cells #[.complex .f64 (x 0) (y 0), .complex .f64 (x 1) (y 1), .complex .f64 (x 2) (y 2), .complex .f64 (x 3) (y 3)] 26)) w.heap.size (ic4 a) ∧ Arr 26 (w10.alloc (.cells #[.complex .f64 (x 0) (y 0), .complex .f64 (x 1) (y 1), .complex .f64 (x 2) (y 2), .complex .f64 (x 3) (y 3)] 26)) w10.heap.size #[.complex .f64 (x 0) (y 0), .complex .f64 (x 1) (y 1), .complex .f64 (x 2) (y 2), .complex .f64 (x 3) (y 3)]) := Lib.hid ⟨below_al (below_step (B0.out.1) kk) (.cells #[.complex .f64 (x 0) (y 0), .complex .f64 (x 1) (y 1), .complex .f64 (x 2) (y 2), .complex .f64 (x 3) (y 3)] 26), ((B0.out.2).step kk).al (.cells #[.complex .f64 (x 0) (y 0), .complex .f64 (x 1) (y 1), .complex .f64 (x 2) (y 2), .complex .f64 (x 3) (y 3)] 26), Arr.new _ _ _⟩; clear kk; (try skip))
      generalize w10.alloc (.cells #[.complex .f64 (x 0) (y 0), .complex .f64 (x 1) (y 1), .complex .f64 (x 2) (y 2), .complex .f64 (x 3) (y 3)] 26) = V1 at B1 ⊢
      generalize w10.heap.size = g1 at B1 ⊢
      clear B0
      clear p0 p1 p2 p3
      obtain ⟨⟨l0, l1, l2, l3⟩, -⟩ := (B1.out.2.1).four
      have B2 : Hid ((Below w.heap.size w (V1.alloc (.cells (ic4 a) 40)) ∧ Arr 40 (V1.alloc (.cells (ic4 a) 40)) w.heap.size (ic4 a) ∧ Arr 26 (V1.alloc (.cells (ic4 a) 40)) g1 #[.complex .f64 (x 0) (y 0), .complex .f64 (x 1) (y 1), .complex .f64 (x 2) (y 2), .complex .f64 (x 3) (y 3)] ∧ Arr 40 (V1.alloc (.cells (ic4 a) 40)) V1.heap.size (ic4 a)) ∧ (w.heap.size < V1.heap.size ∧ g1 < V1.heap.size)) := Lib.hid ⟨⟨below_al (B1.out.1) (.cells (ic4 a) 40), (B1.out.2.1).al (.cells (ic4 a) 40), (B1.out.2.2).al (.cells (ic4 a) 40), Arr.new _ _ _⟩, ⟨(B1.out.2.1).lt, (B1.out.2.2).lt⟩⟩
      have HLX : Hid (w.heap.size ≤ V1.heap.size) := Lib.hid (B1.out.1).size
      go_upto_region 10 with fail
      clear l0 l1 l2 l3
      generalize V1.alloc (.cells (ic4 a) 40) = V2 at B2 ⊢
      generalize V1.heap.size = g2 at B2 HLX ⊢
      have HNE := Lib.hid B2.out.2
      have B2x := Lib.hid B2.out.1
      clear B1 B2
      have B2 := Lib.hid B2x.out
      clear B2x
      have hset := putc_set a j HJ.out.1 mg
      have ec := (B2.out.2.2.2.c j).trans (cs_get a j HJ.out.1)
      have fc := B2.out.2.2.2.f j
      go_upto_region 11 with fail
      have B3 : Hid (Below w.heap.size w ((V2.setCell ⟨g2, j, none⟩ (.int .i64 mg))) ∧ Arr 40 ((V2.setCell ⟨g2, j, none⟩ (.int .i64 mg))) w.heap.size (ic4 a) ∧ Arr 26 ((V2.setCell ⟨g2, j, none⟩ (.int .i64 mg))) g1 #[.complex .f64 (x 0) (y 0), .complex .f64 (x 1) (y 1), .complex .f64 (x 2) (y 2), .complex .f64 (x 3) (y 3)] ∧ Arr 40 ((V2.setCell ⟨g2, j, none⟩ (.int .i64 mg))) g2 (ic4 (putc a j mg))) := Lib.hid ⟨((B2.out.1).setCell (show w.heap.size ≤ (⟨g2, j, none⟩ : Addr).block from HLX.out) (.int .i64 mg)), (B2.out.2.1).other (k := j) (.int .i64 mg) (Nat.ne_of_lt (HNE.out.1)), (B2.out.2.2.1).other (k := j) (.int .i64 mg) (Nat.ne_of_lt (HNE.out.2)), (by rw [← hset]; exact (B2.out.2.2.2).set j (.int .i64 mg))⟩
      generalize (V2.setCell ⟨g2, j, none⟩ (.int .i64 mg)) = V3 at B3 ⊢
      clear B2 HNE HLX
      clear hset ec fc
      obtain ⟨⟨l0, l1, l2, l3⟩, -⟩ := (B3.out.2.1).four
      have B4 : Hid ((Below w.heap.size w (V3.alloc (.cells (ic4 a) 40)) ∧ Arr 40 (V3.alloc (.cells (ic4 a) 40)) w.heap.size (ic4 a) ∧ Arr 26 (V3.alloc (.cells (ic4 a) 40)) g1 #[.complex .f64 (x 0) (y 0), .complex .f64 (x 1) (y 1), .complex .f64 (x 2) (y 2), .complex .f64 (x 3) (y 3)] ∧ Arr 40 (V3.alloc (.cells (ic4 a) 40)) g2 (ic4 (putc a j mg)) ∧ Arr 40 (V3.alloc (.cells (ic4 a) 40)) V3.heap.size (ic4 a)) ∧ (w.heap.size < V3.heap.size ∧ g1 < V3.heap.size ∧ g2 < V3.heap.size)) := Lib.hid ⟨⟨below_al (B3.out.1) (.cells (ic4 a) 40), (B3.out.2.1).al (.cells (ic4 a) 40), (B3.out.2.2.1).al (.cells (ic4 a) 40), (B3.out.2.2.2).al (.cells (ic4 a) 40), Arr.new _ _ _⟩, ⟨(B3.out.2.1).lt, (B3.out.2.2.1).lt, (B3.out.2.2.2).lt⟩⟩
      have HLX : Hid (w.heap.size ≤ V3.heap.size) := Lib.hid (B3.out.1).size
      go_upto_region 12 with fail
      clear l0 l1 l2 l3
      generalize V3.alloc (.cells (ic4 a) 40) = V4 at B4 ⊢
      generalize V3.heap.size = g4 at B4 HLX ⊢
      have HNE := Lib.hid B4.out.2
      have B4x := Lib.hid B4.out.1
      clear B3 B4
      have B4 := Lib.hid B4x.out
      clear B4x
      have hset := putc_set a j HJ.out.1 ml
      have ec := (B4.out.2.2.2.2.c j).trans (cs_get a j HJ.out.1)
      have fc := B4.out.2.2.2.2.f j
      go_upto_region 13 with fail
      have B5 : Hid (Below w.heap.size w ((V4.setCell ⟨g4, j, none⟩ (.int .i64 ml))) ∧ Arr 40 ((V4.setCell ⟨g4, j, none⟩ (.int .i64 ml))) w.heap.size (ic4 a) ∧ Arr 26 ((V4.setCell ⟨g4, j, none⟩ (.int .i64 ml))) g1 #[.complex .f64 (x 0) (y 0), .complex .f64 (x 1) (y 1), .complex .f64 (x 2) (y 2), .complex .f64 (x 3) (y 3)] ∧ Arr 40 ((V4.setCell ⟨g4, j, none⟩ (.int .i64 ml))) g2 (ic4 (putc a j mg)) ∧ Arr 40 ((V4.setCell ⟨g4, j, none⟩ (.int .i64 ml))) g4 (ic4 (putc a j ml))) := Lib.hid ⟨((B4.out.1).setCell (show w.heap.size ≤ (⟨g4, j, none⟩ : Addr).block from HLX.out) (.int .i64 ml)), (B4.out.2.1).other (k := j) (.int .i64 ml) (Nat.ne_of_lt (HNE.out.1)), (B4.out.2.2.1).other (k := j) (.int .i64 ml) (Nat.ne_of_lt (HNE.out.2.1)), (B4.out.2.2.2.1).other (k := j) (.int .i64 ml) (Nat.ne_of_lt (HNE.out.2.2)), (by rw [← hset]; exact (B4.out.2.2.2.2).set j (.int .i64 ml))⟩
      generalize (V4.setCell ⟨g4, j, none⟩ (.int .i64 ml)) = V5 at B5 ⊢
      clear B4 HNE HLX
      clear hset ec fc
      obtain ⟨⟨p0, p1, p2, p3⟩, -⟩ := (B5.out.2.2.2.1).four
      go_upto_region 14 with (go_at_call 27; refine (Row_all (putc a j mg) _).mono ?_; rintro e w15 ⟨u1, v1, e1, rfl, hR, kk⟩; obtain rfl : e1 = 3 := (by rcases hR with ⟨h, _⟩ | ⟨_, h, _⟩; exact absurd h (putc_great a j HJ.out.1 mg HM.out.1); exact h); clear hR; have B6 : Hid (Below w.heap.size w (w15.alloc (.cells #[.complex .f64 (u1 0) (v1 0), .complex .f64 (u1 1) (v1 1), .complex .f64 (u1 2) (v1 2), .complex .f64 (u1 3) (v1 3)] 26)) ∧ Arr 40 (w15.alloc (.cells #[.complex .f64 (u1 0) (v1 0), .complex .f64 (u1 1) (v1 1), .complex .f64 (u1 2) (v1 2), .complex .f64 (u1 3) (v1 3)] 26)) w.heap.size (ic4 a) ∧ Arr 26 (w15.alloc (.cells #[.complex .f64 (u1 0) (v1 0), .complex .f64 (u1 1) (v1 1), .complex .f64 (u1 2) (v1 2), .complex .f64 (u1 3) (v1 3)] 26)) g1 #[.complex .f64 (x 0) (y 0), .complex .f64 (x 1) (y 1), .complex .f64 (x 2) (y 2), .complex .f64 (x 3) (y 3)] ∧ Arr 40 (w15.alloc (.cells #[.complex .f64 (u1 0) (v1 0), .complex .f64 (u1 1) (v1 1), .complex .f64 (u1 2) (v1 2), .complex .f64 (u1 3) (v1 3)] 26)) g4 (ic4 (putc a j ml))) := Lib.hid ⟨below_al (below_step (B5.out.1) kk) (.cells #[.complex .f64 (u1 0) (v1 0), .complex .f64 (u1 1) (v1 1), .complex .f64 (u1 2) (v1 2), .complex .f64 (u1 3) (v1 3)] 26), ((B5.out.2.1).step kk).al (.cells #[.complex .f64 (u1 0) (v1 0), .complex .f64 (u1 1) (v1 1), .complex .f64 (u1 2) (v1 2), .complex .f64 (u1 3) (v1 3)] 26), ((B5.out.2.2.1).step kk).al (.cells #[.complex .f64 (u1 0) (v1 0), .complex .f64 (u1 1) (v1 1), .complex .f64 (u1 2) (v1 2), .complex .f64 (u1 3) (v1 3)] 26), ((B5.out.2.2.2.2).step kk).al (.cells #[.complex .f64 (u1 0) (v1 0), .complex .f64 (u1 1) (v1 1), .complex .f64 (u1 2) (v1 2), .complex .f64 (u1 3) (v1 3)] 26)⟩; clear kk; (try skip))
      generalize w15.alloc (.cells #[.complex .f64 (u1 0) (v1 0), .complex .f64 (u1 1) (v1 1), .complex .f64 (u1 2) (v1 2), .complex .f64 (u1 3) (v1 3)] 26) = V6 at B6 ⊢
      generalize w15.heap.size = g6
      clear B5
      clear p0 p1 p2 p3
      go_upto_region 15 with (go_at_call 15; refine (Of_all _ 4 4 [putc a j ml 0, putc a j ml 1, putc a j ml 2, putc a j ml 3] _ (sees_block (B6.out.2.2.2) rfl (Nat.le_refl _) (by decide) ⟨[], rfl⟩ : Sees _ 1 _ 4 4 [Value.int .i64 (putc a j ml 0), Value.int .i64 (putc a j ml 1), Value.int .i64 (putc a j ml 2), Value.int .i64 (putc a j ml 3)])).mono ?_; rintro e w16 ⟨u2, v2, e2, rfl, hR, kk⟩; obtain rfl : e2 = 3 := (by rcases hR with ⟨h, _⟩ | ⟨_, h, _⟩; exact absurd (by rw [sz4] at h; exact h) (putc_great a j HJ.out.1 ml HM.out.2.1); exact h); clear hR; have B7 : Hid (Below w.heap.size w (w16.alloc (.cells #[.complex .f64 (u2 0) (v2 0), .complex .f64 (u2 1) (v2 1), .complex .f64 (u2 2) (v2 2), .complex .f64 (u2 3) (v2 3)] 26)) ∧ Arr 26 (w16.alloc (.cells #[.complex .f64 (u2 0) (v2 0), .complex .f64 (u2 1) (v2 1), .complex .f64 (u2 2) (v2 2), .complex .f64 (u2 3) (v2 3)] 26)) g1 #[.complex .f64 (x 0) (y 0), .complex .f64 (x 1) (y 1), .complex .f64 (x 2) (y 2), .complex .f64 (x 3) (y 3)]) := Lib.hid ⟨below_al (below_step (B6.out.1) kk) (.cells #[.complex .f64 (u2 0) (v2 0), .complex .f64 (u2 1) (v2 1), .complex .f64 (u2 2) (v2 2), .complex .f64 (u2 3) (v2 3)] 26), ((B6.out.2.2.1).step kk).al (.cells #[.complex .f64 (u2 0) (v2 0), .complex .f64 (u2 1) (v2 1), .complex .f64 (u2 2) (v2 2), .complex .f64 (u2 3) (v2 3)] 26)⟩; clear kk; (try skip))
      generalize w16.alloc (.cells #[.complex .f64 (u2 0) (v2 0), .complex .f64 (u2 1) (v2 1), .complex .f64 (u2 2) (v2 2), .complex .f64 (u2 3) (v2 3)] 26) = V7 at B7 ⊢
      generalize w16.heap.size = g7
      clear B6
      have HZ2 : Hid (szc a ≤ 1125899906842624 ∧ szc a ≤ 16777216) := Lib.hid (by have := HZ.out; omega)
      obtain ⟨⟨p0, p1, p2, p3⟩, -⟩ := (B7.out.2).four
      go_upto_region 16 with (go_at_call 16; refine (Join_bad2 x y x y a a mn 0 2 (Cl.right F.out HZ2.out.1) (Cl.right F.out HZ2.out.1) (.inr ⟨rfl, rfl, HM.out.2.2⟩) _).mono ?_; rintro e w17 ⟨rfl, kk⟩; have B8 : Hid (Below w.heap.size w (w17.alloc (.cells #[.complex .f64 0 0, .complex .f64 0 0, .complex .f64 0 0, .complex .f64 0 0] 26)) ∧ Arr 26 (w17.alloc (.cells #[.complex .f64 0 0, .complex .f64 0 0, .complex .f64 0 0, .complex .f64 0 0] 26)) g1 #[.complex .f64 (x 0) (y 0), .complex .f64 (x 1) (y 1), .complex .f64 (x 2) (y 2), .complex .f64 (x 3) (y 3)]) := Lib.hid ⟨below_al (below_step (B7.out.1) kk) (.cells #[.complex .f64 0 0, .complex .f64 0 0, .complex .f64 0 0, .complex .f64 0 0] 26), ((B7.out.2).step kk).al (.cells #[.complex .f64 0 0, .complex .f64 0 0, .complex .f64 0 0, .complex .f64 0 0] 26)⟩; clear kk; (try skip))
      generalize w17.alloc (.cells #[.complex .f64 0 0, .complex .f64 0 0, .complex .f64 0 0, .complex .f64 0 0] 26) = V8 at B8 ⊢
      generalize w17.heap.size = g8
      clear B7
      clear p0 p1 p2 p3
      go_upto_region 17 with (go_at_call 27; refine (Row_right cm _ (by decide)).mono ?_; rintro e w18 ⟨x2, y2, rfl, f, kk⟩; have F2 := Lib.hid f; clear f; have B9 : Hid (Below w.heap.size w (w18.alloc (.cells #[.complex .f64 (x2 0) (y2 0), .complex .f64 (x2 1) (y2 1), .complex .f64 (x2 2) (y2 2), .complex .f64 (x2 3) (y2 3)] 26)) ∧ Arr 26 (w18.alloc (.cells #[.complex .f64 (x2 0) (y2 0), .complex .f64 (x2 1) (y2 1), .complex .f64 (x2 2) (y2 2), .complex .f64 (x2 3) (y2 3)] 26)) g1 #[.complex .f64 (x 0) (y 0), .complex .f64 (x 1) (y 1), .complex .f64 (x 2) (y 2), .complex .f64 (x 3) (y 3)] ∧ Arr 26 (w18.alloc (.cells #[.complex .f64 (x2 0) (y2 0), .complex .f64 (x2 1) (y2 1), .complex .f64 (x2 2) (y2 2), .complex .f64 (x2 3) (y2 3)] 26)) w18.heap.size #[.complex .f64 (x2 0) (y2 0), .complex .f64 (x2 1) (y2 1), .complex .f64 (x2 2) (y2 2), .complex .f64 (x2 3) (y2 3)]) := Lib.hid ⟨below_al (below_step (B8.out.1) kk) (.cells #[.complex .f64 (x2 0) (y2 0), .complex .f64 (x2 1) (y2 1), .complex .f64 (x2 2) (y2 2), .complex .f64 (x2 3) (y2 3)] 26), ((B8.out.2).step kk).al (.cells #[.complex .f64 (x2 0) (y2 0), .complex .f64 (x2 1) (y2 1), .complex .f64 (x2 2) (y2 2), .complex .f64 (x2 3) (y2 3)] 26), Arr.new _ _ _⟩; clear kk; (try skip))
      generalize w18.alloc (.cells #[.complex .f64 (x2 0) (y2 0), .complex .f64 (x2 1) (y2 1), .complex .f64 (x2 2) (y2 2), .complex .f64 (x2 3) (y2 3)] 26) = V9 at B9 ⊢
      generalize w18.heap.size = g9 at B9 ⊢
      clear B8
      have SMZ : Hid (Sm x y 0 ∧ Sm x2 y2 2) := Lib.hid ⟨Sm.ok F.out HZ2.out.2, Sm.great F2.out (by decide) (by decide)⟩
      obtain ⟨⟨p0, p1, p2, p3⟩, -⟩ := (B9.out.2.1).four
      obtain ⟨⟨q0, q1, q2, q3⟩, -⟩ := (B9.out.2.2).four
      go_upto_region 18 with (go_at_call 20; refine (Times_err x y x2 y2 0 2 2 SMZ.out.1 SMZ.out.2 (.inr (.inl ⟨by decide, rfl, rfl, by decide⟩)) _).mono ?_; rintro e w19 ⟨rfl, kk⟩; have B10 : Hid (Below w.heap.size w (w19.alloc (.cells #[.complex .f64 0 0, .complex .f64 0 0, .complex .f64 0 0, .complex .f64 0 0] 26)) ∧ Arr 26 (w19.alloc (.cells #[.complex .f64 0 0, .complex .f64 0 0, .complex .f64 0 0, .complex .f64 0 0] 26)) g1 #[.complex .f64 (x 0) (y 0), .complex .f64 (x 1) (y 1), .complex .f64 (x 2) (y 2), .complex .f64 (x 3) (y 3)] ∧ Arr 26 (w19.alloc (.cells #[.complex .f64 0 0, .complex .f64 0 0, .complex .f64 0 0, .complex .f64 0 0] 26)) g9 #[.complex .f64 (x2 0) (y2 0), .complex .f64 (x2 1) (y2 1), .complex .f64 (x2 2) (y2 2), .complex .f64 (x2 3) (y2 3)]) := Lib.hid ⟨below_al (below_step (B9.out.1) kk) (.cells #[.complex .f64 0 0, .complex .f64 0 0, .complex .f64 0 0, .complex .f64 0 0] 26), ((B9.out.2.1).step kk).al (.cells #[.complex .f64 0 0, .complex .f64 0 0, .complex .f64 0 0, .complex .f64 0 0] 26), ((B9.out.2.2).step kk).al (.cells #[.complex .f64 0 0, .complex .f64 0 0, .complex .f64 0 0, .complex .f64 0 0] 26)⟩; clear kk; (try skip))
      generalize w19.alloc (.cells #[.complex .f64 0 0, .complex .f64 0 0, .complex .f64 0 0, .complex .f64 0 0] 26) = V10 at B10 ⊢
      generalize w19.heap.size = g10
      clear B9
      clear p0 p1 p2 p3
      clear q0 q1 q2 q3
      obtain ⟨⟨p0, p1, p2, p3⟩, -⟩ := (B10.out.2.1).four
      obtain ⟨⟨q0, q1, q2, q3⟩, -⟩ := (B10.out.2.2).four
      go_upto_region 19 with (go_at_call 20; refine (Times_err x2 y2 x y 2 0 2 SMZ.out.2 SMZ.out.1 (.inr (.inr ⟨by decide, by decide, rfl⟩)) _).mono ?_; rintro e w20 ⟨rfl, kk⟩; have B11 : Hid (Below w.heap.size w (w20.alloc (.cells #[.complex .f64 0 0, .complex .f64 0 0, .complex .f64 0 0, .complex .f64 0 0] 26)) ∧ Arr 26 (w20.alloc (.cells #[.complex .f64 0 0, .complex .f64 0 0, .complex .f64 0 0, .complex .f64 0 0] 26)) g1 #[.complex .f64 (x 0) (y 0), .complex .f64 (x 1) (y 1), .complex .f64 (x 2) (y 2), .complex .f64 (x 3) (y 3)] ∧ Arr 26 (w20.alloc (.cells #[.complex .f64 0 0, .complex .f64 0 0, .complex .f64 0 0, .complex .f64 0 0] 26)) g9 #[.complex .f64 (x2 0) (y2 0), .complex .f64 (x2 1) (y2 1), .complex .f64 (x2 2) (y2 2), .complex .f64 (x2 3) (y2 3)]) := Lib.hid ⟨below_al (below_step (B10.out.1) kk) (.cells #[.complex .f64 0 0, .complex .f64 0 0, .complex .f64 0 0, .complex .f64 0 0] 26), ((B10.out.2.1).step kk).al (.cells #[.complex .f64 0 0, .complex .f64 0 0, .complex .f64 0 0, .complex .f64 0 0] 26), ((B10.out.2.2).step kk).al (.cells #[.complex .f64 0 0, .complex .f64 0 0, .complex .f64 0 0, .complex .f64 0 0] 26)⟩; clear kk; (try skip))
      generalize w20.alloc (.cells #[.complex .f64 0 0, .complex .f64 0 0, .complex .f64 0 0, .complex .f64 0 0] 26) = V11 at B11 ⊢
      generalize w20.heap.size = g11
      clear B10
      clear p0 p1 p2 p3
      clear q0 q1 q2 q3
      obtain ⟨⟨q0, q1, q2, q3⟩, -⟩ := (B11.out.2.2).four
      go_upto_region 20 with (go_at_call 22; refine (Norms_bad x2 y2 2 (.inl rfl) SMZ.out.2 _).mono ?_; rintro e w21 ⟨rfl, kk⟩; have B12 : Hid (Below w.heap.size w (w21.alloc (.cells #[.int .i64 0, .int .i64 0, .int .i64 0, .int .i64 0] 40)) ∧ Arr 26 (w21.alloc (.cells #[.int .i64 0, .int .i64 0, .int .i64 0, .int .i64 0] 40)) g1 #[.complex .f64 (x 0) (y 0), .complex .f64 (x 1) (y 1), .complex .f64 (x 2) (y 2), .complex .f64 (x 3) (y 3)] ∧ Arr 26 (w21.alloc (.cells #[.int .i64 0, .int .i64 0, .int .i64 0, .int .i64 0] 40)) g9 #[.complex .f64 (x2 0) (y2 0), .complex .f64 (x2 1) (y2 1), .complex .f64 (x2 2) (y2 2), .complex .f64 (x2 3) (y2 3)]) := Lib.hid ⟨below_al (below_step (B11.out.1) kk) (.cells #[.int .i64 0, .int .i64 0, .int .i64 0, .int .i64 0] 40), ((B11.out.2.1).step kk).al (.cells #[.int .i64 0, .int .i64 0, .int .i64 0, .int .i64 0] 40), ((B11.out.2.2).step kk).al (.cells #[.int .i64 0, .int .i64 0, .int .i64 0, .int .i64 0] 40)⟩; clear kk; (try skip))
      generalize w21.alloc (.cells #[.int .i64 0, .int .i64 0, .int .i64 0, .int .i64 0] 40) = V12 at B12 ⊢
      generalize w21.heap.size = g12
      clear B11
      clear q0 q1 q2 q3
      go_upto_region 21 with (go_at_call 27; refine (Row_right cw _ (by decide)).mono ?_; rintro e w22 ⟨x3, y3, rfl, f, kk⟩; have F3 := Lib.hid f; clear f; have B13 : Hid (Below w.heap.size w (w22.alloc (.cells #[.complex .f64 (x3 0) (y3 0), .complex .f64 (x3 1) (y3 1), .complex .f64 (x3 2) (y3 2), .complex .f64 (x3 3) (y3 3)] 26)) ∧ Arr 26 (w22.alloc (.cells #[.complex .f64 (x3 0) (y3 0), .complex .f64 (x3 1) (y3 1), .complex .f64 (x3 2) (y3 2), .complex .f64 (x3 3) (y3 3)] 26)) g1 #[.complex .f64 (x 0) (y 0), .complex .f64 (x 1) (y 1), .complex .f64 (x 2) (y 2), .complex .f64 (x 3) (y 3)] ∧ Arr 26 (w22.alloc (.cells #[.complex .f64 (x3 0) (y3 0), .complex .f64 (x3 1) (y3 1), .complex .f64 (x3 2) (y3 2), .complex .f64 (x3 3) (y3 3)] 26)) g9 #[.complex .f64 (x2 0) (y2 0), .complex .f64 (x2 1) (y2 1), .complex .f64 (x2 2) (y2 2), .complex .f64 (x2 3) (y2 3)] ∧ Arr 26 (w22.alloc (.cells #[.complex .f64 (x3 0) (y3 0), .complex .f64 (x3 1) (y3 1), .complex .f64 (x3 2) (y3 2), .complex .f64 (x3 3) (y3 3)] 26)) w22.heap.size #[.complex .f64 (x3 0) (y3 0), .complex .f64 (x3 1) (y3 1), .complex .f64 (x3 2) (y3 2), .complex .f64 (x3 3) (y3 3)]) := Lib.hid ⟨below_al (below_step (B12.out.1) kk) (.cells #[.complex .f64 (x3 0) (y3 0), .complex .f64 (x3 1) (y3 1), .complex .f64 (x3 2) (y3 2), .complex .f64 (x3 3) (y3 3)] 26), ((B12.out.2.1).step kk).al (.cells #[.complex .f64 (x3 0) (y3 0), .complex .f64 (x3 1) (y3 1), .complex .f64 (x3 2) (y3 2), .complex .f64 (x3 3) (y3 3)] 26), ((B12.out.2.2).step kk).al (.cells #[.complex .f64 (x3 0) (y3 0), .complex .f64 (x3 1) (y3 1), .complex .f64 (x3 2) (y3 2), .complex .f64 (x3 3) (y3 3)] 26), Arr.new _ _ _⟩; clear kk; (try skip))
      generalize w22.alloc (.cells #[.complex .f64 (x3 0) (y3 0), .complex .f64 (x3 1) (y3 1), .complex .f64 (x3 2) (y3 2), .complex .f64 (x3 3) (y3 3)] 26) = V13 at B13 ⊢
      generalize w22.heap.size = g13 at B13 ⊢
      clear B12
      obtain ⟨⟨p0, p1, p2, p3⟩, -⟩ := (B13.out.2.2.2).four
      obtain ⟨⟨q0, q1, q2, q3⟩, -⟩ := (B13.out.2.2.1).four
      go_upto_region 22 with (go_at_call 16; refine (Join0_any x3 y3 x2 y2 cw cm _ F3.out F2.out (by decide) (by decide)).mono ?_; rintro e w23 ⟨u4, v4, e4, rfl, hR, kk⟩; obtain rfl : e4 = 3 := (by rcases hR with ⟨h, _⟩ | ⟨_, h, _⟩; exact absurd h (by decide); exact h); clear hR; have B14 : Hid (Below w.heap.size w (w23.alloc (.cells #[.complex .f64 (u4 0) (v4 0), .complex .f64 (u4 1) (v4 1), .complex .f64 (u4 2) (v4 2), .complex .f64 (u4 3) (v4 3)] 26)) ∧ Arr 26 (w23.alloc (.cells #[.complex .f64 (u4 0) (v4 0), .complex .f64 (u4 1) (v4 1), .complex .f64 (u4 2) (v4 2), .complex .f64 (u4 3) (v4 3)] 26)) g1 #[.complex .f64 (x 0) (y 0), .complex .f64 (x 1) (y 1), .complex .f64 (x 2) (y 2), .complex .f64 (x 3) (y 3)] ∧ Arr 26 (w23.alloc (.cells #[.complex .f64 (u4 0) (v4 0), .complex .f64 (u4 1) (v4 1), .complex .f64 (u4 2) (v4 2), .complex .f64 (u4 3) (v4 3)] 26)) g9 #[.complex .f64 (x2 0) (y2 0), .complex .f64 (x2 1) (y2 1), .complex .f64 (x2 2) (y2 2), .complex .f64 (x2 3) (y2 3)]) := Lib.hid ⟨below_al (below_step (B13.out.1) kk) (.cells #[.complex .f64 (u4 0) (v4 0), .complex .f64 (u4 1) (v4 1), .complex .f64 (u4 2) (v4 2), .complex .f64 (u4 3) (v4 3)] 26), ((B13.out.2.1).step kk).al (.cells #[.complex .f64 (u4 0) (v4 0), .complex .f64 (u4 1) (v4 1), .complex .f64 (u4 2) (v4 2), .complex .f64 (u4 3) (v4 3)] 26), ((B13.out.2.2.1).step kk).al (.cells #[.complex .f64 (u4 0) (v4 0), .complex .f64 (u4 1) (v4 1), .complex .f64 (u4 2) (v4 2), .complex .f64 (u4 3) (v4 3)] 26)⟩; clear kk; (try skip))
      generalize w23.alloc (.cells #[.complex .f64 (u4 0) (v4 0), .complex .f64 (u4 1) (v4 1), .complex .f64 (u4 2) (v4 2), .complex .f64 (u4 3) (v4 3)] 26) = V14 at B14 ⊢
      generalize w23.heap.size = g14
      clear B13
      clear p0 p1 p2 p3
      clear q0 q1 q2 q3
      obtain ⟨⟨l0, l1, l2, l3⟩, -⟩ := (B14.out.2.1).four
      have B15 : Hid ((Below w.heap.size w (V14.alloc (.cells #[.complex .f64 (x 0) (y 0), .complex .f64 (x 1) (y 1), .complex .f64 (x 2) (y 2), .complex .f64 (x 3) (y 3)] 26)) ∧ Arr 26 (V14.alloc (.cells #[.complex .f64 (x 0) (y 0), .complex .f64 (x 1) (y 1), .complex .f64 (x 2) (y 2), .complex .f64 (x 3) (y 3)] 26)) g1 #[.complex .f64 (x 0) (y 0), .complex .f64 (x 1) (y 1), .complex .f64 (x 2) (y 2), .complex .f64 (x 3) (y 3)] ∧ Arr 26 (V14.alloc (.cells #[.complex .f64 (x 0) (y 0), .complex .f64 (x 1) (y 1), .complex .f64 (x 2) (y 2), .complex .f64 (x 3) (y 3)] 26)) g9 #[.complex .f64 (x2 0) (y2 0), .complex .f64 (x2 1) (y2 1), .complex .f64 (x2 2) (y2 2), .complex .f64 (x2 3) (y2 3)] ∧ Arr 26 (V14.alloc (.cells #[.complex .f64 (x 0) (y 0), .complex .f64 (x 1) (y 1), .complex .f64 (x 2) (y 2), .complex .f64 (x 3) (y 3)] 26)) V14.heap.size #[.complex .f64 (x 0) (y 0), .complex .f64 (x 1) (y 1), .complex .f64 (x 2) (y 2), .complex .f64 (x 3) (y 3)]) ∧ (g1 < V14.heap.size ∧ g9 < V14.heap.size)) := Lib.hid ⟨⟨below_al (B14.out.1) (.cells #[.complex .f64 (x 0) (y 0), .complex .f64 (x 1) (y 1), .complex .f64 (x 2) (y 2), .complex .f64 (x 3) (y 3)] 26), (B14.out.2.1).al (.cells #[.complex .f64 (x 0) (y 0), .complex .f64 (x 1) (y 1), .complex .f64 (x 2) (y 2), .complex .f64 (x 3) (y 3)] 26), (B14.out.2.2).al (.cells #[.complex .f64 (x 0) (y 0), .complex .f64 (x 1) (y 1), .complex .f64 (x 2) (y 2), .complex .f64 (x 3) (y 3)] 26), Arr.new _ _ _⟩, ⟨(B14.out.2.1).lt, (B14.out.2.2).lt⟩⟩
      have HLX : Hid (w.heap.size ≤ V14.heap.size) := Lib.hid (B14.out.1).size
      go_upto_region 25 with fail
      clear l0 l1 l2 l3
      generalize V14.alloc (.cells #[.complex .f64 (x 0) (y 0), .complex .f64 (x 1) (y 1), .complex .f64 (x 2) (y 2), .complex .f64 (x 3) (y 3)] 26) = V15 at B15 ⊢
      generalize V14.heap.size = g15 at B15 HLX ⊢
      have HNE := Lib.hid B15.out.2
      have B15x := Lib.hid B15.out.1
      clear B14 B15
      have B15 := Lib.hid B15x.out
      clear B15x
      obtain ⟨du, dv, r, s, hdef, hadd, hbad⟩ := defect F.out HZ.out j HJ.out.1 d HJ.out.2
      have HCB := Lib.hid hbad
      have hset := zc_set x y j r s HJ.out.1
      have ec := (B15.out.2.2.2.c j).trans (zc_get2 x y j HJ.out.1)
      have fc := B15.out.2.2.2.f j
      clear hbad
      have hdl : ∀ W : World, (W.alloc (.cells defects 25)).cell? ⟨W.heap.size, d, none⟩ = some (.complex .f64 du dv) := fun W => ((Arr.new 25 W defects).c d).trans hdef
      have ec2 : ∀ o : Obj, (V15.alloc o).cell? ⟨g15, j, none⟩ = some (.complex .f64 (x j) (y j)) := fun o => ((B15.out.2.2.2.al o).c j).trans (zc_get2 x y j HJ.out.1)
      have fc2 : ∀ o : Obj, (V15.alloc o).frozen? ⟨g15, j, none⟩ = false := fun o => (B15.out.2.2.2.al o).f j
      go_region
      have B16 : Hid (Below w.heap.size w (V15.alloc (.cells #[.complex .f64 4607182418800017408 0, .complex .f64 0 4607182418800017408, .complex .f64 13830554455654793216 0, .complex .f64 4602678819172646912 0, .complex .f64 0 4611686018427387904, .complex .f64 13835058055282163712 0] 25)) ∧ Arr 26 (V15.alloc (.cells #[.complex .f64 4607182418800017408 0, .complex .f64 0 4607182418800017408, .complex .f64 13830554455654793216 0, .complex .f64 4602678819172646912 0, .complex .f64 0 4611686018427387904, .complex .f64 13835058055282163712 0] 25)) g1 #[.complex .f64 (x 0) (y 0), .complex .f64 (x 1) (y 1), .complex .f64 (x 2) (y 2), .complex .f64 (x 3) (y 3)] ∧ Arr 26 (V15.alloc (.cells #[.complex .f64 4607182418800017408 0, .complex .f64 0 4607182418800017408, .complex .f64 13830554455654793216 0, .complex .f64 4602678819172646912 0, .complex .f64 0 4611686018427387904, .complex .f64 13835058055282163712 0] 25)) g9 #[.complex .f64 (x2 0) (y2 0), .complex .f64 (x2 1) (y2 1), .complex .f64 (x2 2) (y2 2), .complex .f64 (x2 3) (y2 3)] ∧ Arr 26 (V15.alloc (.cells #[.complex .f64 4607182418800017408 0, .complex .f64 0 4607182418800017408, .complex .f64 13830554455654793216 0, .complex .f64 4602678819172646912 0, .complex .f64 0 4611686018427387904, .complex .f64 13835058055282163712 0] 25)) g15 #[.complex .f64 (x 0) (y 0), .complex .f64 (x 1) (y 1), .complex .f64 (x 2) (y 2), .complex .f64 (x 3) (y 3)]) := Lib.hid ⟨below_al (B15.out.1) (.cells #[.complex .f64 4607182418800017408 0, .complex .f64 0 4607182418800017408, .complex .f64 13830554455654793216 0, .complex .f64 4602678819172646912 0, .complex .f64 0 4611686018427387904, .complex .f64 13835058055282163712 0] 25), (B15.out.2.1).al (.cells #[.complex .f64 4607182418800017408 0, .complex .f64 0 4607182418800017408, .complex .f64 13830554455654793216 0, .complex .f64 4602678819172646912 0, .complex .f64 0 4611686018427387904, .complex .f64 13835058055282163712 0] 25), (B15.out.2.2.1).al (.cells #[.complex .f64 4607182418800017408 0, .complex .f64 0 4607182418800017408, .complex .f64 13830554455654793216 0, .complex .f64 4602678819172646912 0, .complex .f64 0 4611686018427387904, .complex .f64 13835058055282163712 0] 25), (B15.out.2.2.2).al (.cells #[.complex .f64 4607182418800017408 0, .complex .f64 0 4607182418800017408, .complex .f64 13830554455654793216 0, .complex .f64 4602678819172646912 0, .complex .f64 0 4611686018427387904, .complex .f64 13835058055282163712 0] 25)⟩
      clear B15
      have B17 : Hid (Below w.heap.size w (((V15.alloc (.cells #[.complex .f64 4607182418800017408 0, .complex .f64 0 4607182418800017408, .complex .f64 13830554455654793216 0, .complex .f64 4602678819172646912 0, .complex .f64 0 4611686018427387904, .complex .f64 13835058055282163712 0] 25)).setCell ⟨g15, j, none⟩ (.complex .f64 r s)).drew) ∧ Arr 26 (((V15.alloc (.cells #[.complex .f64 4607182418800017408 0, .complex .f64 0 4607182418800017408, .complex .f64 13830554455654793216 0, .complex .f64 4602678819172646912 0, .complex .f64 0 4611686018427387904, .complex .f64 13835058055282163712 0] 25)).setCell ⟨g15, j, none⟩ (.complex .f64 r s)).drew) g1 #[.complex .f64 (x 0) (y 0), .complex .f64 (x 1) (y 1), .complex .f64 (x 2) (y 2), .complex .f64 (x 3) (y 3)] ∧ Arr 26 (((V15.alloc (.cells #[.complex .f64 4607182418800017408 0, .complex .f64 0 4607182418800017408, .complex .f64 13830554455654793216 0, .complex .f64 4602678819172646912 0, .complex .f64 0 4611686018427387904, .complex .f64 13835058055282163712 0] 25)).setCell ⟨g15, j, none⟩ (.complex .f64 r s)).drew) g9 #[.complex .f64 (x2 0) (y2 0), .complex .f64 (x2 1) (y2 1), .complex .f64 (x2 2) (y2 2), .complex .f64 (x2 3) (y2 3)] ∧ Arr 26 (((V15.alloc (.cells #[.complex .f64 4607182418800017408 0, .complex .f64 0 4607182418800017408, .complex .f64 13830554455654793216 0, .complex .f64 4602678819172646912 0, .complex .f64 0 4611686018427387904, .complex .f64 13835058055282163712 0] 25)).setCell ⟨g15, j, none⟩ (.complex .f64 r s)).drew) g15 #[.complex .f64 ((updn x j r) 0) ((updn y j s) 0), .complex .f64 ((updn x j r) 1) ((updn y j s) 1), .complex .f64 ((updn x j r) 2) ((updn y j s) 2), .complex .f64 ((updn x j r) 3) ((updn y j s) 3)]) := Lib.hid ⟨((B16.out.1).setCell (show w.heap.size ≤ (⟨g15, j, none⟩ : Addr).block from HLX.out) (.complex .f64 r s)).drew, (B16.out.2.1).other (k := j) (.complex .f64 r s) (Nat.ne_of_lt (HNE.out.1)), (B16.out.2.2.1).other (k := j) (.complex .f64 r s) (Nat.ne_of_lt (HNE.out.2)), (by rw [← hset]; exact (B16.out.2.2.2).set j (.complex .f64 r s))⟩
      generalize ((V15.alloc (.cells #[.complex .f64 4607182418800017408 0, .complex .f64 0 4607182418800017408, .complex .f64 13830554455654793216 0, .complex .f64 4602678819172646912 0, .complex .f64 0 4611686018427387904, .complex .f64 13835058055282163712 0] 25)).setCell ⟨g15, j, none⟩ (.complex .f64 r s)).drew = V17 at B17 ⊢
      clear B16 HNE HLX
      clear hset ec fc hdl ec2 fc2 hdef hadd
      obtain ⟨xb, hxb⟩ : ∃ f, updn x j r = f := ⟨_, rfl⟩
      obtain ⟨yb, hyb⟩ : ∃ f, updn y j s = f := ⟨_, rfl⟩
      rw [hxb, hyb] at HCB B17
      clear hxb hyb
      have SMB : Hid (Sm xb yb 400) := Lib.hid (Sm.bad HCB.out)
      obtain ⟨⟨p0, p1, p2, p3⟩, -⟩ := (B17.out.2.2.2).four
      go_upto_region 27 with (go_at_call 23; refine (HCB.out _).mono ?_; rintro e w27 ⟨rfl, kk⟩; have B18 : Hid (Below w.heap.size w (w27.alloc (.cells #[.int .i64 0, .int .i64 0, .int .i64 0, .int .i64 0] 40)) ∧ Arr 26 (w27.alloc (.cells #[.int .i64 0, .int .i64 0, .int .i64 0, .int .i64 0] 40)) g1 #[.complex .f64 (x 0) (y 0), .complex .f64 (x 1) (y 1), .complex .f64 (x 2) (y 2), .complex .f64 (x 3) (y 3)] ∧ Arr 26 (w27.alloc (.cells #[.int .i64 0, .int .i64 0, .int .i64 0, .int .i64 0] 40)) g9 #[.complex .f64 (x2 0) (y2 0), .complex .f64 (x2 1) (y2 1), .complex .f64 (x2 2) (y2 2), .complex .f64 (x2 3) (y2 3)] ∧ Arr 26 (w27.alloc (.cells #[.int .i64 0, .int .i64 0, .int .i64 0, .int .i64 0] 40)) g15 #[.complex .f64 (xb 0) (yb 0), .complex .f64 (xb 1) (yb 1), .complex .f64 (xb 2) (yb 2), .complex .f64 (xb 3) (yb 3)]) := Lib.hid ⟨below_al (below_step (B17.out.1) kk) (.cells #[.int .i64 0, .int .i64 0, .int .i64 0, .int .i64 0] 40), ((B17.out.2.1).step kk).al (.cells #[.int .i64 0, .int .i64 0, .int .i64 0, .int .i64 0] 40), ((B17.out.2.2.1).step kk).al (.cells #[.int .i64 0, .int .i64 0, .int .i64 0, .int .i64 0] 40), ((B17.out.2.2.2).step kk).al (.cells #[.int .i64 0, .int .i64 0, .int .i64 0, .int .i64 0] 40)⟩; clear kk; (try skip))
      generalize w27.alloc (.cells #[.int .i64 0, .int .i64 0, .int .i64 0, .int .i64 0] 40) = V18 at B18 ⊢
      generalize w27.heap.size = g18
      clear B17
      clear p0 p1 p2 p3
      obtain ⟨⟨p0, p1, p2, p3⟩, -⟩ := (B18.out.2.2.2).four
      go_upto_region 28 with (go_at_call 18; refine (Shift_bad xb yb (fun _ => 0) n HCB.out _).mono ?_; rintro e w28 ⟨rfl, kk⟩; have B19 : Hid (Below w.heap.size w (w28.alloc (.cells #[.complex .f64 0 0, .complex .f64 0 0, .complex .f64 0 0, .complex .f64 0 0] 26)) ∧ Arr 26 (w28.alloc (.cells #[.complex .f64 0 0, .complex .f64 0 0, .complex .f64 0 0, .complex .f64 0 0] 26)) g1 #[.complex .f64 (x 0) (y 0), .complex .f64 (x 1) (y 1), .complex .f64 (x 2) (y 2), .complex .f64 (x 3) (y 3)] ∧ Arr 26 (w28.alloc (.cells #[.complex .f64 0 0, .complex .f64 0 0, .complex .f64 0 0, .complex .f64 0 0] 26)) g9 #[.complex .f64 (x2 0) (y2 0), .complex .f64 (x2 1) (y2 1), .complex .f64 (x2 2) (y2 2), .complex .f64 (x2 3) (y2 3)] ∧ Arr 26 (w28.alloc (.cells #[.complex .f64 0 0, .complex .f64 0 0, .complex .f64 0 0, .complex .f64 0 0] 26)) g15 #[.complex .f64 (xb 0) (yb 0), .complex .f64 (xb 1) (yb 1), .complex .f64 (xb 2) (yb 2), .complex .f64 (xb 3) (yb 3)]) := Lib.hid ⟨below_al (below_step (B18.out.1) kk) (.cells #[.complex .f64 0 0, .complex .f64 0 0, .complex .f64 0 0, .complex .f64 0 0] 26), ((B18.out.2.1).step kk).al (.cells #[.complex .f64 0 0, .complex .f64 0 0, .complex .f64 0 0, .complex .f64 0 0] 26), ((B18.out.2.2.1).step kk).al (.cells #[.complex .f64 0 0, .complex .f64 0 0, .complex .f64 0 0, .complex .f64 0 0] 26), ((B18.out.2.2.2).step kk).al (.cells #[.complex .f64 0 0, .complex .f64 0 0, .complex .f64 0 0, .complex .f64 0 0] 26)⟩; clear kk; (try skip))
      generalize w28.alloc (.cells #[.complex .f64 0 0, .complex .f64 0 0, .complex .f64 0 0, .complex .f64 0 0] 26) = V19 at B19 ⊢
      generalize w28.heap.size = g19
      clear B18
      clear p0 p1 p2 p3
      obtain ⟨⟨p0, p1, p2, p3⟩, -⟩ := (B19.out.2.2.2).four
      obtain ⟨⟨q0, q1, q2, q3⟩, -⟩ := (B19.out.2.2.1).four
      go_upto_region 29 with (go_at_call 16; refine (Join_bad2 x2 y2 xb yb cm (fun _ => 0) (-1) 400 400 (Cl.right F2.out (by decide)) HCB.out (.inl ⟨rfl, rfl⟩) _).mono ?_; rintro e w29 ⟨rfl, kk⟩; have B20 : Hid (Below w.heap.size w (w29.alloc (.cells #[.complex .f64 0 0, .complex .f64 0 0, .complex .f64 0 0, .complex .f64 0 0] 26)) ∧ Arr 26 (w29.alloc (.cells #[.complex .f64 0 0, .complex .f64 0 0, .complex .f64 0 0, .complex .f64 0 0] 26)) g1 #[.complex .f64 (x 0) (y 0), .complex .f64 (x 1) (y 1), .complex .f64 (x 2) (y 2), .complex .f64 (x 3) (y 3)] ∧ Arr 26 (w29.alloc (.cells #[.complex .f64 0 0, .complex .f64 0 0, .complex .f64 0 0, .complex .f64 0 0] 26)) g9 #[.complex .f64 (x2 0) (y2 0), .complex .f64 (x2 1) (y2 1), .complex .f64 (x2 2) (y2 2), .complex .f64 (x2 3) (y2 3)] ∧ Arr 26 (w29.alloc (.cells #[.complex .f64 0 0, .complex .f64 0 0, .complex .f64 0 0, .complex .f64 0 0] 26)) g15 #[.complex .f64 (xb 0) (yb 0), .complex .f64 (xb 1) (yb 1), .complex .f64 (xb 2) (yb 2), .complex .f64 (xb 3) (yb 3)]) := Lib.hid ⟨below_al (below_step (B19.out.1) kk) (.cells #[.complex .f64 0 0, .complex .f64 0 0, .complex .f64 0 0, .complex .f64 0 0] 26), ((B19.out.2.1).step kk).al (.cells #[.complex .f64 0 0, .complex .f64 0 0, .complex .f64 0 0, .complex .f64 0 0] 26), ((B19.out.2.2.1).step kk).al (.cells #[.complex .f64 0 0, .complex .f64 0 0, .complex .f64 0 0, .complex .f64 0 0] 26), ((B19.out.2.2.2).step kk).al (.cells #[.complex .f64 0 0, .complex .f64 0 0, .complex .f64 0 0, .complex .f64 0 0] 26)⟩; clear kk; (try skip))
      generalize w29.alloc (.cells #[.complex .f64 0 0, .complex .f64 0 0, .complex .f64 0 0, .complex .f64 0 0] 26) = V20 at B20 ⊢
      generalize w29.heap.size = g20
      clear B19
      clear p0 p1 p2 p3
      clear q0 q1 q2 q3
      obtain ⟨⟨p0, p1, p2, p3⟩, -⟩ := (B20.out.2.2.2).four
      obtain ⟨⟨q0, q1, q2, q3⟩, -⟩ := (B20.out.2.2.1).four
      go_upto_region 30 with (go_at_call 20; refine (Times_err x2 y2 xb yb 2 400 400 SMZ.out.2 SMB.out (.inl ⟨rfl, rfl⟩) _).mono ?_; rintro e w30 ⟨rfl, kk⟩; have B21 : Hid (Below w.heap.size w (w30.alloc (.cells #[.complex .f64 0 0, .complex .f64 0 0, .complex .f64 0 0, .complex .f64 0 0] 26)) ∧ Arr 26 (w30.alloc (.cells #[.complex .f64 0 0, .complex .f64 0 0, .complex .f64 0 0, .complex .f64 0 0] 26)) g1 #[.complex .f64 (x 0) (y 0), .complex .f64 (x 1) (y 1), .complex .f64 (x 2) (y 2), .complex .f64 (x 3) (y 3)] ∧ Arr 26 (w30.alloc (.cells #[.complex .f64 0 0, .complex .f64 0 0, .complex .f64 0 0, .complex .f64 0 0] 26)) g9 #[.complex .f64 (x2 0) (y2 0), .complex .f64 (x2 1) (y2 1), .complex .f64 (x2 2) (y2 2), .complex .f64 (x2 3) (y2 3)] ∧ Arr 26 (w30.alloc (.cells #[.complex .f64 0 0, .complex .f64 0 0, .complex .f64 0 0, .complex .f64 0 0] 26)) g15 #[.complex .f64 (xb 0) (yb 0), .complex .f64 (xb 1) (yb 1), .complex .f64 (xb 2) (yb 2), .complex .f64 (xb 3) (yb 3)]) := Lib.hid ⟨below_al (below_step (B20.out.1) kk) (.cells #[.complex .f64 0 0, .complex .f64 0 0, .complex .f64 0 0, .complex .f64 0 0] 26), ((B20.out.2.1).step kk).al (.cells #[.complex .f64 0 0, .complex .f64 0 0, .complex .f64 0 0, .complex .f64 0 0] 26), ((B20.out.2.2.1).step kk).al (.cells #[.complex .f64 0 0, .complex .f64 0 0, .complex .f64 0 0, .complex .f64 0 0] 26), ((B20.out.2.2.2).step kk).al (.cells #[.complex .f64 0 0, .complex .f64 0 0, .complex .f64 0 0, .complex .f64 0 0] 26)⟩; clear kk; (try skip))
      generalize w30.alloc (.cells #[.complex .f64 0 0, .complex .f64 0 0, .complex .f64 0 0, .complex .f64 0 0] 26) = V21 at B21 ⊢
      generalize w30.heap.size = g21
      clear B20
      clear p0 p1 p2 p3
      clear q0 q1 q2 q3
      obtain ⟨⟨p0, p1, p2, p3⟩, -⟩ := (B21.out.2.2.2).four
      go_upto_region 31 with (go_at_call 22; refine (Norms_bad xb yb 400 (.inr rfl) SMB.out _).mono ?_; rintro e w31 ⟨rfl, kk⟩; have B22 : Hid (Below w.heap.size w (w31.alloc (.cells #[.int .i64 0, .int .i64 0, .int .i64 0, .int .i64 0] 40)) ∧ Arr 26 (w31.alloc (.cells #[.int .i64 0, .int .i64 0, .int .i64 0, .int .i64 0] 40)) g1 #[.complex .f64 (x 0) (y 0), .complex .f64 (x 1) (y 1), .complex .f64 (x 2) (y 2), .complex .f64 (x 3) (y 3)] ∧ Arr 26 (w31.alloc (.cells #[.int .i64 0, .int .i64 0, .int .i64 0, .int .i64 0] 40)) g9 #[.complex .f64 (x2 0) (y2 0), .complex .f64 (x2 1) (y2 1), .complex .f64 (x2 2) (y2 2), .complex .f64 (x2 3) (y2 3)] ∧ Arr 26 (w31.alloc (.cells #[.int .i64 0, .int .i64 0, .int .i64 0, .int .i64 0] 40)) g15 #[.complex .f64 (xb 0) (yb 0), .complex .f64 (xb 1) (yb 1), .complex .f64 (xb 2) (yb 2), .complex .f64 (xb 3) (yb 3)]) := Lib.hid ⟨below_al (below_step (B21.out.1) kk) (.cells #[.int .i64 0, .int .i64 0, .int .i64 0, .int .i64 0] 40), ((B21.out.2.1).step kk).al (.cells #[.int .i64 0, .int .i64 0, .int .i64 0, .int .i64 0] 40), ((B21.out.2.2.1).step kk).al (.cells #[.int .i64 0, .int .i64 0, .int .i64 0, .int .i64 0] 40), ((B21.out.2.2.2).step kk).al (.cells #[.int .i64 0, .int .i64 0, .int .i64 0, .int .i64 0] 40)⟩; clear kk; (try skip))
      generalize w31.alloc (.cells #[.int .i64 0, .int .i64 0, .int .i64 0, .int .i64 0] 40) = V22 at B22 ⊢
      generalize w31.heap.size = g22
      clear B21
      clear p0 p1 p2 p3
      obtain ⟨⟨p0, p1, p2, p3⟩, -⟩ := (B22.out.2.2.2).four
      obtain ⟨⟨q0, q1, q2, q3⟩, -⟩ := (B22.out.2.2.1).four
      go_upto_region 32 with (go_at_call 20; refine (Times_err xb yb x2 y2 400 2 400 SMB.out SMZ.out.2 (.inr (.inr ⟨by decide, by decide, rfl⟩)) _).mono ?_; rintro e w32 ⟨rfl, kk⟩; have B23 : Hid (Below w.heap.size w (w32.alloc (.cells #[.complex .f64 0 0, .complex .f64 0 0, .complex .f64 0 0, .complex .f64 0 0] 26)) ∧ Arr 26 (w32.alloc (.cells #[.complex .f64 0 0, .complex .f64 0 0, .complex .f64 0 0, .complex .f64 0 0] 26)) g1 #[.complex .f64 (x 0) (y 0), .complex .f64 (x 1) (y 1), .complex .f64 (x 2) (y 2), .complex .f64 (x 3) (y 3)] ∧ Arr 26 (w32.alloc (.cells #[.complex .f64 0 0, .complex .f64 0 0, .complex .f64 0 0, .complex .f64 0 0] 26)) g9 #[.complex .f64 (x2 0) (y2 0), .complex .f64 (x2 1) (y2 1), .complex .f64 (x2 2) (y2 2), .complex .f64 (x2 3) (y2 3)] ∧ Arr 26 (w32.alloc (.cells #[.complex .f64 0 0, .complex .f64 0 0, .complex .f64 0 0, .complex .f64 0 0] 26)) g15 #[.complex .f64 (xb 0) (yb 0), .complex .f64 (xb 1) (yb 1), .complex .f64 (xb 2) (yb 2), .complex .f64 (xb 3) (yb 3)]) := Lib.hid ⟨below_al (below_step (B22.out.1) kk) (.cells #[.complex .f64 0 0, .complex .f64 0 0, .complex .f64 0 0, .complex .f64 0 0] 26), ((B22.out.2.1).step kk).al (.cells #[.complex .f64 0 0, .complex .f64 0 0, .complex .f64 0 0, .complex .f64 0 0] 26), ((B22.out.2.2.1).step kk).al (.cells #[.complex .f64 0 0, .complex .f64 0 0, .complex .f64 0 0, .complex .f64 0 0] 26), ((B22.out.2.2.2).step kk).al (.cells #[.complex .f64 0 0, .complex .f64 0 0, .complex .f64 0 0, .complex .f64 0 0] 26)⟩; clear kk; (try skip))
      generalize w32.alloc (.cells #[.complex .f64 0 0, .complex .f64 0 0, .complex .f64 0 0, .complex .f64 0 0] 26) = V23 at B23 ⊢
      generalize w32.heap.size = g23
      clear B22
      clear p0 p1 p2 p3
      clear q0 q1 q2 q3
      have BE : Hid (Below w.heap.size w (V23.alloc (.cells #[.int .i64 400, .int .i64 400, .int .i64 400, .int .i64 400, .int .i64 400, .int .i64 400] 27)) ∧ Arr 27 (V23.alloc (.cells #[.int .i64 400, .int .i64 400, .int .i64 400, .int .i64 400, .int .i64 400, .int .i64 400] 27)) V23.heap.size #[.int .i64 400, .int .i64 400, .int .i64 400, .int .i64 400, .int .i64 400, .int .i64 400]) := Lib.hid ⟨below_al (B23.out.1) (.cells #[.int .i64 400, .int .i64 400, .int .i64 400, .int .i64 400, .int .i64 400, .int .i64 400] 27), Arr.new _ _ _⟩
      clear B23
      go_upto_region 33 with fail
      generalize V23.alloc (.cells #[.int .i64 400, .int .i64 400, .int .i64 400, .int .i64 400, .int .i64 400, .int .i64 400] 27) = VE at BE ⊢
      generalize V23.heap.size = ge at BE ⊢
      go_loopw [214] (fun iv wr => ∃ k : Nat, Hid (k ≤ 6) ∧ iv = .int .i64 (k : Int) ∧ Hid (Below w.heap.size w wr ∧ Arr 27 wr ge #[.int .i64 400, .int .i64 400, .int .i64 400, .int .i64 400, .int .i64 400, .int .i64 400])) (fun iv _ => 6 - (intOf iv).toNat)
      case atStart => exact ⟨0, Lib.hid (Nat.zero_le _), rfl, BE⟩
      case round =>
        clear BE
        obtain ⟨k, HK, rfl, BE⟩ := hrel
        by_cases hlt : k < 6
        · have d0 : decide ((k : Int) < 6) = true := decide_eq_true (Int.ofNat_lt.2 hlt)
          have d0' : decide (k < 6) = true := decide_eq_true hlt
          have hk6 : (k : Int) < 6 := Int.ofNat_lt.2 hlt
          have e0 : wr.cell? ⟨ge, k, none⟩ = some (.int .i64 400) := (BE.out.2.c k).trans (by rcases (show k = 0 ∨ k = 1 ∨ k = 2 ∨ k = 3 ∨ k = 4 ∨ k = 5 by clear hj1 hd1 hq1; omega) with rfl | rfl | rfl | rfl | rfl | rfl <;> rfl)
          have HLT := Lib.hid hlt
          clear hlt
          go_wp2_with fail
          go_roundw
          case rel => exact ⟨k + 1, Lib.hid HLT.out, by go_num, BE⟩
          case measure => have h1 := HLT.out; clear hj1 hd1 hq1; simp [intOf]; omega
        · obtain rfl : k = 6 := Nat.le_antisymm HK.out (Nat.not_lt.1 hlt)
          clear hlt HK
          go_wp2_with fail
          go_ret
          exact ⟨rfl, BE.out.1⟩
end Go.Proofs.Ythidfmkmklnhhaa
