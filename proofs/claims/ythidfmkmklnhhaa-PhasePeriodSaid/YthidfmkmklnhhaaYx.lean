/- Walks: PhaseShifts. Printed by gen_yx.py. -/
import Derived.Test.YthidfmkmklnhhaaProg
import Derived.Test.YthidfmkmklnhhaaYs
import Derived.Deep.DeepCutAuto
import Derived.Deep.RegionHeld3
namespace Go.Proofs.Ythidfmkmklnhhaa
open Go.RowKit
set_option linter.unusedVariables false

theorem app_get (k : Nat) (l : List Int) (m : Nat) : (List.replicate k (0 : Int) ++ l).getD (k + m) 0 = l.getD m 0 := by
  rw [List.getD_eq_getElem?_getD, List.getD_eq_getElem?_getD, List.getElem?_append_right (by simp)]
  simp
theorem app_zero (k : Nat) (l : List Int) (j : Nat) (h : j < k) : (List.replicate k (0 : Int) ++ l).getD j 0 = 0 := by
  rw [List.getD_eq_getElem?_getD, List.getElem?_append_left (by simpa using h)]
  simp [h]
theorem cs_zeros (k : Nat) (l : List Int) (r : Nat) : ∀ j, j ≤ k → cs (List.replicate k (0 : Int) ++ l) j r = 0 := by
  intro j
  induction j with
  | zero => intro _; rfl
  | succ j ih =>
    intro h
    show cs _ j r + (if j % 4 = r then (List.replicate k (0 : Int) ++ l).getD j 0 else 0) = 0
    rw [ih (by omega), app_zero k l j (by omega)]
    split <;> rfl
theorem cs_app (k : Nat) (l : List Int) (r : Nat) (hr : r < 4) : ∀ m, cs (List.replicate k (0 : Int) ++ l) (k + m) r = shc (cs l m) (k % 4) r := by
  intro m
  induction m with
  | zero => rw [Nat.add_zero, cs_zeros k l r k (Nat.le_refl _)]; rfl
  | succ m ih =>
    show cs _ (k + m) r + (if (k + m) % 4 = r then (List.replicate k (0 : Int) ++ l).getD (k + m) 0 else 0) = cs l m ((r + 4 - k % 4) % 4) + (if m % 4 = (r + 4 - k % 4) % 4 then l.getD m 0 else 0)
    rw [ih, app_get]
    show cs l m ((r + 4 - k % 4) % 4) + _ = _
    by_cases h : (k + m) % 4 = r
    · rw [if_pos h, if_pos (by omega)]
    · rw [if_neg h, if_neg (by omega)]
theorem shc_shc (c : Nat → Int) (a b : Nat) (ha : a < 4) (hb : b < 4) (d : Nat) (hd : d = (a + b) % 4) : ∀ r < 4, shc (shc c a) b r = shc c d r := by
  intro r hr
  subst hd
  unfold shc
  congr 1
  omega
theorem shc_zero (c : Nat → Int) : ∀ r < 4, shc c 0 r = c r := fun r hr => by unfold shc; congr 1; omega
theorem mod4_add (n m : Int) : (((n + m) % 4).toNat) = ((n % 4).toNat + (m % 4).toNat) % 4 := by omega
theorem mod4_neg (n : Int) : 0 = ((n % 4).toNat + ((-n) % 4).toNat) % 4 := by omega
set_option maxRecDepth 20000 in
theorem Pick1000_any (x : Int) (w : World) (hx : -9223372036854775808 ≤ x ∧ x ≤ 9223372036854775807) :
    Calls Try.prog 19 #[.int .i64 x, .int .i64 1000] w fun e w' => ∃ p : Int, e = .returned (.int .i64 p) ∧ (0 ≤ p ∧ p < 1000) ∧ Below w.heap.size w w' := by
  obtain ⟨t, ht⟩ : ∃ t, x.tmod 1000 = t := ⟨_, rfl⟩
  have h1 := Int.tmod_lt_of_pos x (show (0 : Int) < 1000 by decide)
  have h2 := Int.lt_tmod_of_pos x (show (0 : Int) < 1000 by decide)
  rw [ht] at h1 h2
  have hwt : IntKind.i64.wrap t = t := IntWalk.i64_in _ (by omega)
  by_cases h : t < 0
  · have d : decide (t < 0) = true := decide_eq_true h
    have hw : wrap64 (t + 1000) = t + 1000 := IntWalk.wrap64_in _ (by omega)
    have hw2 : IntKind.i64.wrap (t + 1000) = t + 1000 := IntWalk.i64_in _ (by omega)
    have H := Lib.hid (show 0 ≤ t + 1000 ∧ t + 1000 < 1000 by omega)
    clear h h1 h2 hx
    go_enter Try.func19, Try.ntmps19
    go_wp2
    go_ret
    exact ⟨_, rfl, H.out, Below.refl _ _⟩
  · have d : decide (t < 0) = false := decide_eq_false h
    have H := Lib.hid (show 0 ≤ t ∧ t < 1000 by omega)
    clear h h1 h2 hx
    go_enter Try.func19, Try.ntmps19
    go_wp2
    go_ret
    exact ⟨_, rfl, H.out, Below.refl _ _⟩
theorem keepV {V w2 : World} {b : Nat} {x y : Nat → Nat} (hb : b < V.heap.size) (ha : Arr 26 V b #[.complex .f64 (x 0) (y 0), .complex .f64 (x 1) (y 1), .complex .f64 (x 2) (y 2), .complex .f64 (x 3) (y 3)]) (h2 : Below V.heap.size V w2) : C4 b x y w2 ∧ Below V.heap.size V w2 := ⟨(ha.keep h2 hb).four.1, h2⟩
theorem Arr.newD (t : TypeId) (V : World) (cs : Array Value) : Arr t (V.alloc (.cells cs t)).drew V.heap.size cs := Arr.new t V cs
theorem below_alV {V W : World} (h : Below V.heap.size V W) (o : Obj) : Below V.heap.size V (W.alloc o) := h.alloc h.size _
set_option maxRecDepth 20000 in
set_option maxHeartbeats 4000000 in
theorem PhaseShifts_any (A : Option Addr) (n0 c0 : Nat) (l0 : List Int) (z : Nat) (n m : Int) (w : World) (hs : Sees w 1 A n0 c0 (l0.map (Value.int .i64))) (hz : z < 256) (hn : -9223372036854775808 ≤ n ∧ n ≤ 9223372036854775807) (hm : -9223372036854775808 ≤ m ∧ m ≤ 9223372036854775807) :
    Calls Try.prog 4 #[.slice A n0 c0, .int .u8 (z : Int), .int .i64 n, .int .i64 m] w fun e w' => e = .returned (.bool true) ∧ Below w.heap.size w w' := by
  have hst := st_c
  have HS := Lib.hid hs
  obtain ⟨k, hk⟩ : ∃ k, z % 21 = k := ⟨_, rfl⟩
  have hkz : (z : Int).tmod 21 = (k : Int) := by rw [Int.tmod_eq_emod_of_nonneg (by omega)]; omega
  have hk20 : (k : Int) ≤ 20 := by omega
  have hwz : wrap64 (z : Int) = (z : Int) := IntWalk.wrap64_in _ (by omega)
  have hwk : IntKind.i64.wrap (k : Int) = (k : Int) := IntWalk.i64_in _ (by omega)
  have HK := Lib.hid (show k ≤ 20 by omega)
  have b1 := Int.tmod_lt_of_pos n (show (0 : Int) < 1152921504606846976 by decide)
  have b2 := Int.lt_tmod_of_pos n (show (0 : Int) < 1152921504606846976 by decide)
  have b3 := Int.tmod_lt_of_pos m (show (0 : Int) < 1152921504606846976 by decide)
  have b4 := Int.lt_tmod_of_pos m (show (0 : Int) < 1152921504606846976 by decide)
  obtain ⟨a, ha⟩ : ∃ a, n.tmod 1152921504606846976 = a := ⟨_, rfl⟩
  obtain ⟨b, hb⟩ : ∃ b, m.tmod 1152921504606846976 = b := ⟨_, rfl⟩
  rw [ha] at b1 b2
  rw [hb] at b3 b4
  have hwa : IntKind.i64.wrap a = a := IntWalk.i64_in _ (by omega)
  have hwb : IntKind.i64.wrap b = b := IntWalk.i64_in _ (by omega)
  have hwab : wrap64 (a + b) = a + b := IntWalk.wrap64_in _ (by omega)
  have hwab2 : IntKind.i64.wrap (a + b) = a + b := IntWalk.i64_in _ (by omega)
  have hwna : wrap64 (-a) = -a := IntWalk.wrap64_in _ (by omega)
  have hwna2 : IntKind.i64.wrap (-a) = -a := IntWalk.i64_in _ (by omega)
  have HAB := Lib.hid (show (-9223372036854775808 ≤ a ∧ a ≤ 9223372036854775807) ∧ (-9223372036854775808 ≤ b ∧ b ≤ 9223372036854775807) ∧ (-9223372036854775808 ≤ a + b ∧ a + b ≤ 9223372036854775807) ∧ (-9223372036854775808 ≤ -a ∧ -a ≤ 9223372036854775807) by omega)
  clear hs hk hz hn hm b1 b2 b3 b4
  go_enter Try.func4, Try.ntmps4
  go_upto_region 6 with (first
    | (go_at_call 14; have _q := K0; refine (row_any A n0 c0 l0 _ (HS.out.below K0.out (Nat.le_refl _))).mono ?_; rintro e w1 ⟨A1, c1, rfl, o1, k1⟩; have K1 := Lib.hid (below_step K0.out k1); have S1 := Lib.hid (sees_own o1); clear o1 k1)
    | (go_at_call 13; refine (awake_any _).mono ?_; rintro e w0 ⟨rfl, k0⟩; have K0 := Lib.hid k0; clear k0))
  clear K0 HS
  obtain ⟨nl, hnl⟩ : ∃ n, min n0 200 = n := ⟨_, rfl⟩
  rw [hnl] at S1
  have HLE : Hid (∀ x ∈ rw40 l0 nl, x.natAbs ≤ 1099511627776) := Lib.hid rw40_le
  rw [hnl]
  have HN := Lib.hid (show nl ≤ 200 by omega)
  clear hnl
  generalize rw40 l0 nl = l at S1 HLE
  have HZ : Hid (sz l nl ≤ 219902325555200) := Lib.hid (by have h1 := sz_le HLE.out nl; have h2 := HN.out; omega)
  have HZ2 : Hid (sz (List.replicate k 0 ++ l) (k + nl) ≤ 1125899906842624) := Lib.hid (by
    have h0 : ∀ x ∈ List.replicate k (0 : Int) ++ l, x.natAbs ≤ 1099511627776 := fun x hx => by
      rcases List.mem_append.1 hx with h | h
      · rw [List.eq_of_mem_replicate h]; decide
      · exact HLE.out x h
    have h1 := sz_le h0 (k + nl); have h2 := HN.out; have h3 := HK.out; omega)
  obtain ⟨C, hC⟩ : ∃ C, cs l nl = C := ⟨_, rfl⟩
  have HC := Lib.hid hC
  have HCZ : Hid (szc C ≤ 1125899906842624) := Lib.hid (by rw [← hC]; have h1 := szc_cs l nl; have h2 := HZ.out; omega)
  clear hC
  generalize hV0 : w1 = V0 at K1 S1 ⊢
  clear hV0
  have B0 : Hid (Below w.heap.size w V0 ∧ Sees V0 1 A1 nl c1 (l.map (Value.int .i64))) := Lib.hid ⟨K1.out, S1.out⟩
  clear K1 S1
  go_upto_region 7 with (go_at_call 15; refine (Of_right A1 nl c1 l C _ B0.out.2 (by have := HZ.out; omega) (fun r _ => by rw [HC.out])).mono ?_; rintro e w1 ⟨x, y, rfl, f, kk⟩; have Fz := Lib.hid f; have S1 : Hid (Sees (w1.alloc (.cells #[.complex .f64 (x 0) (y 0), .complex .f64 (x 1) (y 1), .complex .f64 (x 2) (y 2), .complex .f64 (x 3) (y 3)] 26)) 1 A1 nl c1 (l.map (Value.int .i64))) := Lib.hid ((B0.out.2.below kk (Nat.le_refl _)).below (below_al (Below.refl _ _) _) (Nat.le_refl _)); have B1 : Hid (Below w.heap.size w (w1.alloc (.cells #[.complex .f64 (x 0) (y 0), .complex .f64 (x 1) (y 1), .complex .f64 (x 2) (y 2), .complex .f64 (x 3) (y 3)] 26)) ∧ Arr 26 (w1.alloc (.cells #[.complex .f64 (x 0) (y 0), .complex .f64 (x 1) (y 1), .complex .f64 (x 2) (y 2), .complex .f64 (x 3) (y 3)] 26)) w1.heap.size #[.complex .f64 (x 0) (y 0), .complex .f64 (x 1) (y 1), .complex .f64 (x 2) (y 2), .complex .f64 (x 3) (y 3)]) := Lib.hid ⟨below_al (below_step B0.out.1 kk) _, Arr.new _ _ _⟩; clear f kk)
  generalize w1.alloc (.cells #[.complex .f64 (x 0) (y 0), .complex .f64 (x 1) (y 1), .complex .f64 (x 2) (y 2), .complex .f64 (x 3) (y 3)] 26) = V1 at B1 S1 ⊢
  generalize w1.heap.size = g1 at B1 ⊢
  clear B0
  go_upto_region 8 with (first
    | (go_at_call 15; have _q := OA; refine (Of_right A2 (k + nl) c2 (List.replicate k 0 ++ l) (shc C (k % 4)) _ (sees_own OA.out.1) HZ2.out (fun r hr => by rw [← HC.out]; exact cs_app k l r hr nl)).mono ?_; rintro e w4 ⟨xw, yw, rfl, f, kk⟩; have Fw := Lib.hid f; have B2 : Hid (Below w.heap.size w (w4.alloc (.cells #[.complex .f64 (xw 0) (yw 0), .complex .f64 (xw 1) (yw 1), .complex .f64 (xw 2) (yw 2), .complex .f64 (xw 3) (yw 3)] 26)) ∧ Arr 26 (w4.alloc (.cells #[.complex .f64 (xw 0) (yw 0), .complex .f64 (xw 1) (yw 1), .complex .f64 (xw 2) (yw 2), .complex .f64 (xw 3) (yw 3)] 26)) g1 #[.complex .f64 (x 0) (y 0), .complex .f64 (x 1) (y 1), .complex .f64 (x 2) (y 2), .complex .f64 (x 3) (y 3)] ∧ Arr 26 (w4.alloc (.cells #[.complex .f64 (xw 0) (yw 0), .complex .f64 (xw 1) (yw 1), .complex .f64 (xw 2) (yw 2), .complex .f64 (xw 3) (yw 3)] 26)) w4.heap.size #[.complex .f64 (xw 0) (yw 0), .complex .f64 (xw 1) (yw 1), .complex .f64 (xw 2) (yw 2), .complex .f64 (xw 3) (yw 3)]) := Lib.hid ⟨below_al (below_step (below_step B1.out.1 OA.out.2) kk) _, ((B1.out.2.step OA.out.2).step kk).al _, Arr.new _ _ _⟩; clear f kk)
    | (at_builtin; have _q := OM; refine wpList_app E_ii rfl _ _ rfl rfl (base := V1.heap.size) OM.out.1 rfl (S1.out.below OM.out.2 (Nat.le_refl _)) (ints1 _ _) (by have := HK.out; have := HN.out; simp [maxLen]; omega) (by have := HK.out; have := HN.out; omega) OM.out.2.size ?_; intro A2 c2 w3 ow gw bw; have OA : Hid (w3.ownsRow V1.heap.size 3 1 (.slice A2 (k + nl) c2) (k + nl) ((List.replicate k 0 ++ l).map (Value.int .i64)) ∧ Below V1.heap.size V1 w3) := Lib.hid ⟨by rw [List.map_append]; exact ow, OM.out.2.trans bw⟩; clear ow gw bw)
    | (at_make; refine wpList_mkF E_ii rfl _ _ rfl k rfl rfl (by rfl) (by rfl) (by have := HK.out; omega) (by have := HK.out; simp [maxLen]; omega) ?_; intro w2 hown1 hg1 hb1; have OM : Hid (w2.ownsRow V1.heap.size 3 1 (.slice (some ⟨V1.heap.size, 0, none⟩) k k) k ((List.replicate k 0).map (Value.int .i64)) ∧ Below V1.heap.size V1 w2) := Lib.hid ⟨hown1, hb1⟩; clear hown1 hg1 hb1))
  generalize w4.alloc (.cells #[.complex .f64 (xw 0) (yw 0), .complex .f64 (xw 1) (yw 1), .complex .f64 (xw 2) (yw 2), .complex .f64 (xw 3) (yw 3)] 26) = V2 at B2 ⊢
  generalize w4.heap.size = g2 at B2 ⊢
  clear B1 S1
  obtain ⟨⟨p0, p1, p2, p3⟩, -⟩ := (B2.out.2.1).four
  go_upto_region 9 with (go_at_call 18; refine (Shift_right x y C (k : Int) _ Fz.out (HCZ.out) (by have := HK.out; omega)).mono ?_; rintro e w12 ⟨xs, ys, rfl, f, kk⟩; have Fs := Lib.hid f; clear f; have B3 : Hid (Below w.heap.size w (w12.alloc (.cells #[.complex .f64 (xs 0) (ys 0), .complex .f64 (xs 1) (ys 1), .complex .f64 (xs 2) (ys 2), .complex .f64 (xs 3) (ys 3)] 26)) ∧ Arr 26 (w12.alloc (.cells #[.complex .f64 (xs 0) (ys 0), .complex .f64 (xs 1) (ys 1), .complex .f64 (xs 2) (ys 2), .complex .f64 (xs 3) (ys 3)] 26)) g1 #[.complex .f64 (x 0) (y 0), .complex .f64 (x 1) (y 1), .complex .f64 (x 2) (y 2), .complex .f64 (x 3) (y 3)] ∧ Arr 26 (w12.alloc (.cells #[.complex .f64 (xs 0) (ys 0), .complex .f64 (xs 1) (ys 1), .complex .f64 (xs 2) (ys 2), .complex .f64 (xs 3) (ys 3)] 26)) g2 #[.complex .f64 (xw 0) (yw 0), .complex .f64 (xw 1) (yw 1), .complex .f64 (xw 2) (yw 2), .complex .f64 (xw 3) (yw 3)] ∧ Arr 26 (w12.alloc (.cells #[.complex .f64 (xs 0) (ys 0), .complex .f64 (xs 1) (ys 1), .complex .f64 (xs 2) (ys 2), .complex .f64 (xs 3) (ys 3)] 26)) w12.heap.size #[.complex .f64 (xs 0) (ys 0), .complex .f64 (xs 1) (ys 1), .complex .f64 (xs 2) (ys 2), .complex .f64 (xs 3) (ys 3)]) := Lib.hid ⟨below_al (below_step (B2.out.1) kk) (.cells #[.complex .f64 (xs 0) (ys 0), .complex .f64 (xs 1) (ys 1), .complex .f64 (xs 2) (ys 2), .complex .f64 (xs 3) (ys 3)] 26), ((B2.out.2.1).step kk).al (.cells #[.complex .f64 (xs 0) (ys 0), .complex .f64 (xs 1) (ys 1), .complex .f64 (xs 2) (ys 2), .complex .f64 (xs 3) (ys 3)] 26), ((B2.out.2.2).step kk).al (.cells #[.complex .f64 (xs 0) (ys 0), .complex .f64 (xs 1) (ys 1), .complex .f64 (xs 2) (ys 2), .complex .f64 (xs 3) (ys 3)] 26), Arr.new _ _ _⟩; clear kk; (try skip))
  generalize w12.alloc (.cells #[.complex .f64 (xs 0) (ys 0), .complex .f64 (xs 1) (ys 1), .complex .f64 (xs 2) (ys 2), .complex .f64 (xs 3) (ys 3)] 26) = V3 at B3 ⊢
  generalize w12.heap.size = g3 at B3 ⊢
  clear B2
  clear p0 p1 p2 p3
  obtain ⟨⟨p0, p1, p2, p3⟩, -⟩ := (B3.out.2.1).four
  go_upto_region 10 with (go_at_call 18; refine (Shift_right x y C a _ Fz.out (HCZ.out) HAB.out.1).mono ?_; rintro e w13 ⟨xa, ya, rfl, f, kk⟩; have Fa := Lib.hid f; clear f; have B4 : Hid (Below w.heap.size w (w13.alloc (.cells #[.complex .f64 (xa 0) (ya 0), .complex .f64 (xa 1) (ya 1), .complex .f64 (xa 2) (ya 2), .complex .f64 (xa 3) (ya 3)] 26)) ∧ Arr 26 (w13.alloc (.cells #[.complex .f64 (xa 0) (ya 0), .complex .f64 (xa 1) (ya 1), .complex .f64 (xa 2) (ya 2), .complex .f64 (xa 3) (ya 3)] 26)) g1 #[.complex .f64 (x 0) (y 0), .complex .f64 (x 1) (y 1), .complex .f64 (x 2) (y 2), .complex .f64 (x 3) (y 3)] ∧ Arr 26 (w13.alloc (.cells #[.complex .f64 (xa 0) (ya 0), .complex .f64 (xa 1) (ya 1), .complex .f64 (xa 2) (ya 2), .complex .f64 (xa 3) (ya 3)] 26)) g2 #[.complex .f64 (xw 0) (yw 0), .complex .f64 (xw 1) (yw 1), .complex .f64 (xw 2) (yw 2), .complex .f64 (xw 3) (yw 3)] ∧ Arr 26 (w13.alloc (.cells #[.complex .f64 (xa 0) (ya 0), .complex .f64 (xa 1) (ya 1), .complex .f64 (xa 2) (ya 2), .complex .f64 (xa 3) (ya 3)] 26)) g3 #[.complex .f64 (xs 0) (ys 0), .complex .f64 (xs 1) (ys 1), .complex .f64 (xs 2) (ys 2), .complex .f64 (xs 3) (ys 3)] ∧ Arr 26 (w13.alloc (.cells #[.complex .f64 (xa 0) (ya 0), .complex .f64 (xa 1) (ya 1), .complex .f64 (xa 2) (ya 2), .complex .f64 (xa 3) (ya 3)] 26)) w13.heap.size #[.complex .f64 (xa 0) (ya 0), .complex .f64 (xa 1) (ya 1), .complex .f64 (xa 2) (ya 2), .complex .f64 (xa 3) (ya 3)]) := Lib.hid ⟨below_al (below_step (B3.out.1) kk) (.cells #[.complex .f64 (xa 0) (ya 0), .complex .f64 (xa 1) (ya 1), .complex .f64 (xa 2) (ya 2), .complex .f64 (xa 3) (ya 3)] 26), ((B3.out.2.1).step kk).al (.cells #[.complex .f64 (xa 0) (ya 0), .complex .f64 (xa 1) (ya 1), .complex .f64 (xa 2) (ya 2), .complex .f64 (xa 3) (ya 3)] 26), ((B3.out.2.2.1).step kk).al (.cells #[.complex .f64 (xa 0) (ya 0), .complex .f64 (xa 1) (ya 1), .complex .f64 (xa 2) (ya 2), .complex .f64 (xa 3) (ya 3)] 26), ((B3.out.2.2.2).step kk).al (.cells #[.complex .f64 (xa 0) (ya 0), .complex .f64 (xa 1) (ya 1), .complex .f64 (xa 2) (ya 2), .complex .f64 (xa 3) (ya 3)] 26), Arr.new _ _ _⟩; clear kk; (try skip))
  generalize w13.alloc (.cells #[.complex .f64 (xa 0) (ya 0), .complex .f64 (xa 1) (ya 1), .complex .f64 (xa 2) (ya 2), .complex .f64 (xa 3) (ya 3)] 26) = V4 at B4 ⊢
  generalize w13.heap.size = g4 at B4 ⊢
  clear B3
  clear p0 p1 p2 p3
  obtain ⟨⟨p0, p1, p2, p3⟩, -⟩ := (B4.out.2.2.2.2).four
  go_upto_region 11 with (go_at_call 18; refine (Shift_right xa ya (shc C (a % 4).toNat) b _ Fa.out (by rw [szc_shift C _ (by omega)]; exact HCZ.out) HAB.out.2.1).mono ?_; rintro e w14 ⟨xb, yb, rfl, f, kk⟩; have Fb := Lib.hid f; clear f; have B5 : Hid (Below w.heap.size w (w14.alloc (.cells #[.complex .f64 (xb 0) (yb 0), .complex .f64 (xb 1) (yb 1), .complex .f64 (xb 2) (yb 2), .complex .f64 (xb 3) (yb 3)] 26)) ∧ Arr 26 (w14.alloc (.cells #[.complex .f64 (xb 0) (yb 0), .complex .f64 (xb 1) (yb 1), .complex .f64 (xb 2) (yb 2), .complex .f64 (xb 3) (yb 3)] 26)) g1 #[.complex .f64 (x 0) (y 0), .complex .f64 (x 1) (y 1), .complex .f64 (x 2) (y 2), .complex .f64 (x 3) (y 3)] ∧ Arr 26 (w14.alloc (.cells #[.complex .f64 (xb 0) (yb 0), .complex .f64 (xb 1) (yb 1), .complex .f64 (xb 2) (yb 2), .complex .f64 (xb 3) (yb 3)] 26)) g2 #[.complex .f64 (xw 0) (yw 0), .complex .f64 (xw 1) (yw 1), .complex .f64 (xw 2) (yw 2), .complex .f64 (xw 3) (yw 3)] ∧ Arr 26 (w14.alloc (.cells #[.complex .f64 (xb 0) (yb 0), .complex .f64 (xb 1) (yb 1), .complex .f64 (xb 2) (yb 2), .complex .f64 (xb 3) (yb 3)] 26)) g3 #[.complex .f64 (xs 0) (ys 0), .complex .f64 (xs 1) (ys 1), .complex .f64 (xs 2) (ys 2), .complex .f64 (xs 3) (ys 3)] ∧ Arr 26 (w14.alloc (.cells #[.complex .f64 (xb 0) (yb 0), .complex .f64 (xb 1) (yb 1), .complex .f64 (xb 2) (yb 2), .complex .f64 (xb 3) (yb 3)] 26)) g4 #[.complex .f64 (xa 0) (ya 0), .complex .f64 (xa 1) (ya 1), .complex .f64 (xa 2) (ya 2), .complex .f64 (xa 3) (ya 3)] ∧ Arr 26 (w14.alloc (.cells #[.complex .f64 (xb 0) (yb 0), .complex .f64 (xb 1) (yb 1), .complex .f64 (xb 2) (yb 2), .complex .f64 (xb 3) (yb 3)] 26)) w14.heap.size #[.complex .f64 (xb 0) (yb 0), .complex .f64 (xb 1) (yb 1), .complex .f64 (xb 2) (yb 2), .complex .f64 (xb 3) (yb 3)]) := Lib.hid ⟨below_al (below_step (B4.out.1) kk) (.cells #[.complex .f64 (xb 0) (yb 0), .complex .f64 (xb 1) (yb 1), .complex .f64 (xb 2) (yb 2), .complex .f64 (xb 3) (yb 3)] 26), ((B4.out.2.1).step kk).al (.cells #[.complex .f64 (xb 0) (yb 0), .complex .f64 (xb 1) (yb 1), .complex .f64 (xb 2) (yb 2), .complex .f64 (xb 3) (yb 3)] 26), ((B4.out.2.2.1).step kk).al (.cells #[.complex .f64 (xb 0) (yb 0), .complex .f64 (xb 1) (yb 1), .complex .f64 (xb 2) (yb 2), .complex .f64 (xb 3) (yb 3)] 26), ((B4.out.2.2.2.1).step kk).al (.cells #[.complex .f64 (xb 0) (yb 0), .complex .f64 (xb 1) (yb 1), .complex .f64 (xb 2) (yb 2), .complex .f64 (xb 3) (yb 3)] 26), ((B4.out.2.2.2.2).step kk).al (.cells #[.complex .f64 (xb 0) (yb 0), .complex .f64 (xb 1) (yb 1), .complex .f64 (xb 2) (yb 2), .complex .f64 (xb 3) (yb 3)] 26), Arr.new _ _ _⟩; clear kk; (try skip))
  generalize w14.alloc (.cells #[.complex .f64 (xb 0) (yb 0), .complex .f64 (xb 1) (yb 1), .complex .f64 (xb 2) (yb 2), .complex .f64 (xb 3) (yb 3)] 26) = V5 at B5 ⊢
  generalize w14.heap.size = g5 at B5 ⊢
  clear B4
  clear p0 p1 p2 p3
  obtain ⟨⟨p0, p1, p2, p3⟩, -⟩ := (B5.out.2.1).four
  go_upto_region 12 with (go_at_call 18; refine (Shift_right x y C (a + b) _ Fz.out (HCZ.out) HAB.out.2.2.1).mono ?_; rintro e w15 ⟨xc, yc, rfl, f, kk⟩; have Fc := Lib.hid f; clear f; have B6 : Hid (Below w.heap.size w (w15.alloc (.cells #[.complex .f64 (xc 0) (yc 0), .complex .f64 (xc 1) (yc 1), .complex .f64 (xc 2) (yc 2), .complex .f64 (xc 3) (yc 3)] 26)) ∧ Arr 26 (w15.alloc (.cells #[.complex .f64 (xc 0) (yc 0), .complex .f64 (xc 1) (yc 1), .complex .f64 (xc 2) (yc 2), .complex .f64 (xc 3) (yc 3)] 26)) g1 #[.complex .f64 (x 0) (y 0), .complex .f64 (x 1) (y 1), .complex .f64 (x 2) (y 2), .complex .f64 (x 3) (y 3)] ∧ Arr 26 (w15.alloc (.cells #[.complex .f64 (xc 0) (yc 0), .complex .f64 (xc 1) (yc 1), .complex .f64 (xc 2) (yc 2), .complex .f64 (xc 3) (yc 3)] 26)) g2 #[.complex .f64 (xw 0) (yw 0), .complex .f64 (xw 1) (yw 1), .complex .f64 (xw 2) (yw 2), .complex .f64 (xw 3) (yw 3)] ∧ Arr 26 (w15.alloc (.cells #[.complex .f64 (xc 0) (yc 0), .complex .f64 (xc 1) (yc 1), .complex .f64 (xc 2) (yc 2), .complex .f64 (xc 3) (yc 3)] 26)) g3 #[.complex .f64 (xs 0) (ys 0), .complex .f64 (xs 1) (ys 1), .complex .f64 (xs 2) (ys 2), .complex .f64 (xs 3) (ys 3)] ∧ Arr 26 (w15.alloc (.cells #[.complex .f64 (xc 0) (yc 0), .complex .f64 (xc 1) (yc 1), .complex .f64 (xc 2) (yc 2), .complex .f64 (xc 3) (yc 3)] 26)) g4 #[.complex .f64 (xa 0) (ya 0), .complex .f64 (xa 1) (ya 1), .complex .f64 (xa 2) (ya 2), .complex .f64 (xa 3) (ya 3)] ∧ Arr 26 (w15.alloc (.cells #[.complex .f64 (xc 0) (yc 0), .complex .f64 (xc 1) (yc 1), .complex .f64 (xc 2) (yc 2), .complex .f64 (xc 3) (yc 3)] 26)) g5 #[.complex .f64 (xb 0) (yb 0), .complex .f64 (xb 1) (yb 1), .complex .f64 (xb 2) (yb 2), .complex .f64 (xb 3) (yb 3)] ∧ Arr 26 (w15.alloc (.cells #[.complex .f64 (xc 0) (yc 0), .complex .f64 (xc 1) (yc 1), .complex .f64 (xc 2) (yc 2), .complex .f64 (xc 3) (yc 3)] 26)) w15.heap.size #[.complex .f64 (xc 0) (yc 0), .complex .f64 (xc 1) (yc 1), .complex .f64 (xc 2) (yc 2), .complex .f64 (xc 3) (yc 3)]) := Lib.hid ⟨below_al (below_step (B5.out.1) kk) (.cells #[.complex .f64 (xc 0) (yc 0), .complex .f64 (xc 1) (yc 1), .complex .f64 (xc 2) (yc 2), .complex .f64 (xc 3) (yc 3)] 26), ((B5.out.2.1).step kk).al (.cells #[.complex .f64 (xc 0) (yc 0), .complex .f64 (xc 1) (yc 1), .complex .f64 (xc 2) (yc 2), .complex .f64 (xc 3) (yc 3)] 26), ((B5.out.2.2.1).step kk).al (.cells #[.complex .f64 (xc 0) (yc 0), .complex .f64 (xc 1) (yc 1), .complex .f64 (xc 2) (yc 2), .complex .f64 (xc 3) (yc 3)] 26), ((B5.out.2.2.2.1).step kk).al (.cells #[.complex .f64 (xc 0) (yc 0), .complex .f64 (xc 1) (yc 1), .complex .f64 (xc 2) (yc 2), .complex .f64 (xc 3) (yc 3)] 26), ((B5.out.2.2.2.2.1).step kk).al (.cells #[.complex .f64 (xc 0) (yc 0), .complex .f64 (xc 1) (yc 1), .complex .f64 (xc 2) (yc 2), .complex .f64 (xc 3) (yc 3)] 26), ((B5.out.2.2.2.2.2).step kk).al (.cells #[.complex .f64 (xc 0) (yc 0), .complex .f64 (xc 1) (yc 1), .complex .f64 (xc 2) (yc 2), .complex .f64 (xc 3) (yc 3)] 26), Arr.new _ _ _⟩; clear kk; (try skip))
  generalize w15.alloc (.cells #[.complex .f64 (xc 0) (yc 0), .complex .f64 (xc 1) (yc 1), .complex .f64 (xc 2) (yc 2), .complex .f64 (xc 3) (yc 3)] 26) = V6 at B6 ⊢
  generalize w15.heap.size = g6 at B6 ⊢
  clear B5
  clear p0 p1 p2 p3
  obtain ⟨⟨p0, p1, p2, p3⟩, -⟩ := (B6.out.2.2.2.2.1).four
  go_upto_region 13 with (go_at_call 18; refine (Shift_right xa ya (shc C (a % 4).toNat) (-a) _ Fa.out (by rw [szc_shift C _ (by omega)]; exact HCZ.out) HAB.out.2.2.2).mono ?_; rintro e w16 ⟨xd, yd, rfl, f, kk⟩; have Fd := Lib.hid f; clear f; have B7 : Hid (Below w.heap.size w (w16.alloc (.cells #[.complex .f64 (xd 0) (yd 0), .complex .f64 (xd 1) (yd 1), .complex .f64 (xd 2) (yd 2), .complex .f64 (xd 3) (yd 3)] 26)) ∧ Arr 26 (w16.alloc (.cells #[.complex .f64 (xd 0) (yd 0), .complex .f64 (xd 1) (yd 1), .complex .f64 (xd 2) (yd 2), .complex .f64 (xd 3) (yd 3)] 26)) g1 #[.complex .f64 (x 0) (y 0), .complex .f64 (x 1) (y 1), .complex .f64 (x 2) (y 2), .complex .f64 (x 3) (y 3)] ∧ Arr 26 (w16.alloc (.cells #[.complex .f64 (xd 0) (yd 0), .complex .f64 (xd 1) (yd 1), .complex .f64 (xd 2) (yd 2), .complex .f64 (xd 3) (yd 3)] 26)) g2 #[.complex .f64 (xw 0) (yw 0), .complex .f64 (xw 1) (yw 1), .complex .f64 (xw 2) (yw 2), .complex .f64 (xw 3) (yw 3)] ∧ Arr 26 (w16.alloc (.cells #[.complex .f64 (xd 0) (yd 0), .complex .f64 (xd 1) (yd 1), .complex .f64 (xd 2) (yd 2), .complex .f64 (xd 3) (yd 3)] 26)) g3 #[.complex .f64 (xs 0) (ys 0), .complex .f64 (xs 1) (ys 1), .complex .f64 (xs 2) (ys 2), .complex .f64 (xs 3) (ys 3)] ∧ Arr 26 (w16.alloc (.cells #[.complex .f64 (xd 0) (yd 0), .complex .f64 (xd 1) (yd 1), .complex .f64 (xd 2) (yd 2), .complex .f64 (xd 3) (yd 3)] 26)) g4 #[.complex .f64 (xa 0) (ya 0), .complex .f64 (xa 1) (ya 1), .complex .f64 (xa 2) (ya 2), .complex .f64 (xa 3) (ya 3)] ∧ Arr 26 (w16.alloc (.cells #[.complex .f64 (xd 0) (yd 0), .complex .f64 (xd 1) (yd 1), .complex .f64 (xd 2) (yd 2), .complex .f64 (xd 3) (yd 3)] 26)) g5 #[.complex .f64 (xb 0) (yb 0), .complex .f64 (xb 1) (yb 1), .complex .f64 (xb 2) (yb 2), .complex .f64 (xb 3) (yb 3)] ∧ Arr 26 (w16.alloc (.cells #[.complex .f64 (xd 0) (yd 0), .complex .f64 (xd 1) (yd 1), .complex .f64 (xd 2) (yd 2), .complex .f64 (xd 3) (yd 3)] 26)) g6 #[.complex .f64 (xc 0) (yc 0), .complex .f64 (xc 1) (yc 1), .complex .f64 (xc 2) (yc 2), .complex .f64 (xc 3) (yc 3)] ∧ Arr 26 (w16.alloc (.cells #[.complex .f64 (xd 0) (yd 0), .complex .f64 (xd 1) (yd 1), .complex .f64 (xd 2) (yd 2), .complex .f64 (xd 3) (yd 3)] 26)) w16.heap.size #[.complex .f64 (xd 0) (yd 0), .complex .f64 (xd 1) (yd 1), .complex .f64 (xd 2) (yd 2), .complex .f64 (xd 3) (yd 3)]) := Lib.hid ⟨below_al (below_step (B6.out.1) kk) (.cells #[.complex .f64 (xd 0) (yd 0), .complex .f64 (xd 1) (yd 1), .complex .f64 (xd 2) (yd 2), .complex .f64 (xd 3) (yd 3)] 26), ((B6.out.2.1).step kk).al (.cells #[.complex .f64 (xd 0) (yd 0), .complex .f64 (xd 1) (yd 1), .complex .f64 (xd 2) (yd 2), .complex .f64 (xd 3) (yd 3)] 26), ((B6.out.2.2.1).step kk).al (.cells #[.complex .f64 (xd 0) (yd 0), .complex .f64 (xd 1) (yd 1), .complex .f64 (xd 2) (yd 2), .complex .f64 (xd 3) (yd 3)] 26), ((B6.out.2.2.2.1).step kk).al (.cells #[.complex .f64 (xd 0) (yd 0), .complex .f64 (xd 1) (yd 1), .complex .f64 (xd 2) (yd 2), .complex .f64 (xd 3) (yd 3)] 26), ((B6.out.2.2.2.2.1).step kk).al (.cells #[.complex .f64 (xd 0) (yd 0), .complex .f64 (xd 1) (yd 1), .complex .f64 (xd 2) (yd 2), .complex .f64 (xd 3) (yd 3)] 26), ((B6.out.2.2.2.2.2.1).step kk).al (.cells #[.complex .f64 (xd 0) (yd 0), .complex .f64 (xd 1) (yd 1), .complex .f64 (xd 2) (yd 2), .complex .f64 (xd 3) (yd 3)] 26), ((B6.out.2.2.2.2.2.2).step kk).al (.cells #[.complex .f64 (xd 0) (yd 0), .complex .f64 (xd 1) (yd 1), .complex .f64 (xd 2) (yd 2), .complex .f64 (xd 3) (yd 3)] 26), Arr.new _ _ _⟩; clear kk; (try skip))
  generalize w16.alloc (.cells #[.complex .f64 (xd 0) (yd 0), .complex .f64 (xd 1) (yd 1), .complex .f64 (xd 2) (yd 2), .complex .f64 (xd 3) (yd 3)] 26) = V7 at B7 ⊢
  generalize w16.heap.size = g7 at B7 ⊢
  clear B6
  clear p0 p1 p2 p3
  obtain ⟨⟨p0, p1, p2, p3⟩, -⟩ := (B7.out.2.1).four
  have HG1 : Hid (g1 < V7.heap.size) := Lib.hid (B7.out.2.1).lt
  have HAZ := Lib.hid (B7.out.2.1)
  go_cut [24, 25] from 83 to 90 (fun pv ev wx => ∃ (ge : Nat) (xe ye : Nat → Nat), pv = .pointer (some ⟨ge, 0, none⟩) ∧ ev = .int .i64 0 ∧ Hid (CIF xe ye (shc C 0)) ∧ Hid (Below V7.heap.size V7 wx ∧ Arr 26 wx ge #[.complex .f64 (xe 0) (ye 0), .complex .f64 (xe 1) (ye 1), .complex .f64 (xe 2) (ye 2), .complex .f64 (xe 3) (ye 3)]))
  case first =>
    have hS0 : C4 g1 x y V7 ∧ Below V7.heap.size V7 V7 := ⟨HAZ.out.four.1, Below.refl _ _⟩
    have KD : Hid (Below V7.heap.size V7 V7.drew) := Lib.hid (Below.refl _ _).drew
    have KDA : Hid (Below V7.heap.size V7 (V7.alloc ZO).drew) := Lib.hid (below_alV (Below.refl V7.heap.size V7) _).drew
    go_region_held3 (fun w' => C4 g1 x y w' ∧ Below V7.heap.size V7 w') ((refine keepV HG1.out HAZ.out ?_; first | with_reducible exact KD.out | with_reducible exact KDA.out | with_reducible exact KP.out | with_reducible exact below_alV KP.out _ | with_reducible exact KS.out | with_reducible exact below_alV KS.out _ | with_reducible exact below_set4 KS.out (Nat.le_refl _) _ _ _ _ | with_reducible exact below_set4 KS.out L20.out _ _ _ _ | with_reducible exact below_set4 KS.out L21.out _ _ _ _ | with_reducible exact below_set4 (below_alV KS.out _) (Nat.le_refl _) _ _ _ _ | with_reducible exact below_set4 (below_alV KS.out _) L20.out _ _ _ _ | with_reducible exact below_set4 (below_alV KS.out _) L21.out _ _ _ _)) (first
      | (go_at_call 18; have _q := KP; refine (Shift_right x y C (4 * p) _ Fz.out HCZ.out (by have := HP.out; omega)).mono ?_; rw [show ((4 * p) % 4).toNat = 0 by omega]; rintro e w21 ⟨xe, ye, rfl, f, kkS⟩; have Fe := Lib.hid f; have KS : Hid (Below V7.heap.size V7 w21) := Lib.hid (by first | with_reducible exact below_step KP.out kkS | with_reducible exact below_step (below_alV KP.out _) kkS); have L21 := Lib.hid KS.out.size; (try (have AZ1 := Lib.hid (((Arr.newD 26 V7 #[.complex .f64 0 0, .complex .f64 0 0, .complex .f64 0 0, .complex .f64 0 0]).step kkP).step kkS); obtain ⟨⟨z0, z1, z2, z3⟩, y0, y1, y2, y3⟩ := AZ1.out.four)); (try (have AZ2 := Lib.hid ((Arr.new 26 w20 #[.complex .f64 0 0, .complex .f64 0 0, .complex .f64 0 0, .complex .f64 0 0]).step kkS); obtain ⟨⟨z0, z1, z2, z3⟩, y0, y1, y2, y3⟩ := AZ2.out.four)); clear f)
      | (go_at_call 19; refine (Pick1000_any b _ HAB.out.2.1).mono ?_; rintro e w20 ⟨p, rfl, hp, kkP⟩; have HP := Lib.hid hp; have hw4 : wrap64 (4 * p) = 4 * p := IntWalk.wrap64_in _ (by omega); have hw5 : IntKind.i64.wrap (4 * p) = 4 * p := IntWalk.i64_in _ (by omega); have KP : Hid (Below V7.heap.size V7 w20) := Lib.hid (by first | with_reducible exact below_step KD.out kkP | with_reducible exact below_step KDA.out kkP); have L20 := Lib.hid KP.out.size; clear hp))
    all_goals rename_i hH
    all_goals go_wp2_with fail
    all_goals go_meet
    all_goals first
      | exact ⟨_, xe, ye, rfl, rfl, Lib.hid Fe.out, Lib.hid ⟨hH.2, AZ1.out.put4 _ _ _ _⟩⟩
      | exact ⟨_, xe, ye, rfl, rfl, Lib.hid Fe.out, Lib.hid ⟨hH.2, AZ2.out.put4 _ _ _ _⟩⟩
      | exact ⟨_, xe, ye, rfl, rfl, Lib.hid Fe.out, Lib.hid ⟨hH.2, Arr.new _ _ _⟩⟩
  case rest =>
    obtain ⟨ge, xe, ye, rfl, rfl, Fe, BE⟩ := hcut
    clear p0 p1 p2 p3
    obtain ⟨⟨a0, a1, a2, a3⟩, -⟩ := ((B7.out.2.1).keep BE.out.1 (B7.out.2.1).lt).four
    obtain ⟨⟨b0, b1, b2, b3⟩, -⟩ := ((B7.out.2.2.1).keep BE.out.1 (B7.out.2.2.1).lt).four
    obtain ⟨⟨c0, c1, c2, c3⟩, -⟩ := ((B7.out.2.2.2.1).keep BE.out.1 (B7.out.2.2.2.1).lt).four
    obtain ⟨⟨d0, d1, d2, d3⟩, -⟩ := ((B7.out.2.2.2.2.2.1).keep BE.out.1 (B7.out.2.2.2.2.2.1).lt).four
    obtain ⟨⟨e0, e1, e2, e3⟩, -⟩ := ((B7.out.2.2.2.2.2.2.1).keep BE.out.1 (B7.out.2.2.2.2.2.2.1).lt).four
    obtain ⟨⟨f0, f1, f2, f3⟩, -⟩ := ((B7.out.2.2.2.2.2.2.2).keep BE.out.1 (B7.out.2.2.2.2.2.2.2).lt).four
    obtain ⟨⟨i0, i1, i2, i3⟩, -⟩ := BE.out.2.four
    have h1 := eql_z (Fs.out.same (show CIF xw yw (shc C ((k : Int) % 4).toNat) by rw [show ((k : Int) % 4).toNat = k % 4 by omega]; exact Fw.out))
    have h2 := eql_z (Fb.out.same (Fc.out.ext (fun r hr => (shc_shc C (a % 4).toNat (b % 4).toNat (by omega) (by omega) _ (mod4_add a b) r hr).symm)))
    have h3 := eql_z ((Fd.out.ext (fun r hr => (shc_shc C (a % 4).toNat ((-a) % 4).toNat (by omega) (by omega) 0 (mod4_neg a) r hr).trans (shc_zero C r hr))).same Fz.out)
    have h4 := eql_z ((Fe.out.ext (shc_zero C)).same Fz.out)
    have HBW := Lib.hid (below_step (B7.out.1) BE.out.1)
    clear B7 BE
    go_wp2_with fail
    go_ret
    exact ⟨rfl, HBW.out⟩
end Go.Proofs.Ythidfmkmklnhhaa
