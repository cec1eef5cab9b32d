/- Walks: PhaseBack. -/
import Derived.Test.YthidfmkmklnhhaaProg
import Derived.Test.YthidfmkmklnhhaaYr
import Derived.Deep.DeepCutAuto
namespace Go.Proofs.Ythidfmkmklnhhaa
open Go.RowKit
set_option linter.unusedVariables false

theorem read_neg {x : Nat} {s : Bool} {m : Nat} {e : Int} (hx : x < 18446744073709551616) (h : Ieee.double.read x = .number s m e) : Ieee.double.read (x ^^^ 9223372036854775808) = .number (!s) m e := by
  have hsw : Ieee.double.signWeight = 9223372036854775808 := by decide
  have hm : (x ^^^ 9223372036854775808) % 9223372036854775808 = x % 9223372036854775808 := by
    have h1 := Nat.xor_mod_two_pow (a := x) (b := 9223372036854775808) (n := 63)
    rw [show (2 : Nat) ^ 63 = 9223372036854775808 by decide] at h1
    rw [h1, Nat.mod_self, Nat.xor_zero]
  have hd : (x ^^^ 9223372036854775808) / 9223372036854775808 = (x / 9223372036854775808) ^^^ 1 := by
    have h1 := Nat.xor_div_two_pow (a := x) (b := 9223372036854775808) (n := 63)
    rw [show (2 : Nat) ^ 63 = 9223372036854775808 by decide] at h1
    rw [h1, Nat.div_self (by decide)]
  unfold Ieee.Format.read at h ⊢
  rw [hsw] at h ⊢
  rw [hm, hd]
  have hq : x / 9223372036854775808 = 0 ∨ x / 9223372036854775808 = 1 := by omega
  generalize x % 9223372036854775808 = r at h ⊢
  generalize x / 9223372036854775808 = q at h hq ⊢
  simp only [] at h ⊢
  have hb : ((q ^^^ 1) % 2 == 1) = !(q % 2 == 1) := by rcases hq with rfl | rfl <;> decide
  rw [hb]
  generalize (q % 2 == 1) = t at h ⊢
  by_cases h1 : r < Ieee.double.binade
  · rw [if_pos h1] at h ⊢
    cases h; rfl
  · rw [if_neg h1] at h ⊢
    by_cases h2 : r < Ieee.double.infRung
    · rw [if_pos h2] at h ⊢
      cases h; rfl
    · rw [if_neg h2] at h ⊢
      split at h <;> cases h
theorem FI.neg {b : Nat} {n : Int} (h : FI b n) : FI (Op.negFloat .f64 b) (-n) := by
  obtain ⟨hb, s, m, e, h1, h2⟩ := h
  refine ⟨Nat.xor_lt_two_pow (n := 64) hb (by decide), !s, m, e, read_neg hb h1, ?_⟩
  have : sg (!s) m = -sg s m := by cases s <;> simp [sg]
  rw [this]
  exact h2.neg
theorem FI.ordE {x y : Nat} {a : Int} (hx : FI x a) (hy : FI y a) : FloatKind.f64.format.order x y = some .eq := by rw [hx.ord hy, cmp_eq]
/-- The sum of the class sums of the first m elements. -/
def tot (l : List Int) (m : Nat) : Int := cs l m 0 + cs l m 1 + cs l m 2 + cs l m 3
theorem tot_succ (l : List Int) (m : Nat) : tot l (m + 1) = tot l m + l.getD m 0 := by
  unfold tot
  have hc : ∀ r, cs l (m + 1) r = cs l m r + if m % 4 = r then l.getD m 0 else 0 := fun r => rfl
  simp only [hc]
  rcases (show m % 4 = 0 ∨ m % 4 = 1 ∨ m % 4 = 2 ∨ m % 4 = 3 by omega) with h | h | h | h <;> rw [h] <;> simp <;> omega
theorem cs_le (l : List Int) (m r : Nat) (hr : r < 4) : (cs l m r).natAbs ≤ sz l m := by
  have h := szc_cs l m
  unfold szc at h
  rcases (show r = 0 ∨ r = 1 ∨ r = 2 ∨ r = 3 by omega) with rfl | rfl | rfl | rfl <;> omega
theorem cs_set (l : List Int) (k : Nat) : (ic4 (cs l k)).setIfInBounds (k % 4) (.int .i64 (cs l k (k % 4) + l.getD k 0)) = ic4 (cs l (k + 1)) := by
  have hc : ∀ r, cs l (k + 1) r = cs l k r + if k % 4 = r then l.getD k 0 else 0 := fun r => rfl
  unfold ic4
  simp only [hc]
  rcases (show k % 4 = 0 ∨ k % 4 = 1 ∨ k % 4 = 2 ∨ k % 4 = 3 by omega) with h | h | h | h <;> rw [h] <;> simp
theorem cs_get (c : Nat → Int) (r : Nat) (hr : r < 4) : (ic4 c)[r]? = some (.int .i64 (c r)) := by
  rcases (show r = 0 ∨ r = 1 ∨ r = 2 ∨ r = 3 by omega) with rfl | rfl | rfl | rfl <;> rfl

theorem back_facts {x y : Nat → Nat} {C : Nat → Int} {s : Int} (F : CIF x y C) (h0 : (C 0).natAbs ≤ 219902325555200) (h1 : (C 1).natAbs ≤ 219902325555200) (h2 : (C 2).natAbs ≤ 219902325555200) (h3 : (C 3).natAbs ≤ 219902325555200) (hs : C 0 + C 1 + C 2 + C 3 = s) :
    ∃ p q t1 t2 t3 : Int, (FloatKind.f64.format.order (x 0) (floatOfInt .f64 s) = some .eq ∧ FloatKind.f64.format.order (y 0) 0 = some .eq ∧ FloatKind.f64.format.order (y 2) 0 = some .eq ∧ FloatKind.f64.format.order (x 1) (x 3) = some .eq ∧ FloatKind.f64.format.order (y 1) (Op.negFloat .f64 (y 3)) = some .eq ∧ FloatKind.f64.format.order (x 1) (floatOfInt .f64 p) = some .eq ∧ FloatKind.f64.format.order (y 1) (floatOfInt .f64 q) = some .eq ∧ FloatKind.f64.format.order (x 2) (floatOfInt .f64 t3) = some .eq) ∧
      IntKind.i64.wrap (C 0 - C 2) = p ∧ wrap64 (C 0 - C 2) = p ∧ IntKind.i64.wrap (C 1 - C 3) = q ∧ wrap64 (C 1 - C 3) = q ∧ IntKind.i64.wrap (C 0 + C 2) = t1 ∧ wrap64 (C 0 + C 2) = t1 ∧ IntKind.i64.wrap (t1 - C 1) = t2 ∧ wrap64 (t1 - C 1) = t2 ∧ IntKind.i64.wrap (t2 - C 3) = t3 ∧ wrap64 (t2 - C 3) = t3 := by
  have D0 : dR 0 C = s ∧ dI 0 C = 0 := by simp [dR, dI, tRe, tIm, uRe, uIm]; omega
  have D2 : dI 2 C = 0 := by simp [dI, tIm, uRe, uIm]
  have D1 : dR 1 C = C 0 - C 2 ∧ dI 1 C = C 1 - C 3 := by simp [dR, dI, tRe, tIm, uRe, uIm]; omega
  have D3 : dR 3 C = C 0 - C 2 ∧ dI 3 C = -(C 1 - C 3) := by simp [dR, dI, tRe, tIm, uRe, uIm]; omega
  have D2R : dR 2 C = C 0 + C 2 - C 1 - C 3 := by simp [dR, tRe, uRe, uIm]; omega
  have g0 := F 0 (by decide)
  have g1 := F 1 (by decide)
  have g2 := F 2 (by decide)
  have g3 := F 3 (by decide)
  rw [D0.1, D0.2] at g0
  rw [D1.1, D1.2] at g1
  rw [D2R, D2] at g2
  rw [D3.1, D3.2] at g3
  have g3n := g3.2.neg
  rw [Int.neg_neg] at g3n
  clear D0 D1 D2 D2R D3 F
  have b0 : -219902325555200 ≤ C 0 ∧ C 0 ≤ 219902325555200 := by omega
  have b1 : -219902325555200 ≤ C 1 ∧ C 1 ≤ 219902325555200 := by omega
  have b2 : -219902325555200 ≤ C 2 ∧ C 2 ≤ 219902325555200 := by omega
  have b3 : -219902325555200 ≤ C 3 ∧ C 3 ≤ 219902325555200 := by omega
  clear h0 h1 h2 h3
  have n1 : s.natAbs ≤ 9007199254740992 := by omega
  have n2 : (C 0 - C 2).natAbs ≤ 9007199254740992 := by omega
  have n3 : (C 1 - C 3).natAbs ≤ 9007199254740992 := by omega
  have n4 : (C 0 + C 2 - C 1 - C 3).natAbs ≤ 9007199254740992 := by omega
  refine ⟨C 0 - C 2, C 1 - C 3, C 0 + C 2, C 0 + C 2 - C 1, C 0 + C 2 - C 1 - C 3, ⟨FI.ordE g0.1 (FI.ofInt n1), FI.ordE g0.2 fi0, FI.ordE g2.2 fi0, FI.ordE g1.1 g3.1, FI.ordE g1.2 g3n, FI.ordE g1.1 (FI.ofInt n2), FI.ordE g1.2 (FI.ofInt n3), FI.ordE g2.1 (FI.ofInt n4)⟩, IntWalk.i64_in _ (by omega), IntWalk.wrap64_in _ (by omega), IntWalk.i64_in _ (by omega), IntWalk.wrap64_in _ (by omega), IntWalk.i64_in _ (by omega), IntWalk.wrap64_in _ (by omega), IntWalk.i64_in _ (by omega), IntWalk.wrap64_in _ (by omega), IntWalk.i64_in _ (by omega), IntWalk.wrap64_in _ (by omega)⟩

set_option maxRecDepth 20000 in
set_option maxHeartbeats 4000000 in
theorem PhaseBack_any (A : Option Addr) (n0 c0 : Nat) (l0 : List Int) (w : World) (hs : Sees w 1 A n0 c0 (l0.map (Value.int .i64))) :
    Calls Try.prog 9 #[.slice A n0 c0] w fun e w' => e = .returned (.bool true) ∧ Below w.heap.size w w' := by
  have hst := st_c
  have hni := neq_i
  have hneg : ∀ (b : Nat) (w : World), (Op.unary .neg (.float .f64 b)).run Try.prog w = .ok (.float .f64 (Op.negFloat .f64 b)) w := fun _ _ => rfl
  have HS := Lib.hid hs
  clear hs
  go_enter Try.func9, Try.ntmps9
  go_upto_region 4 with (first
    | (go_at_call 14; have _q := K0; refine (row_any A n0 c0 l0 _ (HS.out.below K0.out (Nat.le_refl _))).mono ?_; rintro e w1 ⟨A1, c1, rfl, o1, k1⟩; have K1 := Lib.hid (below_step K0.out k1); have S1 := Lib.hid (sees_own o1); clear o1 k1)
    | (go_at_call 13; refine (awake_any _).mono ?_; rintro e w0 ⟨rfl, k0⟩; have K0 := Lib.hid k0; clear k0))
  clear K0
  obtain ⟨n, hn⟩ : ∃ n, min n0 200 = n := ⟨_, rfl⟩
  rw [hn] at S1
  have HLE : Hid (∀ x ∈ rw40 l0 n, x.natAbs ≤ 1099511627776) := Lib.hid rw40_le
  rw [hn]
  have HN := Lib.hid (show n ≤ 200 by omega)
  have hn9 : (n : Int) ≤ 200 := by omega
  clear hn
  generalize rw40 l0 n = l at S1 HLE
  have HZ : Hid (sz l n ≤ 219902325555200) := Lib.hid (by have h1 := sz_le HLE.out n; have h2 := HN.out; omega)
  obtain ⟨C, hC⟩ : ∃ C, cs l n = C := ⟨_, rfl⟩
  have HC := Lib.hid hC
  have HCZ : Hid (szc C ≤ 1125899906842624) := Lib.hid (by rw [← hC]; have h1 := szc_cs l n; have h2 := HZ.out; omega)
  clear hC
  go_upto_region 5 with (go_at_call 15; refine (Of_right A1 n c1 l C _ S1.out (by have := HZ.out; omega) (fun r _ => by rw [HC.out])).mono ?_; rintro e w2 ⟨x, y, rfl, f, k⟩; have FX := Lib.hid f; have B1 : Hid (Below w.heap.size w (w2.alloc (.cells #[.complex .f64 (x 0) (y 0), .complex .f64 (x 1) (y 1), .complex .f64 (x 2) (y 2), .complex .f64 (x 3) (y 3)] 26)) ∧ Sees (w2.alloc (.cells #[.complex .f64 (x 0) (y 0), .complex .f64 (x 1) (y 1), .complex .f64 (x 2) (y 2), .complex .f64 (x 3) (y 3)] 26)) 1 A1 n c1 (l.map (Value.int .i64)) ∧ Arr 26 (w2.alloc (.cells #[.complex .f64 (x 0) (y 0), .complex .f64 (x 1) (y 1), .complex .f64 (x 2) (y 2), .complex .f64 (x 3) (y 3)] 26)) w2.heap.size #[.complex .f64 (x 0) (y 0), .complex .f64 (x 1) (y 1), .complex .f64 (x 2) (y 2), .complex .f64 (x 3) (y 3)]) := Lib.hid ⟨below_al (below_step K1.out k) _, (S1.out.below k (Nat.le_refl _)).below (below_al (Below.refl _ _) _) (Nat.le_refl _), Arr.new _ _ _⟩; clear f k K1 S1)
  generalize w2.alloc (.cells #[.complex .f64 (x 0) (y 0), .complex .f64 (x 1) (y 1), .complex .f64 (x 2) (y 2), .complex .f64 (x 3) (y 3)] 26) = V1 at B1 ⊢
  generalize w2.heap.size = g1 at B1 ⊢
  obtain ⟨⟨a0, a1, a2, a3⟩, -⟩ := B1.out.2.2.four
  go_upto_region 6 with (go_at_call 23; refine (Classes_right x y C _ FX.out HCZ.out).mono ?_; rintro e w3 ⟨rfl, k⟩; have B2 : Hid (Below w.heap.size w (w3.alloc (.cells (ic4 C) 40)) ∧ Sees (w3.alloc (.cells (ic4 C) 40)) 1 A1 n c1 (l.map (Value.int .i64)) ∧ Arr 26 (w3.alloc (.cells (ic4 C) 40)) g1 #[.complex .f64 (x 0) (y 0), .complex .f64 (x 1) (y 1), .complex .f64 (x 2) (y 2), .complex .f64 (x 3) (y 3)] ∧ Arr 40 (w3.alloc (.cells (ic4 C) 40)) w3.heap.size (ic4 C)) := Lib.hid ⟨below_al (below_step B1.out.1 k) _, (B1.out.2.1.below k (Nat.le_refl _)).below (below_al (Below.refl _ _) _) (Nat.le_refl _), (B1.out.2.2.step k).al _, Arr.new _ _ _⟩; clear k)
  generalize w3.alloc (.cells (ic4 C) 40) = V2 at B2 ⊢
  generalize w3.heap.size = g2 at B2 ⊢
  clear B1 a0 a1 a2 a3
  obtain ⟨⟨b0, b1, b2, b3⟩, -⟩ := B2.out.2.2.2.four
  go_upto_region 7 with (go_at_call 27; refine (Row_right C _ HCZ.out).mono ?_; rintro e w4 ⟨u, v, rfl, f, k⟩; have FU := Lib.hid f; have B3 : Hid (Below w.heap.size w (w4.alloc (.cells #[.complex .f64 (u 0) (v 0), .complex .f64 (u 1) (v 1), .complex .f64 (u 2) (v 2), .complex .f64 (u 3) (v 3)] 26)) ∧ Sees (w4.alloc (.cells #[.complex .f64 (u 0) (v 0), .complex .f64 (u 1) (v 1), .complex .f64 (u 2) (v 2), .complex .f64 (u 3) (v 3)] 26)) 1 A1 n c1 (l.map (Value.int .i64)) ∧ Arr 26 (w4.alloc (.cells #[.complex .f64 (u 0) (v 0), .complex .f64 (u 1) (v 1), .complex .f64 (u 2) (v 2), .complex .f64 (u 3) (v 3)] 26)) g1 #[.complex .f64 (x 0) (y 0), .complex .f64 (x 1) (y 1), .complex .f64 (x 2) (y 2), .complex .f64 (x 3) (y 3)] ∧ Arr 40 (w4.alloc (.cells #[.complex .f64 (u 0) (v 0), .complex .f64 (u 1) (v 1), .complex .f64 (u 2) (v 2), .complex .f64 (u 3) (v 3)] 26)) g2 (ic4 C) ∧ Arr 26 (w4.alloc (.cells #[.complex .f64 (u 0) (v 0), .complex .f64 (u 1) (v 1), .complex .f64 (u 2) (v 2), .complex .f64 (u 3) (v 3)] 26)) w4.heap.size #[.complex .f64 (u 0) (v 0), .complex .f64 (u 1) (v 1), .complex .f64 (u 2) (v 2), .complex .f64 (u 3) (v 3)]) := Lib.hid ⟨below_al (below_step B2.out.1 k) _, (B2.out.2.1.below k (Nat.le_refl _)).below (below_al (Below.refl _ _) _) (Nat.le_refl _), (B2.out.2.2.1.step k).al _, (B2.out.2.2.2.step k).al _, Arr.new _ _ _⟩; clear f k)
  generalize w4.alloc (.cells #[.complex .f64 (u 0) (v 0), .complex .f64 (u 1) (v 1), .complex .f64 (u 2) (v 2), .complex .f64 (u 3) (v 3)] 26) = V3 at B3 ⊢
  generalize w4.heap.size = g3 at B3 ⊢
  clear B2 b0 b1 b2 b3
  go_upto_region 8 with fail
  have B4 : Hid (Below V3.heap.size V3 (V3.alloc (.cells #[.int .i64 0, .int .i64 0, .int .i64 0, .int .i64 0] 40)) ∧ Arr 40 (V3.alloc (.cells #[.int .i64 0, .int .i64 0, .int .i64 0, .int .i64 0] 40)) V3.heap.size (ic4 (cs l 0))) := Lib.hid ⟨below_al (Below.refl _ _) _, Arr.new _ _ _⟩
  generalize V3.alloc (.cells #[.int .i64 0, .int .i64 0, .int .i64 0, .int .i64 0] 40) = V4 at B4 ⊢
  generalize hg4 : V3.heap.size = g4 at B4 ⊢
  have HG4 : Hid (V3.heap.size = g4 ∧ g1 < g4 ∧ g2 < g4 ∧ g3 < g4) := Lib.hid ⟨hg4, by rw [← hg4]; exact B3.out.2.2.1.lt, by rw [← hg4]; exact B3.out.2.2.2.1.lt, by rw [← hg4]; exact B3.out.2.2.2.2.lt⟩
  clear hg4
  go_wp2_with fail
  go_loopw [10, 34] (fun sv iv wr => ∃ k : Nat, Hid (k ≤ n) ∧ iv = .int .i64 (k : Int) ∧ sv = .int .i64 (tot l k) ∧ Hid (Below g4 V3 wr ∧ Arr 40 wr g4 (ic4 (cs l k)))) (fun _ iv _ => n - (intOf iv).toNat)
  case atStart => exact ⟨0, Lib.hid (Nat.zero_le _), rfl, rfl, B4⟩
  case round =>
    clear B4
    obtain ⟨k, HK, rfl, rfl, HB⟩ := hrel
    obtain ⟨s, hsm⟩ : ∃ s, tot l k = s := ⟨_, rfl⟩
    rw [hsm]
    by_cases hlt : k < n
    · obtain ⟨g, o, hA, g5⟩ := (B3.out.2.1.below HB.out.1 (Nat.le_of_eq HG4.out.1)).int hlt
      cases hA
      have d0 : decide ((k : Int) < (n : Int)) = true := by simp; omega
      have d0' : decide (k < n) = true := by simp; omega
      have hkn : (k : Int) < (n : Int) := by omega
      have hcg := cs_get (cs l k) (k % 4) (Nat.mod_lt _ (by decide))
      have hset := cs_set l k
      have hle1 := cs_le l k (k % 4) (Nat.mod_lt _ (by decide))
      have hle2 := cs_le l (k + 1) (k % 4) (Nat.mod_lt _ (by decide))
      have hcs1 : cs l (k + 1) (k % 4) = cs l k (k % 4) + l.getD k 0 := by show cs l k (k % 4) + (if k % 4 = k % 4 then l.getD k 0 else 0) = _; rw [if_pos rfl]
      have hts := tot_succ l k
      have hm1 := sz_mono l (show k ≤ n by omega)
      have hm2 := sz_mono l (show k + 1 ≤ n by omega)
      have htl : (tot l (k + 1)).natAbs ≤ 4 * sz l (k + 1) := by
        have q := fun r hr => cs_le l (k + 1) r hr
        have q0 := q 0 (by decide)
        have q1 := q 1 (by decide)
        have q2 := q 2 (by decide)
        have q3 := q 3 (by decide)
        unfold tot; omega
      obtain ⟨r, hr⟩ : ∃ r, k % 4 = r := ⟨_, rfl⟩
      rw [hr] at hcg hset hle1 hle2 hcs1
      obtain ⟨e, he⟩ : ∃ e, l.getD k 0 = e := ⟨_, rfl⟩
      rw [he] at g5 hset hcs1 hts
      obtain ⟨a, ha⟩ : ∃ a, cs l k r = a := ⟨_, rfl⟩
      rw [ha] at hcg hset hle1 hcs1
      rw [hcs1] at hle2
      rw [hsm] at hts
      rw [hts] at htl
      have hkt : (k : Int).tmod 4 = (r : Int) := by rw [Int.tmod_eq_emod_of_nonneg (by omega)]; omega
      have hwr : IntKind.i64.wrap (r : Int) = (r : Int) := IntWalk.i64_in _ (by omega)
      have hr4 : (r : Int) < 4 := by omega
      have hr4' : r < 4 := by omega
      have dr : decide ((r : Int) < 4) = true := by simp; omega
      have dr' : decide (r < 4) = true := by simp; omega
      obtain ⟨b, hb⟩ : ∃ b, a + e = b := ⟨_, rfl⟩
      rw [hb] at hset hle2
      have hZ := HZ.out
      have hwb : IntKind.i64.wrap (a + e) = b := by rw [hb]; exact IntWalk.i64_in _ (by omega)
      have hwb2 : wrap64 (a + e) = b := by rw [hb]; exact IntWalk.wrap64_in _ (by omega)
      obtain ⟨t, ht⟩ : ∃ t, s + e = t := ⟨_, rfl⟩
      rw [ht] at htl hts
      have hwt : IntKind.i64.wrap (s + e) = t := by rw [ht]; exact IntWalk.i64_in _ (by omega)
      have hwt2 : wrap64 (s + e) = t := by rw [ht]; exact IntWalk.wrap64_in _ (by omega)
      have h4c : wr.cell? ⟨g4, r, none⟩ = some (.int .i64 a) := (HB.out.2.c r).trans hcg
      have h4f := HB.out.2.f r
      have HLT := Lib.hid hlt
      have HTS := Lib.hid hts
      have HB2 : Hid (Below g4 V3 (wr.setCell ⟨g4, r, none⟩ (.int .i64 b)) ∧ Arr 40 (wr.setCell ⟨g4, r, none⟩ (.int .i64 b)) g4 (ic4 (cs l (k + 1)))) := Lib.hid ⟨HB.out.1.setCell (show g4 ≤ (⟨g4, r, none⟩ : Addr).block from Nat.le_refl _) _, by rw [← hset]; exact HB.out.2.set r (.int .i64 b)⟩
      clear hlt hcg hset hle1 hle2 hcs1 hts hm1 hm2 htl he ha hb ht hZ hsm hr
      go_wp2_with fail
      go_roundw
      case rel => exact ⟨k + 1, Lib.hid HLT.out, by go_num, by rw [HTS.out], HB2⟩
      case measure => have := HLT.out; simp [intOf]; omega
    · obtain rfl : k = n := by have := HK.out; omega
      have d0 : decide ((k : Int) < (k : Int)) = false := by simp
      have d0' : decide (k < k) = false := by simp
      clear hlt HK
      have HCE := HC.out
      have A4 := HB.out.2
      rw [HCE] at A4
      have hst1 : tot l k = C 0 + C 1 + C 2 + C 3 := by unfold tot; rw [HCE]
      rw [hst1] at hsm
      have hCl : ∀ r < 4, (C r).natAbs ≤ 219902325555200 := fun r hr => by have h1 := cs_le l k r hr; rw [HCE] at h1; have := HZ.out; omega
      have hC0 := hCl 0 (by decide)
      have hC1 := hCl 1 (by decide)
      have hC2 := hCl 2 (by decide)
      have hC3 := hCl 3 (by decide)
      obtain ⟨p, q, t1, t2, t3, ⟨o1, o2, o3, o4, o5, o6, o7, o8⟩, w1', w2', w3', w4', w5', w6', w7', w8', w9', w10'⟩ := back_facts FX.out hC0 hC1 hC2 hC3 hsm
      have hnz := neq_z (FU.out.same FX.out)
      obtain ⟨⟨a0, a1, a2, a3⟩, -⟩ := (B3.out.2.2.1.keep HB.out.1 HG4.out.2.1).four
      obtain ⟨⟨b0, b1, b2, b3⟩, -⟩ := (B3.out.2.2.2.1.keep HB.out.1 HG4.out.2.2.1).four
      obtain ⟨⟨c0', c1', c2', c3'⟩, -⟩ := (B3.out.2.2.2.2.keep HB.out.1 HG4.out.2.2.2).four
      obtain ⟨⟨d0'', d1'', d2'', d3''⟩, -⟩ := A4.four
      have HBW := Lib.hid (B3.out.1.trans (HB.out.1.mono (by have h1 := B3.out.1.size; have h2 := HG4.out.1; omega)))
      clear HCE A4 hst1 hCl hC0 hC1 hC2 hC3 hsm
      go_wp2_with fail
      go_ret
      exact ⟨rfl, HBW.out⟩
end Go.Proofs.Ythidfmkmklnhhaa
