/- Walks: PhaseJoins. Printed by gen_zj.py. -/
import Derived.Test.YthidfmkmklnhhaaProg
import Derived.Test.YthidfmkmklnhhaaYz
import Derived.Deep.DeepCutAuto
import Derived.Deep.QuietTactic
namespace Go.Proofs.Ythidfmkmklnhhaa
open Go.RowKit
set_option linter.unusedVariables false

theorem cat_l (k l : List Int) (j : Nat) (h : j < k.length) : (k ++ l).getD j 0 = k.getD j 0 := by
  rw [List.getD_eq_getElem?_getD, List.getD_eq_getElem?_getD, List.getElem?_append_left h]
theorem cat_r (k l : List Int) (m : Nat) : (k ++ l).getD (k.length + m) 0 = l.getD m 0 := by
  rw [List.getD_eq_getElem?_getD, List.getD_eq_getElem?_getD, List.getElem?_append_right (by omega)]
  simp
theorem cs_l (k l : List Int) (r : Nat) : ∀ j, j ≤ k.length → cs (k ++ l) j r = cs k j r := by
  intro j
  induction j with
  | zero => intro _; rfl
  | succ j ih =>
    intro h
    show cs (k ++ l) j r + (if j % 4 = r then (k ++ l).getD j 0 else 0) = cs k j r + (if j % 4 = r then k.getD j 0 else 0)
    rw [ih (by omega), cat_l k l j (by omega)]
theorem cs_cat (k l : List Int) (n : Nat) (hn : k.length = n) (r : Nat) (hr : r < 4) : ∀ m, cs (k ++ l) (n + m) r = addc (cs k n) (cs l m) (n % 4) r := by
  subst hn
  intro m
  induction m with
  | zero => rw [Nat.add_zero, cs_l k l r _ (Nat.le_refl _)]; show _ = cs k k.length r + 0; rw [Int.add_zero]
  | succ m ih =>
    show cs (k ++ l) (k.length + m) r + (if (k.length + m) % 4 = r then (k ++ l).getD (k.length + m) 0 else 0) = cs k k.length r + (cs l m ((r + 4 - k.length % 4) % 4) + (if m % 4 = (r + 4 - k.length % 4) % 4 then l.getD m 0 else 0))
    rw [ih, cat_r]
    show cs k k.length r + cs l m ((r + 4 - k.length % 4) % 4) + _ = _
    by_cases h : (k.length + m) % 4 = r
    · rw [if_pos h, if_pos (by omega), Int.add_assoc]
    · rw [if_neg h, if_neg (by omega), Int.add_zero, Int.add_zero]
theorem szc_add (c d : Nat → Int) (m : Nat) (hm : m < 4) : szc (addc c d m) ≤ szc c + szc d := by
  rw [← szc_shift d m hm]
  have q := fun r => Int.natAbs_add_le (c r) (shc d m r)
  have h := Nat.add_le_add (Nat.add_le_add (Nat.add_le_add (q 0) (q 1)) (q 2)) (q 3)
  unfold szc addc
  generalize (c 0).natAbs = a0 at *
  generalize (c 1).natAbs = a1 at *
  generalize (c 2).natAbs = a2 at *
  generalize (c 3).natAbs = a3 at *
  generalize (shc d m 0).natAbs = b0 at *
  generalize (shc d m 1).natAbs = b1 at *
  generalize (shc d m 2).natAbs = b2 at *
  generalize (shc d m 3).natAbs = b3 at *
  clear q
  exact Nat.le_trans h (by omega)
theorem addc_ext {c c' d d' : Nat → Int} (h1 : ∀ r < 4, c r = c' r) (h2 : ∀ r < 4, d r = d' r) (m : Nat) : ∀ r < 4, addc c d m r = addc c' d' m r := fun r hr => by
  unfold addc shc
  rw [h1 r hr, h2 _ (Nat.mod_lt _ (by decide))]
theorem addc_assoc (a b c : Nat → Int) (i j k : Nat) (hi : i < 4) (hj : j < 4) (hk : k = (i + j) % 4) : ∀ r < 4, addc (addc a b i) c k r = addc a (addc b c j) i r := fun r hr => by
  subst hk
  unfold addc shc
  rw [Int.add_assoc, show (r + 4 - (i + j) % 4) % 4 = ((r + 4 - i) % 4 + 4 - j) % 4 by omega]
theorem d_add (c d : Nat → Int) (j : Nat) (hj : j < 4) : dR j (addc c d 0) = dR j c + dR j d ∧ dI j (addc c d 0) = dI j c + dI j d := by
  rcases (show j = 0 ∨ j = 1 ∨ j = 2 ∨ j = 3 by omega) with rfl | rfl | rfl | rfl <;> simp [addc, shc, dR, dI, tRe, tIm, uRe, uIm] <;> omega
theorem below_al2 {V W : World} (h : Below V.heap.size V W) (o : Obj) : Below V.heap.size V (W.alloc o) := h.alloc h.size _
theorem zc_get (x y : Nat → Nat) (k : Nat) (hk : k < 4) : (#[Value.complex .f64 (x 0) (y 0), .complex .f64 (x 1) (y 1), .complex .f64 (x 2) (y 2), .complex .f64 (x 3) (y 3)] : Array Value)[k]? = some (.complex .f64 (x k) (y k)) := by
  rcases (show k = 0 ∨ k = 1 ∨ k = 2 ∨ k = 3 by omega) with rfl | rfl | rfl | rfl <;> rfl
theorem Join0_right (x y x' y' : Nat → Nat) (c d : Nat → Int) (w : World) (hf : CIF x y c) (hf' : CIF x' y' d) (hc : szc c ≤ 1125899906842624) (hd : szc d ≤ 1125899906842624) (hs : szc (addc c d 0) ≤ 1125899906842624) :
    Calls Try.prog 16 #[zf x y, .int .i64 0, zf x' y'] w fun e w' => ∃ u v, e = .returned (.tuple #[zf u v, .int .i64 0]) ∧ CIF u v (addc c d 0) ∧ Below w.heap.size w w' := Join_right x y x' y' c d 0 w (by decide) hf hf' hc hd hs

set_option maxRecDepth 20000 in
set_option maxHeartbeats 4000000 in
theorem PhaseJoins_any (A B D : Option Addr) (na ca nb cb nd cd : Nat) (la lb ld : List Int) (w : World) (h1 : Sees w 1 A na ca (la.map (Value.int .i64))) (h2 : Sees w 1 B nb cb (lb.map (Value.int .i64))) (h3 : Sees w 1 D nd cd (ld.map (Value.int .i64))) :
    Calls Try.prog 3 #[.slice A na ca, .slice B nb cb, .slice D nd cd] w fun e w' => e = .returned (.bool true) ∧ Below w.heap.size w w' := by
  have hst := st_c
  have HS := Lib.hid (And.intro h1 (And.intro h2 h3))
  clear h1 h2 h3
  go_enter Try.func3, Try.ntmps3
  go_upto_region 4 with (first
    | (go_at_call 14; have _q := K2; refine (row_any D nd cd ld _ (HS.out.2.2.below K2.out.2.2 (Nat.le_refl _))).mono ?_; rintro e w3 ⟨A3, c3, rfl, o3, k3⟩; have K3 := Lib.hid (And.intro (K2.out.1.below k3 (Nat.le_refl _)) (And.intro (K2.out.2.1.below k3 (Nat.le_refl _)) (And.intro (sees_own o3) (below_step K2.out.2.2 k3)))); clear o3 k3)
    | (go_at_call 14; have _q := K1; refine (row_any B nb cb lb _ (HS.out.2.1.below K1.out.2 (Nat.le_refl _))).mono ?_; rintro e w2 ⟨A2, c2, rfl, o2, k2⟩; have K2 := Lib.hid (And.intro (K1.out.1.below k2 (Nat.le_refl _)) (And.intro (sees_own o2) (below_step K1.out.2 k2))); clear o2 k2)
    | (go_at_call 14; have _q := K0; refine (row_any A na ca la _ (HS.out.1.below K0.out (Nat.le_refl _))).mono ?_; rintro e w1 ⟨A1, c1, rfl, o1, k1⟩; have K1 := Lib.hid (And.intro (sees_own o1) (below_step K0.out k1)); clear o1 k1)
    | (go_at_call 13; refine (awake_any _).mono ?_; rintro e w0 ⟨rfl, k0⟩; have K0 := Lib.hid k0; clear k0))
  clear K0 K1 K2 HS
  obtain ⟨n1, hn0⟩ : ∃ n, min na 200 = n := ⟨_, rfl⟩
  rw [hn0] at K3 ⊢
  have HE0 : Hid (∀ x ∈ rw40 la n1, x.natAbs ≤ 1099511627776) := Lib.hid rw40_le
  have HN0 := Lib.hid (show n1 ≤ 200 by omega)
  clear hn0
  generalize rw40 la n1 = K at K3 HE0
  have HZ0 : Hid (sz K n1 ≤ 219902325555200) := Lib.hid (by have h1 := sz_le HE0.out n1; have h2 := HN0.out; omega)
  obtain ⟨C0, hC0⟩ : ∃ C, cs K n1 = C := ⟨_, rfl⟩
  have HC0 := Lib.hid hC0
  have HS0 : Hid (szc C0 ≤ 219902325555200) := Lib.hid (by rw [← hC0]; have h1 := szc_cs K n1; have h2 := HZ0.out; omega)
  clear hC0
  obtain ⟨n2, hn1⟩ : ∃ n, min nb 200 = n := ⟨_, rfl⟩
  rw [hn1] at K3 ⊢
  have HE1 : Hid (∀ x ∈ rw40 lb n2, x.natAbs ≤ 1099511627776) := Lib.hid rw40_le
  have HN1 := Lib.hid (show n2 ≤ 200 by omega)
  clear hn1
  generalize rw40 lb n2 = L at K3 HE1
  have HZ1 : Hid (sz L n2 ≤ 219902325555200) := Lib.hid (by have h1 := sz_le HE1.out n2; have h2 := HN1.out; omega)
  obtain ⟨C1, hC1⟩ : ∃ C, cs L n2 = C := ⟨_, rfl⟩
  have HC1 := Lib.hid hC1
  have HS1 : Hid (szc C1 ≤ 219902325555200) := Lib.hid (by rw [← hC1]; have h1 := szc_cs L n2; have h2 := HZ1.out; omega)
  clear hC1
  obtain ⟨n3, hn2⟩ : ∃ n, min nd 200 = n := ⟨_, rfl⟩
  rw [hn2] at K3 ⊢
  have HE2 : Hid (∀ x ∈ rw40 ld n3, x.natAbs ≤ 1099511627776) := Lib.hid rw40_le
  have HN2 := Lib.hid (show n3 ≤ 200 by omega)
  clear hn2
  generalize rw40 ld n3 = M at K3 HE2
  have HZ2 : Hid (sz M n3 ≤ 219902325555200) := Lib.hid (by have h1 := sz_le HE2.out n3; have h2 := HN2.out; omega)
  obtain ⟨C2, hC2⟩ : ∃ C, cs M n3 = C := ⟨_, rfl⟩
  have HC2 := Lib.hid hC2
  have HS2 : Hid (szc C2 ≤ 219902325555200) := Lib.hid (by rw [← hC2]; have h1 := szc_cs M n3; have h2 := HZ2.out; omega)
  clear hC2
  have HLN := Lib.hid (And.intro K3.out.1.length (And.intro K3.out.2.1.length K3.out.2.2.1.length))
  obtain ⟨n12, hn12⟩ : ∃ n : Nat, n1 + n2 = n := ⟨_, rfl⟩
  have h12 : (n1 : Int) + (n2 : Int) = (n12 : Int) := by omega
  have hb1 : (n12 : Int) ≤ 400 := by have := HN0.out; have := HN1.out; omega
  have hw12 : IntKind.i64.wrap (n12 : Int) = (n12 : Int) := IntWalk.i64_in _ (by omega)
  have hw12b : wrap64 (n12 : Int) = (n12 : Int) := IntWalk.wrap64_in _ (by omega)
  have H12 := Lib.hid hn12
  clear hn12
  generalize hV0 : w3 = V0 at K3 ⊢
  clear hV0
  have B0 : Hid (Below V0.heap.size V0 V0) := Lib.hid (Below.refl _ _)
  go_upto_region 5 with (go_at_call 15; refine (Of_right A1 n1 c1 K C0 _ (K3.out.1.below (B0.out) (Nat.le_refl _)) (by have := HZ0.out; omega) (fun r _ => by rw [HC0.out])).mono ?_; rintro e w10 ⟨x0, y0, rfl, f, kk⟩; have F0 := Lib.hid f; clear f; have B1 : Hid (Below V0.heap.size V0 (w10.alloc (.cells #[.complex .f64 (x0 0) (y0 0), .complex .f64 (x0 1) (y0 1), .complex .f64 (x0 2) (y0 2), .complex .f64 (x0 3) (y0 3)] 26)) ∧ Arr 26 (w10.alloc (.cells #[.complex .f64 (x0 0) (y0 0), .complex .f64 (x0 1) (y0 1), .complex .f64 (x0 2) (y0 2), .complex .f64 (x0 3) (y0 3)] 26)) w10.heap.size #[.complex .f64 (x0 0) (y0 0), .complex .f64 (x0 1) (y0 1), .complex .f64 (x0 2) (y0 2), .complex .f64 (x0 3) (y0 3)]) := Lib.hid ⟨below_al (below_step (B0.out) kk) (.cells #[.complex .f64 (x0 0) (y0 0), .complex .f64 (x0 1) (y0 1), .complex .f64 (x0 2) (y0 2), .complex .f64 (x0 3) (y0 3)] 26), Arr.new _ _ _⟩; clear kk; (try skip))
  generalize w10.alloc (.cells #[.complex .f64 (x0 0) (y0 0), .complex .f64 (x0 1) (y0 1), .complex .f64 (x0 2) (y0 2), .complex .f64 (x0 3) (y0 3)] 26) = V1 at B1 ⊢
  generalize w10.heap.size = g1 at B1 ⊢
  clear B0
  go_upto_region 6 with (go_at_call 15; refine (Of_right A2 n2 c2 L C1 _ (K3.out.2.1.below (B1.out.1) (Nat.le_refl _)) (by have := HZ1.out; omega) (fun r _ => by rw [HC1.out])).mono ?_; rintro e w11 ⟨x1, y1, rfl, f, kk⟩; have F1 := Lib.hid f; clear f; have B2 : Hid (Below V0.heap.size V0 (w11.alloc (.cells #[.complex .f64 (x1 0) (y1 0), .complex .f64 (x1 1) (y1 1), .complex .f64 (x1 2) (y1 2), .complex .f64 (x1 3) (y1 3)] 26)) ∧ Arr 26 (w11.alloc (.cells #[.complex .f64 (x1 0) (y1 0), .complex .f64 (x1 1) (y1 1), .complex .f64 (x1 2) (y1 2), .complex .f64 (x1 3) (y1 3)] 26)) g1 #[.complex .f64 (x0 0) (y0 0), .complex .f64 (x0 1) (y0 1), .complex .f64 (x0 2) (y0 2), .complex .f64 (x0 3) (y0 3)] ∧ Arr 26 (w11.alloc (.cells #[.complex .f64 (x1 0) (y1 0), .complex .f64 (x1 1) (y1 1), .complex .f64 (x1 2) (y1 2), .complex .f64 (x1 3) (y1 3)] 26)) w11.heap.size #[.complex .f64 (x1 0) (y1 0), .complex .f64 (x1 1) (y1 1), .complex .f64 (x1 2) (y1 2), .complex .f64 (x1 3) (y1 3)]) := Lib.hid ⟨below_al (below_step (B1.out.1) kk) (.cells #[.complex .f64 (x1 0) (y1 0), .complex .f64 (x1 1) (y1 1), .complex .f64 (x1 2) (y1 2), .complex .f64 (x1 3) (y1 3)] 26), ((B1.out.2).step kk).al (.cells #[.complex .f64 (x1 0) (y1 0), .complex .f64 (x1 1) (y1 1), .complex .f64 (x1 2) (y1 2), .complex .f64 (x1 3) (y1 3)] 26), Arr.new _ _ _⟩; clear kk; (try skip))
  generalize w11.alloc (.cells #[.complex .f64 (x1 0) (y1 0), .complex .f64 (x1 1) (y1 1), .complex .f64 (x1 2) (y1 2), .complex .f64 (x1 3) (y1 3)] 26) = V2 at B2 ⊢
  generalize w11.heap.size = g2 at B2 ⊢
  clear B1
  go_upto_region 7 with (go_at_call 15; refine (Of_right A3 n3 c3 M C2 _ (K3.out.2.2.1.below (B2.out.1) (Nat.le_refl _)) (by have := HZ2.out; omega) (fun r _ => by rw [HC2.out])).mono ?_; rintro e w12 ⟨x2, y2, rfl, f, kk⟩; have F2 := Lib.hid f; clear f; have B3 : Hid (Below V0.heap.size V0 (w12.alloc (.cells #[.complex .f64 (x2 0) (y2 0), .complex .f64 (x2 1) (y2 1), .complex .f64 (x2 2) (y2 2), .complex .f64 (x2 3) (y2 3)] 26)) ∧ Arr 26 (w12.alloc (.cells #[.complex .f64 (x2 0) (y2 0), .complex .f64 (x2 1) (y2 1), .complex .f64 (x2 2) (y2 2), .complex .f64 (x2 3) (y2 3)] 26)) g1 #[.complex .f64 (x0 0) (y0 0), .complex .f64 (x0 1) (y0 1), .complex .f64 (x0 2) (y0 2), .complex .f64 (x0 3) (y0 3)] ∧ Arr 26 (w12.alloc (.cells #[.complex .f64 (x2 0) (y2 0), .complex .f64 (x2 1) (y2 1), .complex .f64 (x2 2) (y2 2), .complex .f64 (x2 3) (y2 3)] 26)) g2 #[.complex .f64 (x1 0) (y1 0), .complex .f64 (x1 1) (y1 1), .complex .f64 (x1 2) (y1 2), .complex .f64 (x1 3) (y1 3)] ∧ Arr 26 (w12.alloc (.cells #[.complex .f64 (x2 0) (y2 0), .complex .f64 (x2 1) (y2 1), .complex .f64 (x2 2) (y2 2), .complex .f64 (x2 3) (y2 3)] 26)) w12.heap.size #[.complex .f64 (x2 0) (y2 0), .complex .f64 (x2 1) (y2 1), .complex .f64 (x2 2) (y2 2), .complex .f64 (x2 3) (y2 3)]) := Lib.hid ⟨below_al (below_step (B2.out.1) kk) (.cells #[.complex .f64 (x2 0) (y2 0), .complex .f64 (x2 1) (y2 1), .complex .f64 (x2 2) (y2 2), .complex .f64 (x2 3) (y2 3)] 26), ((B2.out.2.1).step kk).al (.cells #[.complex .f64 (x2 0) (y2 0), .complex .f64 (x2 1) (y2 1), .complex .f64 (x2 2) (y2 2), .complex .f64 (x2 3) (y2 3)] 26), ((B2.out.2.2).step kk).al (.cells #[.complex .f64 (x2 0) (y2 0), .complex .f64 (x2 1) (y2 1), .complex .f64 (x2 2) (y2 2), .complex .f64 (x2 3) (y2 3)] 26), Arr.new _ _ _⟩; clear kk; (try skip))
  generalize w12.alloc (.cells #[.complex .f64 (x2 0) (y2 0), .complex .f64 (x2 1) (y2 1), .complex .f64 (x2 2) (y2 2), .complex .f64 (x2 3) (y2 3)] 26) = V3 at B3 ⊢
  generalize w12.heap.size = g3 at B3 ⊢
  clear B2
  obtain ⟨⟨p0, p1, p2, p3⟩, -⟩ := (B3.out.2.1).four
  obtain ⟨⟨q0, q1, q2, q3⟩, -⟩ := (B3.out.2.2.1).four
  go_upto_region 8 with (go_at_call 16; refine (Join_right x0 y0 x1 y1 C0 C1 n1 _ (by have := HN0.out; omega) F0.out F1.out (by have := HS0.out; omega) (by have := HS1.out; omega) (Nat.le_trans (szc_add C0 C1 (n1 % 4) (Nat.mod_lt _ (by decide))) (by have := HS0.out; have := HS1.out; omega))).mono ?_; rintro e w13 ⟨x3, y3, rfl, f, kk⟩; have F3 := Lib.hid f; clear f; have B4 : Hid (Below V0.heap.size V0 (w13.alloc (.cells #[.complex .f64 (x3 0) (y3 0), .complex .f64 (x3 1) (y3 1), .complex .f64 (x3 2) (y3 2), .complex .f64 (x3 3) (y3 3)] 26)) ∧ Arr 26 (w13.alloc (.cells #[.complex .f64 (x3 0) (y3 0), .complex .f64 (x3 1) (y3 1), .complex .f64 (x3 2) (y3 2), .complex .f64 (x3 3) (y3 3)] 26)) g1 #[.complex .f64 (x0 0) (y0 0), .complex .f64 (x0 1) (y0 1), .complex .f64 (x0 2) (y0 2), .complex .f64 (x0 3) (y0 3)] ∧ Arr 26 (w13.alloc (.cells #[.complex .f64 (x3 0) (y3 0), .complex .f64 (x3 1) (y3 1), .complex .f64 (x3 2) (y3 2), .complex .f64 (x3 3) (y3 3)] 26)) g2 #[.complex .f64 (x1 0) (y1 0), .complex .f64 (x1 1) (y1 1), .complex .f64 (x1 2) (y1 2), .complex .f64 (x1 3) (y1 3)] ∧ Arr 26 (w13.alloc (.cells #[.complex .f64 (x3 0) (y3 0), .complex .f64 (x3 1) (y3 1), .complex .f64 (x3 2) (y3 2), .complex .f64 (x3 3) (y3 3)] 26)) g3 #[.complex .f64 (x2 0) (y2 0), .complex .f64 (x2 1) (y2 1), .complex .f64 (x2 2) (y2 2), .complex .f64 (x2 3) (y2 3)] ∧ Arr 26 (w13.alloc (.cells #[.complex .f64 (x3 0) (y3 0), .complex .f64 (x3 1) (y3 1), .complex .f64 (x3 2) (y3 2), .complex .f64 (x3 3) (y3 3)] 26)) w13.heap.size #[.complex .f64 (x3 0) (y3 0), .complex .f64 (x3 1) (y3 1), .complex .f64 (x3 2) (y3 2), .complex .f64 (x3 3) (y3 3)]) := Lib.hid ⟨below_al (below_step (B3.out.1) kk) (.cells #[.complex .f64 (x3 0) (y3 0), .complex .f64 (x3 1) (y3 1), .complex .f64 (x3 2) (y3 2), .complex .f64 (x3 3) (y3 3)] 26), ((B3.out.2.1).step kk).al (.cells #[.complex .f64 (x3 0) (y3 0), .complex .f64 (x3 1) (y3 1), .complex .f64 (x3 2) (y3 2), .complex .f64 (x3 3) (y3 3)] 26), ((B3.out.2.2.1).step kk).al (.cells #[.complex .f64 (x3 0) (y3 0), .complex .f64 (x3 1) (y3 1), .complex .f64 (x3 2) (y3 2), .complex .f64 (x3 3) (y3 3)] 26), ((B3.out.2.2.2).step kk).al (.cells #[.complex .f64 (x3 0) (y3 0), .complex .f64 (x3 1) (y3 1), .complex .f64 (x3 2) (y3 2), .complex .f64 (x3 3) (y3 3)] 26), Arr.new _ _ _⟩; clear kk; (try skip))
  generalize w13.alloc (.cells #[.complex .f64 (x3 0) (y3 0), .complex .f64 (x3 1) (y3 1), .complex .f64 (x3 2) (y3 2), .complex .f64 (x3 3) (y3 3)] 26) = V4 at B4 ⊢
  generalize w13.heap.size = g4 at B4 ⊢
  clear B3
  clear p0 p1 p2 p3
  clear q0 q1 q2 q3
  obtain ⟨⟨p0, p1, p2, p3⟩, -⟩ := (B4.out.2.2.1).four
  obtain ⟨⟨q0, q1, q2, q3⟩, -⟩ := (B4.out.2.2.2.1).four
  go_upto_region 9 with (go_at_call 16; refine (Join_right x1 y1 x2 y2 C1 C2 n2 _ (by have := HN1.out; omega) F1.out F2.out (by have := HS1.out; omega) (by have := HS2.out; omega) (Nat.le_trans (szc_add C1 C2 (n2 % 4) (Nat.mod_lt _ (by decide))) (by have := HS1.out; have := HS2.out; omega))).mono ?_; rintro e w14 ⟨x4, y4, rfl, f, kk⟩; have F4 := Lib.hid f; clear f; have B5 : Hid (Below V0.heap.size V0 (w14.alloc (.cells #[.complex .f64 (x4 0) (y4 0), .complex .f64 (x4 1) (y4 1), .complex .f64 (x4 2) (y4 2), .complex .f64 (x4 3) (y4 3)] 26)) ∧ Arr 26 (w14.alloc (.cells #[.complex .f64 (x4 0) (y4 0), .complex .f64 (x4 1) (y4 1), .complex .f64 (x4 2) (y4 2), .complex .f64 (x4 3) (y4 3)] 26)) g1 #[.complex .f64 (x0 0) (y0 0), .complex .f64 (x0 1) (y0 1), .complex .f64 (x0 2) (y0 2), .complex .f64 (x0 3) (y0 3)] ∧ Arr 26 (w14.alloc (.cells #[.complex .f64 (x4 0) (y4 0), .complex .f64 (x4 1) (y4 1), .complex .f64 (x4 2) (y4 2), .complex .f64 (x4 3) (y4 3)] 26)) g2 #[.complex .f64 (x1 0) (y1 0), .complex .f64 (x1 1) (y1 1), .complex .f64 (x1 2) (y1 2), .complex .f64 (x1 3) (y1 3)] ∧ Arr 26 (w14.alloc (.cells #[.complex .f64 (x4 0) (y4 0), .complex .f64 (x4 1) (y4 1), .complex .f64 (x4 2) (y4 2), .complex .f64 (x4 3) (y4 3)] 26)) g3 #[.complex .f64 (x2 0) (y2 0), .complex .f64 (x2 1) (y2 1), .complex .f64 (x2 2) (y2 2), .complex .f64 (x2 3) (y2 3)] ∧ Arr 26 (w14.alloc (.cells #[.complex .f64 (x4 0) (y4 0), .complex .f64 (x4 1) (y4 1), .complex .f64 (x4 2) (y4 2), .complex .f64 (x4 3) (y4 3)] 26)) g4 #[.complex .f64 (x3 0) (y3 0), .complex .f64 (x3 1) (y3 1), .complex .f64 (x3 2) (y3 2), .complex .f64 (x3 3) (y3 3)] ∧ Arr 26 (w14.alloc (.cells #[.complex .f64 (x4 0) (y4 0), .complex .f64 (x4 1) (y4 1), .complex .f64 (x4 2) (y4 2), .complex .f64 (x4 3) (y4 3)] 26)) w14.heap.size #[.complex .f64 (x4 0) (y4 0), .complex .f64 (x4 1) (y4 1), .complex .f64 (x4 2) (y4 2), .complex .f64 (x4 3) (y4 3)]) := Lib.hid ⟨below_al (below_step (B4.out.1) kk) (.cells #[.complex .f64 (x4 0) (y4 0), .complex .f64 (x4 1) (y4 1), .complex .f64 (x4 2) (y4 2), .complex .f64 (x4 3) (y4 3)] 26), ((B4.out.2.1).step kk).al (.cells #[.complex .f64 (x4 0) (y4 0), .complex .f64 (x4 1) (y4 1), .complex .f64 (x4 2) (y4 2), .complex .f64 (x4 3) (y4 3)] 26), ((B4.out.2.2.1).step kk).al (.cells #[.complex .f64 (x4 0) (y4 0), .complex .f64 (x4 1) (y4 1), .complex .f64 (x4 2) (y4 2), .complex .f64 (x4 3) (y4 3)] 26), ((B4.out.2.2.2.1).step kk).al (.cells #[.complex .f64 (x4 0) (y4 0), .complex .f64 (x4 1) (y4 1), .complex .f64 (x4 2) (y4 2), .complex .f64 (x4 3) (y4 3)] 26), ((B4.out.2.2.2.2).step kk).al (.cells #[.complex .f64 (x4 0) (y4 0), .complex .f64 (x4 1) (y4 1), .complex .f64 (x4 2) (y4 2), .complex .f64 (x4 3) (y4 3)] 26), Arr.new _ _ _⟩; clear kk; (try skip))
  generalize w14.alloc (.cells #[.complex .f64 (x4 0) (y4 0), .complex .f64 (x4 1) (y4 1), .complex .f64 (x4 2) (y4 2), .complex .f64 (x4 3) (y4 3)] 26) = V5 at B5 ⊢
  generalize w14.heap.size = g5 at B5 ⊢
  clear B4
  clear p0 p1 p2 p3
  clear q0 q1 q2 q3
  have HSA : Hid (szc (addc C0 C1 (n1 % 4)) ≤ 439804651110400) := Lib.hid (Nat.le_trans (szc_add C0 C1 (n1 % 4) (Nat.mod_lt _ (by decide))) (by have := HS0.out; have := HS1.out; omega))
  have HSB : Hid (szc (addc C1 C2 (n2 % 4)) ≤ 439804651110400) := Lib.hid (Nat.le_trans (szc_add C1 C2 (n2 % 4) (Nat.mod_lt _ (by decide))) (by have := HS1.out; have := HS2.out; omega))
  obtain ⟨⟨p0, p1, p2, p3⟩, -⟩ := (B5.out.2.2.2.2.1).four
  obtain ⟨⟨q0, q1, q2, q3⟩, -⟩ := (B5.out.2.2.2.1).four
  go_upto_region 10 with (go_at_call 16; refine (Join_right x3 y3 x2 y2 (addc C0 C1 (n1 % 4)) C2 n12 _ (by have := H12.out; have := HN0.out; have := HN1.out; omega) F3.out F2.out (by have := HSA.out; omega) (by have := HS2.out; omega) (Nat.le_trans (szc_add (addc C0 C1 (n1 % 4)) C2 (n12 % 4) (Nat.mod_lt _ (by decide))) (by have := HSA.out; have := HS2.out; omega))).mono ?_; rintro e w15 ⟨x5, y5, rfl, f, kk⟩; have F5 := Lib.hid f; clear f; have B6 : Hid (Below V0.heap.size V0 (w15.alloc (.cells #[.complex .f64 (x5 0) (y5 0), .complex .f64 (x5 1) (y5 1), .complex .f64 (x5 2) (y5 2), .complex .f64 (x5 3) (y5 3)] 26)) ∧ Arr 26 (w15.alloc (.cells #[.complex .f64 (x5 0) (y5 0), .complex .f64 (x5 1) (y5 1), .complex .f64 (x5 2) (y5 2), .complex .f64 (x5 3) (y5 3)] 26)) g1 #[.complex .f64 (x0 0) (y0 0), .complex .f64 (x0 1) (y0 1), .complex .f64 (x0 2) (y0 2), .complex .f64 (x0 3) (y0 3)] ∧ Arr 26 (w15.alloc (.cells #[.complex .f64 (x5 0) (y5 0), .complex .f64 (x5 1) (y5 1), .complex .f64 (x5 2) (y5 2), .complex .f64 (x5 3) (y5 3)] 26)) g2 #[.complex .f64 (x1 0) (y1 0), .complex .f64 (x1 1) (y1 1), .complex .f64 (x1 2) (y1 2), .complex .f64 (x1 3) (y1 3)] ∧ Arr 26 (w15.alloc (.cells #[.complex .f64 (x5 0) (y5 0), .complex .f64 (x5 1) (y5 1), .complex .f64 (x5 2) (y5 2), .complex .f64 (x5 3) (y5 3)] 26)) g3 #[.complex .f64 (x2 0) (y2 0), .complex .f64 (x2 1) (y2 1), .complex .f64 (x2 2) (y2 2), .complex .f64 (x2 3) (y2 3)] ∧ Arr 26 (w15.alloc (.cells #[.complex .f64 (x5 0) (y5 0), .complex .f64 (x5 1) (y5 1), .complex .f64 (x5 2) (y5 2), .complex .f64 (x5 3) (y5 3)] 26)) g4 #[.complex .f64 (x3 0) (y3 0), .complex .f64 (x3 1) (y3 1), .complex .f64 (x3 2) (y3 2), .complex .f64 (x3 3) (y3 3)] ∧ Arr 26 (w15.alloc (.cells #[.complex .f64 (x5 0) (y5 0), .complex .f64 (x5 1) (y5 1), .complex .f64 (x5 2) (y5 2), .complex .f64 (x5 3) (y5 3)] 26)) g5 #[.complex .f64 (x4 0) (y4 0), .complex .f64 (x4 1) (y4 1), .complex .f64 (x4 2) (y4 2), .complex .f64 (x4 3) (y4 3)] ∧ Arr 26 (w15.alloc (.cells #[.complex .f64 (x5 0) (y5 0), .complex .f64 (x5 1) (y5 1), .complex .f64 (x5 2) (y5 2), .complex .f64 (x5 3) (y5 3)] 26)) w15.heap.size #[.complex .f64 (x5 0) (y5 0), .complex .f64 (x5 1) (y5 1), .complex .f64 (x5 2) (y5 2), .complex .f64 (x5 3) (y5 3)]) := Lib.hid ⟨below_al (below_step (B5.out.1) kk) (.cells #[.complex .f64 (x5 0) (y5 0), .complex .f64 (x5 1) (y5 1), .complex .f64 (x5 2) (y5 2), .complex .f64 (x5 3) (y5 3)] 26), ((B5.out.2.1).step kk).al (.cells #[.complex .f64 (x5 0) (y5 0), .complex .f64 (x5 1) (y5 1), .complex .f64 (x5 2) (y5 2), .complex .f64 (x5 3) (y5 3)] 26), ((B5.out.2.2.1).step kk).al (.cells #[.complex .f64 (x5 0) (y5 0), .complex .f64 (x5 1) (y5 1), .complex .f64 (x5 2) (y5 2), .complex .f64 (x5 3) (y5 3)] 26), ((B5.out.2.2.2.1).step kk).al (.cells #[.complex .f64 (x5 0) (y5 0), .complex .f64 (x5 1) (y5 1), .complex .f64 (x5 2) (y5 2), .complex .f64 (x5 3) (y5 3)] 26), ((B5.out.2.2.2.2.1).step kk).al (.cells #[.complex .f64 (x5 0) (y5 0), .complex .f64 (x5 1) (y5 1), .complex .f64 (x5 2) (y5 2), .complex .f64 (x5 3) (y5 3)] 26), ((B5.out.2.2.2.2.2).step kk).al (.cells #[.complex .f64 (x5 0) (y5 0), .complex .f64 (x5 1) (y5 1), .complex .f64 (x5 2) (y5 2), .complex .f64 (x5 3) (y5 3)] 26), Arr.new _ _ _⟩; clear kk; (try skip))
  generalize w15.alloc (.cells #[.complex .f64 (x5 0) (y5 0), .complex .f64 (x5 1) (y5 1), .complex .f64 (x5 2) (y5 2), .complex .f64 (x5 3) (y5 3)] 26) = V6 at B6 ⊢
  generalize w15.heap.size = g6 at B6 ⊢
  clear B5
  clear p0 p1 p2 p3
  clear q0 q1 q2 q3
  obtain ⟨⟨p0, p1, p2, p3⟩, -⟩ := (B6.out.2.1).four
  obtain ⟨⟨q0, q1, q2, q3⟩, -⟩ := (B6.out.2.2.2.2.2.1).four
  go_upto_region 11 with (go_at_call 16; refine (Join_right x0 y0 x4 y4 C0 (addc C1 C2 (n2 % 4)) n1 _ (by have := HN0.out; omega) F0.out F4.out (by have := HS0.out; omega) (by have := HSB.out; omega) (Nat.le_trans (szc_add C0 (addc C1 C2 (n2 % 4)) (n1 % 4) (Nat.mod_lt _ (by decide))) (by have := HS0.out; have := HSB.out; omega))).mono ?_; rintro e w16 ⟨x6, y6, rfl, f, kk⟩; have F6 := Lib.hid f; clear f; have B7 : Hid (Below V0.heap.size V0 (w16.alloc (.cells #[.complex .f64 (x6 0) (y6 0), .complex .f64 (x6 1) (y6 1), .complex .f64 (x6 2) (y6 2), .complex .f64 (x6 3) (y6 3)] 26)) ∧ Arr 26 (w16.alloc (.cells #[.complex .f64 (x6 0) (y6 0), .complex .f64 (x6 1) (y6 1), .complex .f64 (x6 2) (y6 2), .complex .f64 (x6 3) (y6 3)] 26)) g1 #[.complex .f64 (x0 0) (y0 0), .complex .f64 (x0 1) (y0 1), .complex .f64 (x0 2) (y0 2), .complex .f64 (x0 3) (y0 3)] ∧ Arr 26 (w16.alloc (.cells #[.complex .f64 (x6 0) (y6 0), .complex .f64 (x6 1) (y6 1), .complex .f64 (x6 2) (y6 2), .complex .f64 (x6 3) (y6 3)] 26)) g2 #[.complex .f64 (x1 0) (y1 0), .complex .f64 (x1 1) (y1 1), .complex .f64 (x1 2) (y1 2), .complex .f64 (x1 3) (y1 3)] ∧ Arr 26 (w16.alloc (.cells #[.complex .f64 (x6 0) (y6 0), .complex .f64 (x6 1) (y6 1), .complex .f64 (x6 2) (y6 2), .complex .f64 (x6 3) (y6 3)] 26)) g3 #[.complex .f64 (x2 0) (y2 0), .complex .f64 (x2 1) (y2 1), .complex .f64 (x2 2) (y2 2), .complex .f64 (x2 3) (y2 3)] ∧ Arr 26 (w16.alloc (.cells #[.complex .f64 (x6 0) (y6 0), .complex .f64 (x6 1) (y6 1), .complex .f64 (x6 2) (y6 2), .complex .f64 (x6 3) (y6 3)] 26)) g4 #[.complex .f64 (x3 0) (y3 0), .complex .f64 (x3 1) (y3 1), .complex .f64 (x3 2) (y3 2), .complex .f64 (x3 3) (y3 3)] ∧ Arr 26 (w16.alloc (.cells #[.complex .f64 (x6 0) (y6 0), .complex .f64 (x6 1) (y6 1), .complex .f64 (x6 2) (y6 2), .complex .f64 (x6 3) (y6 3)] 26)) g5 #[.complex .f64 (x4 0) (y4 0), .complex .f64 (x4 1) (y4 1), .complex .f64 (x4 2) (y4 2), .complex .f64 (x4 3) (y4 3)] ∧ Arr 26 (w16.alloc (.cells #[.complex .f64 (x6 0) (y6 0), .complex .f64 (x6 1) (y6 1), .complex .f64 (x6 2) (y6 2), .complex .f64 (x6 3) (y6 3)] 26)) g6 #[.complex .f64 (x5 0) (y5 0), .complex .f64 (x5 1) (y5 1), .complex .f64 (x5 2) (y5 2), .complex .f64 (x5 3) (y5 3)] ∧ Arr 26 (w16.alloc (.cells #[.complex .f64 (x6 0) (y6 0), .complex .f64 (x6 1) (y6 1), .complex .f64 (x6 2) (y6 2), .complex .f64 (x6 3) (y6 3)] 26)) w16.heap.size #[.complex .f64 (x6 0) (y6 0), .complex .f64 (x6 1) (y6 1), .complex .f64 (x6 2) (y6 2), .complex .f64 (x6 3) (y6 3)]) := Lib.hid ⟨below_al (below_step (B6.out.1) kk) (.cells #[.complex .f64 (x6 0) (y6 0), .complex .f64 (x6 1) (y6 1), .complex .f64 (x6 2) (y6 2), .complex .f64 (x6 3) (y6 3)] 26), ((B6.out.2.1).step kk).al (.cells #[.complex .f64 (x6 0) (y6 0), .complex .f64 (x6 1) (y6 1), .complex .f64 (x6 2) (y6 2), .complex .f64 (x6 3) (y6 3)] 26), ((B6.out.2.2.1).step kk).al (.cells #[.complex .f64 (x6 0) (y6 0), .complex .f64 (x6 1) (y6 1), .complex .f64 (x6 2) (y6 2), .complex .f64 (x6 3) (y6 3)] 26), ((B6.out.2.2.2.1).step kk).al (.cells #[.complex .f64 (x6 0) (y6 0), .complex .f64 (x6 1) (y6 1), .complex .f64 (x6 2) (y6 2), .complex .f64 (x6 3) (y6 3)] 26), ((B6.out.2.2.2.2.1).step kk).al (.cells #[.complex .f64 (x6 0) (y6 0), .complex .f64 (x6 1) (y6 1), .complex .f64 (x6 2) (y6 2), .complex .f64 (x6 3) (y6 3)] 26), ((B6.out.2.2.2.2.2.1).step kk).al (.cells #[.complex .f64 (x6 0) (y6 0), .complex .f64 (x6 1) (y6 1), .complex .f64 (x6 2) (y6 2), .complex .f64 (x6 3) (y6 3)] 26), ((B6.out.2.2.2.2.2.2).step kk).al (.cells #[.complex .f64 (x6 0) (y6 0), .complex .f64 (x6 1) (y6 1), .complex .f64 (x6 2) (y6 2), .complex .f64 (x6 3) (y6 3)] 26), Arr.new _ _ _⟩; clear kk; (try skip))
  generalize w16.alloc (.cells #[.complex .f64 (x6 0) (y6 0), .complex .f64 (x6 1) (y6 1), .complex .f64 (x6 2) (y6 2), .complex .f64 (x6 3) (y6 3)] 26) = V7 at B7 ⊢
  generalize w16.heap.size = g7 at B7 ⊢
  clear B6
  clear p0 p1 p2 p3
  clear q0 q1 q2 q3
  have HALL : Hid (∀ r < 4, cs (flt (fun j => if j = 0 then K else if j = 1 then L else M) 3) (tn (fun j => if j = 0 then n1 else if j = 1 then n2 else n3) 3) r = addc (addc C0 C1 (n1 % 4)) C2 (n12 % 4) r) := Lib.hid (fun r hr => by
    show cs ((([] ++ K) ++ L) ++ M) (((0 + n1) + n2) + n3) r = _
    have e1 : K.length = n1 := HLN.out.1
    have e2 : L.length = n2 := HLN.out.2.1
    rw [List.nil_append, Nat.zero_add, H12.out]
    have e12 : (K ++ L).length = n12 := by rw [List.length_append, e1, e2]; exact H12.out
    rw [cs_cat (K ++ L) M n12 e12 r hr n3]
    refine addc_ext (fun s hs => ?_) (fun s _ => by rw [HC2.out]) _ r hr
    rw [← H12.out, cs_cat K L n1 e1 s hs n2, HC0.out, HC1.out])
  have HSZ : Hid (sz (flt (fun j => if j = 0 then K else if j = 1 then L else M) 3) (tn (fun j => if j = 0 then n1 else if j = 1 then n2 else n3) 3) ≤ 1125899906842624) := Lib.hid (by
    show sz ((([] ++ K) ++ L) ++ M) (((0 + n1) + n2) + n3) ≤ _
    have h0 : ∀ x ∈ (([] ++ K) ++ L) ++ M, x.natAbs ≤ 1099511627776 := fun x hx => by
      simp only [List.nil_append, List.mem_append] at hx
      rcases hx with (h | h) | h
      · exact HE0.out x h
      · exact HE1.out x h
      · exact HE2.out x h
    have h1 := sz_le h0 (((0 + n1) + n2) + n3); have := HN0.out; have := HN1.out; have := HN2.out; omega)
  go_upto_region 12 with (first | (go_at_call 15; have _q := kc; refine (Of_right AC _ cC _ (addc (addc C0 C1 (n1 % 4)) C2 (n12 % 4)) _ OC.out HSZ.out HALL.out).mono ?_; rintro e w17 ⟨x7, y7, rfl, f, kk⟩; have F7 := Lib.hid f; clear f; have B8 : Hid (Below V0.heap.size V0 (w17.alloc (.cells #[.complex .f64 (x7 0) (y7 0), .complex .f64 (x7 1) (y7 1), .complex .f64 (x7 2) (y7 2), .complex .f64 (x7 3) (y7 3)] 26)) ∧ Arr 26 (w17.alloc (.cells #[.complex .f64 (x7 0) (y7 0), .complex .f64 (x7 1) (y7 1), .complex .f64 (x7 2) (y7 2), .complex .f64 (x7 3) (y7 3)] 26)) g1 #[.complex .f64 (x0 0) (y0 0), .complex .f64 (x0 1) (y0 1), .complex .f64 (x0 2) (y0 2), .complex .f64 (x0 3) (y0 3)] ∧ Arr 26 (w17.alloc (.cells #[.complex .f64 (x7 0) (y7 0), .complex .f64 (x7 1) (y7 1), .complex .f64 (x7 2) (y7 2), .complex .f64 (x7 3) (y7 3)] 26)) g2 #[.complex .f64 (x1 0) (y1 0), .complex .f64 (x1 1) (y1 1), .complex .f64 (x1 2) (y1 2), .complex .f64 (x1 3) (y1 3)] ∧ Arr 26 (w17.alloc (.cells #[.complex .f64 (x7 0) (y7 0), .complex .f64 (x7 1) (y7 1), .complex .f64 (x7 2) (y7 2), .complex .f64 (x7 3) (y7 3)] 26)) g3 #[.complex .f64 (x2 0) (y2 0), .complex .f64 (x2 1) (y2 1), .complex .f64 (x2 2) (y2 2), .complex .f64 (x2 3) (y2 3)] ∧ Arr 26 (w17.alloc (.cells #[.complex .f64 (x7 0) (y7 0), .complex .f64 (x7 1) (y7 1), .complex .f64 (x7 2) (y7 2), .complex .f64 (x7 3) (y7 3)] 26)) g4 #[.complex .f64 (x3 0) (y3 0), .complex .f64 (x3 1) (y3 1), .complex .f64 (x3 2) (y3 2), .complex .f64 (x3 3) (y3 3)] ∧ Arr 26 (w17.alloc (.cells #[.complex .f64 (x7 0) (y7 0), .complex .f64 (x7 1) (y7 1), .complex .f64 (x7 2) (y7 2), .complex .f64 (x7 3) (y7 3)] 26)) g5 #[.complex .f64 (x4 0) (y4 0), .complex .f64 (x4 1) (y4 1), .complex .f64 (x4 2) (y4 2), .complex .f64 (x4 3) (y4 3)] ∧ Arr 26 (w17.alloc (.cells #[.complex .f64 (x7 0) (y7 0), .complex .f64 (x7 1) (y7 1), .complex .f64 (x7 2) (y7 2), .complex .f64 (x7 3) (y7 3)] 26)) g6 #[.complex .f64 (x5 0) (y5 0), .complex .f64 (x5 1) (y5 1), .complex .f64 (x5 2) (y5 2), .complex .f64 (x5 3) (y5 3)] ∧ Arr 26 (w17.alloc (.cells #[.complex .f64 (x7 0) (y7 0), .complex .f64 (x7 1) (y7 1), .complex .f64 (x7 2) (y7 2), .complex .f64 (x7 3) (y7 3)] 26)) g7 #[.complex .f64 (x6 0) (y6 0), .complex .f64 (x6 1) (y6 1), .complex .f64 (x6 2) (y6 2), .complex .f64 (x6 3) (y6 3)] ∧ Arr 26 (w17.alloc (.cells #[.complex .f64 (x7 0) (y7 0), .complex .f64 (x7 1) (y7 1), .complex .f64 (x7 2) (y7 2), .complex .f64 (x7 3) (y7 3)] 26)) w17.heap.size #[.complex .f64 (x7 0) (y7 0), .complex .f64 (x7 1) (y7 1), .complex .f64 (x7 2) (y7 2), .complex .f64 (x7 3) (y7 3)]) := Lib.hid ⟨below_al (below_step (below_step (below_al2 (B7.out.1) _) kc) kk) (.cells #[.complex .f64 (x7 0) (y7 0), .complex .f64 (x7 1) (y7 1), .complex .f64 (x7 2) (y7 2), .complex .f64 (x7 3) (y7 3)] 26), ((((B7.out.2.1).al _).step kc).step kk).al (.cells #[.complex .f64 (x7 0) (y7 0), .complex .f64 (x7 1) (y7 1), .complex .f64 (x7 2) (y7 2), .complex .f64 (x7 3) (y7 3)] 26), ((((B7.out.2.2.1).al _).step kc).step kk).al (.cells #[.complex .f64 (x7 0) (y7 0), .complex .f64 (x7 1) (y7 1), .complex .f64 (x7 2) (y7 2), .complex .f64 (x7 3) (y7 3)] 26), ((((B7.out.2.2.2.1).al _).step kc).step kk).al (.cells #[.complex .f64 (x7 0) (y7 0), .complex .f64 (x7 1) (y7 1), .complex .f64 (x7 2) (y7 2), .complex .f64 (x7 3) (y7 3)] 26), ((((B7.out.2.2.2.2.1).al _).step kc).step kk).al (.cells #[.complex .f64 (x7 0) (y7 0), .complex .f64 (x7 1) (y7 1), .complex .f64 (x7 2) (y7 2), .complex .f64 (x7 3) (y7 3)] 26), ((((B7.out.2.2.2.2.2.1).al _).step kc).step kk).al (.cells #[.complex .f64 (x7 0) (y7 0), .complex .f64 (x7 1) (y7 1), .complex .f64 (x7 2) (y7 2), .complex .f64 (x7 3) (y7 3)] 26), ((((B7.out.2.2.2.2.2.2.1).al _).step kc).step kk).al (.cells #[.complex .f64 (x7 0) (y7 0), .complex .f64 (x7 1) (y7 1), .complex .f64 (x7 2) (y7 2), .complex .f64 (x7 3) (y7 3)] 26), ((((B7.out.2.2.2.2.2.2.2).al _).step kc).step kk).al (.cells #[.complex .f64 (x7 0) (y7 0), .complex .f64 (x7 1) (y7 1), .complex .f64 (x7 2) (y7 2), .complex .f64 (x7 3) (y7 3)] 26), Arr.new _ _ _⟩; clear kk; (try skip)) | (go_at_call 17; refine (Concat3_any _ (fun j => if j = 0 then A1 else if j = 1 then A2 else A3) (fun j => if j = 0 then n1 else if j = 1 then n2 else n3) (fun j => if j = 0 then c1 else if j = 1 then c2 else c3) (fun j => if j = 0 then K else if j = 1 then L else M) _ (Arr.new _ _ _) (fun j hj => by rcases (show j = 0 ∨ j = 1 ∨ j = 2 by omega) with rfl | rfl | rfl; exact K3.out.1.below (below_al2 (B7.out.1) _) (Nat.le_refl _); exact K3.out.2.1.below (below_al2 (B7.out.1) _) (Nat.le_refl _); exact K3.out.2.2.1.below (below_al2 (B7.out.1) _) (Nat.le_refl _)) (fun j hj => by have a := HN0.out; have b := HN1.out; have c := HN2.out; rcases (show j = 0 ∨ j = 1 ∨ j = 2 by omega) with rfl | rfl | rfl <;> assumption)).mono ?_; rintro e wc ⟨AC, cC, rfl, oc, kc⟩; have OC := Lib.hid (sees_own oc); clear oc))
  generalize w17.alloc (.cells #[.complex .f64 (x7 0) (y7 0), .complex .f64 (x7 1) (y7 1), .complex .f64 (x7 2) (y7 2), .complex .f64 (x7 3) (y7 3)] 26) = V8 at B8 ⊢
  generalize w17.heap.size = g8 at B8 ⊢
  clear B7 kc OC
  obtain ⟨⟨p0, p1, p2, p3⟩, -⟩ := (B8.out.2.1).four
  obtain ⟨⟨q0, q1, q2, q3⟩, -⟩ := (B8.out.2.2.1).four
  go_upto_region 13 with (go_at_call 16; refine (Join0_right x0 y0 x1 y1 C0 C1 _ F0.out F1.out (by have := HS0.out; omega) (by have := HS1.out; omega) (Nat.le_trans (szc_add C0 C1 0 (by decide)) (by have := HS0.out; have := HS1.out; omega))).mono ?_; rintro e w18 ⟨x8, y8, rfl, f, kk⟩; have F8 := Lib.hid f; clear f; have B9 : Hid (Below V0.heap.size V0 (w18.alloc (.cells #[.complex .f64 (x8 0) (y8 0), .complex .f64 (x8 1) (y8 1), .complex .f64 (x8 2) (y8 2), .complex .f64 (x8 3) (y8 3)] 26)) ∧ Arr 26 (w18.alloc (.cells #[.complex .f64 (x8 0) (y8 0), .complex .f64 (x8 1) (y8 1), .complex .f64 (x8 2) (y8 2), .complex .f64 (x8 3) (y8 3)] 26)) g1 #[.complex .f64 (x0 0) (y0 0), .complex .f64 (x0 1) (y0 1), .complex .f64 (x0 2) (y0 2), .complex .f64 (x0 3) (y0 3)] ∧ Arr 26 (w18.alloc (.cells #[.complex .f64 (x8 0) (y8 0), .complex .f64 (x8 1) (y8 1), .complex .f64 (x8 2) (y8 2), .complex .f64 (x8 3) (y8 3)] 26)) g2 #[.complex .f64 (x1 0) (y1 0), .complex .f64 (x1 1) (y1 1), .complex .f64 (x1 2) (y1 2), .complex .f64 (x1 3) (y1 3)] ∧ Arr 26 (w18.alloc (.cells #[.complex .f64 (x8 0) (y8 0), .complex .f64 (x8 1) (y8 1), .complex .f64 (x8 2) (y8 2), .complex .f64 (x8 3) (y8 3)] 26)) g3 #[.complex .f64 (x2 0) (y2 0), .complex .f64 (x2 1) (y2 1), .complex .f64 (x2 2) (y2 2), .complex .f64 (x2 3) (y2 3)] ∧ Arr 26 (w18.alloc (.cells #[.complex .f64 (x8 0) (y8 0), .complex .f64 (x8 1) (y8 1), .complex .f64 (x8 2) (y8 2), .complex .f64 (x8 3) (y8 3)] 26)) g4 #[.complex .f64 (x3 0) (y3 0), .complex .f64 (x3 1) (y3 1), .complex .f64 (x3 2) (y3 2), .complex .f64 (x3 3) (y3 3)] ∧ Arr 26 (w18.alloc (.cells #[.complex .f64 (x8 0) (y8 0), .complex .f64 (x8 1) (y8 1), .complex .f64 (x8 2) (y8 2), .complex .f64 (x8 3) (y8 3)] 26)) g5 #[.complex .f64 (x4 0) (y4 0), .complex .f64 (x4 1) (y4 1), .complex .f64 (x4 2) (y4 2), .complex .f64 (x4 3) (y4 3)] ∧ Arr 26 (w18.alloc (.cells #[.complex .f64 (x8 0) (y8 0), .complex .f64 (x8 1) (y8 1), .complex .f64 (x8 2) (y8 2), .complex .f64 (x8 3) (y8 3)] 26)) g6 #[.complex .f64 (x5 0) (y5 0), .complex .f64 (x5 1) (y5 1), .complex .f64 (x5 2) (y5 2), .complex .f64 (x5 3) (y5 3)] ∧ Arr 26 (w18.alloc (.cells #[.complex .f64 (x8 0) (y8 0), .complex .f64 (x8 1) (y8 1), .complex .f64 (x8 2) (y8 2), .complex .f64 (x8 3) (y8 3)] 26)) g7 #[.complex .f64 (x6 0) (y6 0), .complex .f64 (x6 1) (y6 1), .complex .f64 (x6 2) (y6 2), .complex .f64 (x6 3) (y6 3)] ∧ Arr 26 (w18.alloc (.cells #[.complex .f64 (x8 0) (y8 0), .complex .f64 (x8 1) (y8 1), .complex .f64 (x8 2) (y8 2), .complex .f64 (x8 3) (y8 3)] 26)) g8 #[.complex .f64 (x7 0) (y7 0), .complex .f64 (x7 1) (y7 1), .complex .f64 (x7 2) (y7 2), .complex .f64 (x7 3) (y7 3)] ∧ Arr 26 (w18.alloc (.cells #[.complex .f64 (x8 0) (y8 0), .complex .f64 (x8 1) (y8 1), .complex .f64 (x8 2) (y8 2), .complex .f64 (x8 3) (y8 3)] 26)) w18.heap.size #[.complex .f64 (x8 0) (y8 0), .complex .f64 (x8 1) (y8 1), .complex .f64 (x8 2) (y8 2), .complex .f64 (x8 3) (y8 3)]) := Lib.hid ⟨below_al (below_step (B8.out.1) kk) (.cells #[.complex .f64 (x8 0) (y8 0), .complex .f64 (x8 1) (y8 1), .complex .f64 (x8 2) (y8 2), .complex .f64 (x8 3) (y8 3)] 26), ((B8.out.2.1).step kk).al (.cells #[.complex .f64 (x8 0) (y8 0), .complex .f64 (x8 1) (y8 1), .complex .f64 (x8 2) (y8 2), .complex .f64 (x8 3) (y8 3)] 26), ((B8.out.2.2.1).step kk).al (.cells #[.complex .f64 (x8 0) (y8 0), .complex .f64 (x8 1) (y8 1), .complex .f64 (x8 2) (y8 2), .complex .f64 (x8 3) (y8 3)] 26), ((B8.out.2.2.2.1).step kk).al (.cells #[.complex .f64 (x8 0) (y8 0), .complex .f64 (x8 1) (y8 1), .complex .f64 (x8 2) (y8 2), .complex .f64 (x8 3) (y8 3)] 26), ((B8.out.2.2.2.2.1).step kk).al (.cells #[.complex .f64 (x8 0) (y8 0), .complex .f64 (x8 1) (y8 1), .complex .f64 (x8 2) (y8 2), .complex .f64 (x8 3) (y8 3)] 26), ((B8.out.2.2.2.2.2.1).step kk).al (.cells #[.complex .f64 (x8 0) (y8 0), .complex .f64 (x8 1) (y8 1), .complex .f64 (x8 2) (y8 2), .complex .f64 (x8 3) (y8 3)] 26), ((B8.out.2.2.2.2.2.2.1).step kk).al (.cells #[.complex .f64 (x8 0) (y8 0), .complex .f64 (x8 1) (y8 1), .complex .f64 (x8 2) (y8 2), .complex .f64 (x8 3) (y8 3)] 26), ((B8.out.2.2.2.2.2.2.2.1).step kk).al (.cells #[.complex .f64 (x8 0) (y8 0), .complex .f64 (x8 1) (y8 1), .complex .f64 (x8 2) (y8 2), .complex .f64 (x8 3) (y8 3)] 26), ((B8.out.2.2.2.2.2.2.2.2).step kk).al (.cells #[.complex .f64 (x8 0) (y8 0), .complex .f64 (x8 1) (y8 1), .complex .f64 (x8 2) (y8 2), .complex .f64 (x8 3) (y8 3)] 26), Arr.new _ _ _⟩; clear kk; (try skip))
  generalize w18.alloc (.cells #[.complex .f64 (x8 0) (y8 0), .complex .f64 (x8 1) (y8 1), .complex .f64 (x8 2) (y8 2), .complex .f64 (x8 3) (y8 3)] 26) = V9 at B9 ⊢
  generalize w18.heap.size = g9 at B9 ⊢
  clear B8
  clear p0 p1 p2 p3
  clear q0 q1 q2 q3
  obtain ⟨⟨p0, p1, p2, p3⟩, -⟩ := (B9.out.2.2.2.2.2.2.1).four
  obtain ⟨⟨q0, q1, q2, q3⟩, -⟩ := (B9.out.2.2.2.2.2.2.2.1).four
  obtain ⟨⟨r0, r1, r2, r3⟩, -⟩ := (B9.out.2.2.2.2.2.2.2.2.1).four
  have m1 := neq_z (F5.out.same (F6.out.ext (fun r hr => (addc_assoc C0 C1 C2 (n1 % 4) (n2 % 4) (n12 % 4) (Nat.mod_lt _ (by decide)) (Nat.mod_lt _ (by decide)) (by have := H12.out; omega) r hr).symm)))
  have m2 := neq_z (F5.out.same F7.out)
  go_wp2_with fail
  clear p0 p1 p2 p3 q0 q1 q2 q3 r0 r1 r2 r3 m1 m2
  go_loopw [127] (fun iv wr => ∃ k : Nat, Hid (k ≤ 4) ∧ iv = .int .i64 (k : Int) ∧ Hid (Below V0.heap.size V0 (wr) ∧ Arr 26 (wr) g1 #[.complex .f64 (x0 0) (y0 0), .complex .f64 (x0 1) (y0 1), .complex .f64 (x0 2) (y0 2), .complex .f64 (x0 3) (y0 3)] ∧ Arr 26 (wr) g2 #[.complex .f64 (x1 0) (y1 0), .complex .f64 (x1 1) (y1 1), .complex .f64 (x1 2) (y1 2), .complex .f64 (x1 3) (y1 3)] ∧ Arr 26 (wr) g3 #[.complex .f64 (x2 0) (y2 0), .complex .f64 (x2 1) (y2 1), .complex .f64 (x2 2) (y2 2), .complex .f64 (x2 3) (y2 3)] ∧ Arr 26 (wr) g4 #[.complex .f64 (x3 0) (y3 0), .complex .f64 (x3 1) (y3 1), .complex .f64 (x3 2) (y3 2), .complex .f64 (x3 3) (y3 3)] ∧ Arr 26 (wr) g5 #[.complex .f64 (x4 0) (y4 0), .complex .f64 (x4 1) (y4 1), .complex .f64 (x4 2) (y4 2), .complex .f64 (x4 3) (y4 3)] ∧ Arr 26 (wr) g6 #[.complex .f64 (x5 0) (y5 0), .complex .f64 (x5 1) (y5 1), .complex .f64 (x5 2) (y5 2), .complex .f64 (x5 3) (y5 3)] ∧ Arr 26 (wr) g7 #[.complex .f64 (x6 0) (y6 0), .complex .f64 (x6 1) (y6 1), .complex .f64 (x6 2) (y6 2), .complex .f64 (x6 3) (y6 3)] ∧ Arr 26 (wr) g8 #[.complex .f64 (x7 0) (y7 0), .complex .f64 (x7 1) (y7 1), .complex .f64 (x7 2) (y7 2), .complex .f64 (x7 3) (y7 3)] ∧ Arr 26 (wr) g9 #[.complex .f64 (x8 0) (y8 0), .complex .f64 (x8 1) (y8 1), .complex .f64 (x8 2) (y8 2), .complex .f64 (x8 3) (y8 3)])) (fun iv _ => 4 - (intOf iv).toNat)
  case atStart => exact ⟨0, Lib.hid (Nat.zero_le _), rfl, B9⟩
  case round =>
    clear B9
    obtain ⟨k, HK, rfl, B9⟩ := hrel
    by_cases hlt : k < 4
    · have d0 : decide ((k : Int) < 4) = true := by simp; omega
      have d0' : decide (k < 4) = true := by simp; omega
      have hk3 : (k : Int) ≤ 3 := by omega
      have hk4 : (k : Int) < 4 := by omega
      have e0 := (B9.out.2.1.c k).trans (zc_get x0 y0 k hlt)
      have e1 := (B9.out.2.2.1.c k).trans (zc_get x1 y1 k hlt)
      have e8 := (B9.out.2.2.2.2.2.2.2.2.2.c k).trans (zc_get x8 y8 k hlt)
      have l0 := d_le4 C0 k hlt
      have l1 := d_le4 C1 k hlt
      obtain ⟨p, q, hpq, fp, fq⟩ := cadd_fi (F0.out k hlt).1 (F0.out k hlt).2 (F1.out k hlt).1 (F1.out k hlt).2 (by have := HS0.out; have := HS1.out; omega) (by have := HS0.out; have := HS1.out; omega)
      have hadd : ∀ w, (binOp .add 25 (.complex .f64 (x0 k) (y0 k)) (.complex .f64 (x1 k) (y1 k))).run Try.prog w = .ok (.complex .f64 p q) w := fun w => run_complex_sum w .add (.inl rfl) _ _ _ _ _ _ _ _ hpq
      have hd := d_add C0 C1 k hlt
      rw [← hd.1] at fp
      rw [← hd.2] at fq
      have o1 := FI.ordE (F8.out k hlt).1 fp
      have o2 := FI.ordE (F8.out k hlt).2 fq
      have HLT := Lib.hid hlt
      clear hlt l0 l1 hpq fp fq hd
      go_wp2_with fail
      go_quiet (fail)
      go_wp2_with fail
      go_roundw
      case rel => exact ⟨k + 1, Lib.hid HLT.out, by go_num, Lib.hid ⟨below_drewN (B9.out.1) _, B9.out.2.1, B9.out.2.2.1, B9.out.2.2.2.1, B9.out.2.2.2.2.1, B9.out.2.2.2.2.2.1, B9.out.2.2.2.2.2.2.1, B9.out.2.2.2.2.2.2.2.1, B9.out.2.2.2.2.2.2.2.2.1, B9.out.2.2.2.2.2.2.2.2.2⟩⟩
      case measure => have := HLT.out; simp [intOf]; omega
    · obtain rfl : k = 4 := by have := HK.out; omega
      clear hlt
      go_wp2_with fail
      go_ret
      exact ⟨rfl, below_step K3.out.2.2.2 (B9.out.1)⟩
end Go.Proofs.Ythidfmkmklnhhaa
