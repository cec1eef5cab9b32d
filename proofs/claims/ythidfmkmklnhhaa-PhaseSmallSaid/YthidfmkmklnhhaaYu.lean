/- Walks: PhaseRhythm. -/
import Derived.Test.YthidfmkmklnhhaaProg
import Derived.Test.YthidfmkmklnhhaaYt
import Derived.Deep.DeepCutAuto
namespace Go.Proofs.Ythidfmkmklnhhaa
open Go.RowKit
set_option linter.unusedVariables false

theorem E_u8 : Elem Try.prog 38 5 (.int .u8 0) 1 1 := elem_of Try.underlying38 (by kernel_rfl) rfl (by decide)
theorem ix_i (c : Nat → Int) (j : Nat) (hj : j < 4) (w : World) : (Instr.index 40 (iv4 c) (.int .i64 (j : Int))).run Try.prog w = .ok (.int .i64 (c j)) w := by
  rcases (show j = 0 ∨ j = 1 ∨ j = 2 ∨ j = 3 by omega) with rfl | rfl | rfl | rfl <;> kernel_rfl
theorem cs_skip (l : List Int) (m r : Nat) (h : m % 4 ≠ r) : cs l (m + 1) r = cs l m r := by
  show cs l m r + (if m % 4 = r then l.getD m 0 else 0) = _
  rw [if_neg h]; omega
theorem cs_start (l : List Int) (r : Nat) (hr : r < 4) : ∀ m, m ≤ r → cs l m r = 0 := by
  intro m
  induction m with
  | zero => intro _; rfl
  | succ m ih => intro h; rw [cs_skip l m r (by omega)]; exact ih (by omega)
theorem cn_end (l : List Int) (id : Int) (n r : Nat) : ∀ m, n ≤ m → cs (idr l id n n) m r = cs (idr l id n n) n r := by
  intro m
  induction m with
  | zero => intro h; rw [Nat.le_zero.1 h]
  | succ m ih =>
    intro h
    rcases Nat.lt_or_ge n (m + 1) with h1 | h1
    · rw [cn_out l id n m r (by omega)]; exact ih (by omega)
    · rw [show m + 1 = n by omega]
theorem cn_four (l : List Int) (id : Int) (n i r : Nat) (hi : i < n) (hr : i % 4 = r) : cs (idr l id n n) (i + 4) r = cs (idr l id n n) i r + if l.getD i 0 = id then 1 else 0 := by
  rw [show i + 4 = (i + 1 + 1 + 1) + 1 by omega, cs_skip _ _ _ (by omega), cs_skip _ _ _ (by omega), cs_skip _ _ _ (by omega), cn_step l id n i r hi, if_pos hr]
theorem step4 {i k r : Nat} (h : i % 4 = r ∧ i ≤ k + 3) (h2 : i < k) : (i + 4) % 4 = r ∧ i + 4 ≤ k + 3 := by omega
theorem cb4 {ct : Int} {z i k : Nat} (h1 : ct.natAbs ≤ z) (h2 : z ≤ i) (h3 : i < k) (h4 : k ≤ 200) : -300 ≤ ct ∧ ct ≤ 300 := by omega
def sm (c : Nat → Int) : Nat → Int
  | 0 => 0
  | k + 1 => sm c k + if 0 < c k then 1 else 0
theorem sm_le (c : Nat → Int) : ∀ k, 0 ≤ sm c k ∧ sm c k ≤ (k : Int) := by
  intro k
  induction k with
  | zero => exact ⟨Int.le_refl _, Int.le_refl _⟩
  | succ k ih => show 0 ≤ sm c k + _ ∧ sm c k + _ ≤ _; split <;> omega
theorem sm4 (c : Nat → Int) : sm c 4 = (if 0 < c 0 then 1 else 0) + (if 0 < c 1 then 1 else 0) + (if 0 < c 2 then 1 else 0) + (if 0 < c 3 then 1 else 0) := by
  show (0 : Int) + (if 0 < c 0 then 1 else 0) + (if 0 < c 1 then 1 else 0) + (if 0 < c 2 then 1 else 0) + (if 0 < c 3 then 1 else 0) = _
  rw [Int.zero_add]
theorem sm_zero (c : Nat → Int) (h : ∀ r < 4, c r = 0) : sm c 4 = 0 := by
  rw [sm4, h 0 (by decide), h 1 (by decide), h 2 (by decide), h 3 (by decide)]; decide
theorem sm_one (c : Nat → Int) (k : Nat) (hk : k < 4) (h0 : 0 < c k) (h : ∀ r < 4, r ≠ k → c r = 0) : sm c 4 = 1 := by
  rw [sm4]
  have z0 := h 0 (by decide)
  have z1 := h 1 (by decide)
  have z2 := h 2 (by decide)
  have z3 := h 3 (by decide)
  rcases (show k = 0 ∨ k = 1 ∨ k = 2 ∨ k = 3 by omega) with rfl | rfl | rfl | rfl
  · rw [z1 (by decide), z2 (by decide), z3 (by decide), if_pos h0]; decide
  · rw [z0 (by decide), z2 (by decide), z3 (by decide), if_pos h0]; decide
  · rw [z0 (by decide), z1 (by decide), z3 (by decide), if_pos h0]; decide
  · rw [z0 (by decide), z1 (by decide), z2 (by decide), if_pos h0]; decide
theorem sm_two (c : Nat → Int) {r s : Nat} (hr : r < 4) (hs : s < 4) (hrs : r ≠ s) (h1 : 0 < c r) (h2 : 0 < c s) : sm c 4 ≠ 1 := by
  rw [sm4]
  rcases (show r = 0 ∨ r = 1 ∨ r = 2 ∨ r = 3 by omega) with rfl | rfl | rfl | rfl <;>
  rcases (show s = 0 ∨ s = 1 ∨ s = 2 ∨ s = 3 by omega) with rfl | rfl | rfl | rfl <;>
  first
    | exact absurd rfl hrs
    | (rw [if_pos h1, if_pos h2]; repeat' split <;> omega)

set_option maxRecDepth 20000 in
set_option maxHeartbeats 4000000 in
theorem PhaseRhythm_any (A : Option Addr) (n0 c0 : Nat) (l0 : List Int) (id : Nat) (w : World) (hs : Sees w 1 A n0 c0 (l0.map (Value.int .u8))) (hb : ∀ x ∈ l0, 0 ≤ x ∧ x ≤ 255) (hid : id < 256) :
    Calls Try.prog 6 #[.slice A n0 c0, .int .u8 (id : Int)] w fun e w' => e = .returned (.bool true) ∧ Below w.heap.size w w' := by
  have hst := st_c
  obtain ⟨j, hj0, hj2, hmin, hmc⟩ := min_is n0 200
  have hmi : (if (200 : Int) < (n0 : Int) then (200 : Int) else (n0 : Int)) = (j : Int) := by split <;> omega
  have hmi' : (if 200 < n0 then (200 : Int) else (n0 : Int)) = (j : Int) := by split <;> omega
  have hcut := fun w => run_cutr E_u8 A n0 c0 j (Nat.le_trans hj0 hs.cap) w
  have hln := hs.length
  have hS2 : Sees w 1 A j c0 ((l0.take j).map (Value.int .u8)) := by
    have := hs.pre (k := j) hj0
    rwa [Nat.mul_one, ← List.map_take] at this
  have HS := Lib.hid hS2
  have HJ := Lib.hid (And.intro hj0 (And.intro hj2 hln))
  have HBB := Lib.hid hb
  have hjc : (j : Int) ≤ (c0 : Int) := by have := hs.cap; omega
  have hj9 : (j : Int) ≤ 200 := by omega
  have hj8 : (0 : Int) ≤ (j : Int) := by omega
  have hwid : wrap64 (id : Int) = (id : Int) := IntWalk.wrap64_in _ (by omega)
  have hid9 : (id : Int) ≤ 255 := by omega
  clear hs hmin hmc hS2 hj0 hj2 hln hb hid
  go_enter Try.func6, Try.ntmps6
  go_wp2_with (go_at_call 13; refine (awake_any _).mono ?_; rintro e w0 ⟨rfl, k0⟩; have K0 := Lib.hid k0; have S0 := Lib.hid (HS.out.below k0 (Nat.le_refl _)); clear k0)
  go_loopw [5, 28] (fun sv iv wr => ∃ (k : Nat) (A2 : Option Addr) (c2 : Nat), Hid (k ≤ j) ∧ iv = .int .i64 (k : Int) ∧ sv = .slice A2 k c2 ∧ Hid (wr.ownsRow w0.heap.size 3 1 (.slice A2 k c2) k ((l0.take k).map (Value.int .i64)) ∧ Below w0.heap.size w0 wr)) (fun _ iv _ => j - (intOf iv).toNat)
  case atStart => exact ⟨0, none, 0, Lib.hid (Nat.zero_le _), rfl, rfl, Lib.hid ⟨by rw [List.take_zero]; exact World.ownsRow_nil _ _ _ _, Below.refl _ _⟩⟩
  case round =>
    obtain ⟨k, A2, c2, HK, rfl, rfl, HO⟩ := hrel
    by_cases hlt : k < j
    · obtain ⟨g, o, hA, g1⟩ := (S0.out.below HO.out.2 (Nat.le_refl _)).int hlt
      cases hA
      have d0 : decide ((k : Int) < (j : Int)) = true := by simp; omega
      have d0' : decide (k < j) = true := by simp; omega
      have hkj : (k : Int) < (j : Int) := by omega
      have hkl : k < l0.length := by have := HJ.out; omega
      have hget : (l0.take j).getD k 0 = l0.getD k 0 := by
        rw [List.getD_eq_getElem?_getD, List.getD_eq_getElem?_getD, List.getElem?_take_of_lt hlt]
      rw [hget] at g1
      have hv9 : 0 ≤ l0.getD k 0 ∧ l0.getD k 0 ≤ 255 := HBB.out _ (by rw [List.getD_eq_getElem?_getD, List.getElem?_eq_getElem hkl]; exact List.getElem_mem hkl)
      have hsn : l0.take (k + 1) = l0.take k ++ [l0.getD k 0] := by
        rw [List.take_succ_eq_append_getElem hkl, List.getD_eq_getElem?_getD, List.getElem?_eq_getElem hkl]; rfl
      obtain ⟨v, hv⟩ : ∃ v, l0.getD k 0 = v := ⟨_, rfl⟩
      rw [hv] at g1 hv9 hsn
      have hwv : wrap64 v = v := IntWalk.wrap64_in _ (by omega)
      have HR := Lib.hid hsn
      have HLT := Lib.hid hlt
      clear hlt hkl hget hv hv9 hsn
      go_wp2_with (at_builtin; refine wpList_app E_ii rfl _ _ rfl rfl (HO.out.1.alloc _) rfl (Sees.one _ _ _) (one1 rfl) (by have := HJ.out; have := HLT.out; simp [maxLen]; omega) (by have := HJ.out; have := HLT.out; omega) (by have := HO.out.2.size; simp; omega) ?_; intro A4 c4' w4 hown4 hg4 hb4; have H4 : Hid (w4.ownsRow w0.heap.size 3 1 (.slice A4 (k + 1) c4') (k + 1) ((l0.take (k + 1)).map (Value.int .i64)) ∧ Below w0.heap.size w0 w4) := Lib.hid ⟨by rw [HR.out, List.map_append]; exact hown4, (HO.out.2.alloc HO.out.2.size _).trans hb4⟩; clear hown4 hg4 hb4)
      go_roundw
      case rel => exact ⟨k + 1, A4, c4', Lib.hid HLT.out, by go_num, rfl, H4⟩
      case measure => have := HLT.out; simp [intOf]; omega
    · obtain rfl : k = j := by have := HK.out; omega
      have d0 : decide ((k : Int) < (k : Int)) = false := by simp
      have d0' : decide (k < k) = false := by simp
      have hlz : (l0.take k).length = k := by have := HJ.out; simp; omega
      have S1 := Lib.hid (And.intro (sees_own HO.out.1) (below_step K0.out HO.out.2))
      clear hlt HK HO K0 S0
      generalize l0.take k = l at S1 hlz
      have HJ9 := Lib.hid (show k ≤ 200 by have := HJ.out.2.1; omega)
      clear HJ HS HBB
      obtain ⟨C, hC⟩ : ∃ C, cs (idr l (id : Int) k k) k = C := ⟨_, rfl⟩
      have HC := Lib.hid hC
      have HSZ : Hid (szc C ≤ 200) := Lib.hid (by rw [← hC]; have h1 := szc_cs (idr l (id : Int) k k) k; have h2 := idr_sz l (id : Int) k k k; have := HJ9.out; omega)
      have HRI := Lib.hid (rh_inv l (id : Int) k k (Nat.le_refl _))
      rw [hC] at HRI
      clear hC
      go_upto_region 10 with (go_at_call 21; refine (Runs_any A2 k c2 l (id : Int) _ S1.out.1 (by have := HJ9.out; omega)).mono ?_; rw [HC.out]; rintro e w2 ⟨x, y, rfl, f, kk⟩; have FX := Lib.hid f; have B1 : Hid (Below w.heap.size w (w2.alloc (.cells #[.complex .f64 (x 0) (y 0), .complex .f64 (x 1) (y 1), .complex .f64 (x 2) (y 2), .complex .f64 (x 3) (y 3)] 26)) ∧ Sees (w2.alloc (.cells #[.complex .f64 (x 0) (y 0), .complex .f64 (x 1) (y 1), .complex .f64 (x 2) (y 2), .complex .f64 (x 3) (y 3)] 26)) 1 A2 k c2 (l.map (Value.int .i64)) ∧ Arr 26 (w2.alloc (.cells #[.complex .f64 (x 0) (y 0), .complex .f64 (x 1) (y 1), .complex .f64 (x 2) (y 2), .complex .f64 (x 3) (y 3)] 26)) w2.heap.size #[.complex .f64 (x 0) (y 0), .complex .f64 (x 1) (y 1), .complex .f64 (x 2) (y 2), .complex .f64 (x 3) (y 3)]) := Lib.hid ⟨below_al (below_step S1.out.2 kk) _, (S1.out.1.below kk (Nat.le_refl _)).below (below_al (Below.refl _ _) _) (Nat.le_refl _), Arr.new _ _ _⟩; clear f kk S1)
      generalize w2.alloc (.cells #[.complex .f64 (x 0) (y 0), .complex .f64 (x 1) (y 1), .complex .f64 (x 2) (y 2), .complex .f64 (x 3) (y 3)] 26) = V1 at B1 ⊢
      generalize w2.heap.size = g1 at B1 ⊢
      obtain ⟨⟨a0, a1, a2, a3⟩, -⟩ := B1.out.2.2.four
      go_upto_region 11 with (go_at_call 22; refine (Norms_right x y C _ FX.out (by have := HSZ.out; omega)).mono ?_; rintro e w3 ⟨rfl, kk⟩; have B2 : Hid (Below w.heap.size w (w3.alloc (.cells (ic4 (nrm C)) 40)) ∧ Sees (w3.alloc (.cells (ic4 (nrm C)) 40)) 1 A2 k c2 (l.map (Value.int .i64)) ∧ Arr 26 (w3.alloc (.cells (ic4 (nrm C)) 40)) g1 #[.complex .f64 (x 0) (y 0), .complex .f64 (x 1) (y 1), .complex .f64 (x 2) (y 2), .complex .f64 (x 3) (y 3)] ∧ Arr 40 (w3.alloc (.cells (ic4 (nrm C)) 40)) w3.heap.size (ic4 (nrm C))) := Lib.hid ⟨below_al (below_step B1.out.1 kk) _, (B1.out.2.1.below kk (Nat.le_refl _)).below (below_al (Below.refl _ _) _) (Nat.le_refl _), (B1.out.2.2.step kk).al _, Arr.new _ _ _⟩; clear kk)
      generalize w3.alloc (.cells (ic4 (nrm C)) 40) = V2 at B2 ⊢
      generalize w3.heap.size = g2 at B2 ⊢
      clear B1 a0 a1 a2 a3
      obtain ⟨⟨a0, a1, a2, a3⟩, -⟩ := B2.out.2.2.1.four
      go_upto_region 12 with (go_at_call 23; refine (Classes_right x y C _ FX.out (by have := HSZ.out; omega)).mono ?_; rintro e w4 ⟨rfl, kk⟩; have B3 : Hid (Below w.heap.size w (w4.alloc (.cells (ic4 C) 40)) ∧ Sees (w4.alloc (.cells (ic4 C) 40)) 1 A2 k c2 (l.map (Value.int .i64)) ∧ Arr 40 (w4.alloc (.cells (ic4 C) 40)) g2 (ic4 (nrm C)) ∧ Arr 40 (w4.alloc (.cells (ic4 C) 40)) w4.heap.size (ic4 C)) := Lib.hid ⟨below_al (below_step B2.out.1 kk) _, (B2.out.2.1.below kk (Nat.le_refl _)).below (below_al (Below.refl _ _) _) (Nat.le_refl _), (B2.out.2.2.2.step kk).al _, Arr.new _ _ _⟩; clear kk)
      generalize w4.alloc (.cells (ic4 C) 40) = V3 at B3 ⊢
      generalize w4.heap.size = g3 at B3 ⊢
      clear B2 a0 a1 a2 a3
      go_upto_region 13 with (go_at_call 24; refine (Rhythm_any A2 k c2 l (id : Int) _ B3.out.2.1).mono ?_; rintro e w5 ⟨ra, rb, rfl, hr, kk⟩; have HRR := Lib.hid hr; have B4 : Hid (Below w.heap.size w w5 ∧ Sees w5 1 A2 k c2 (l.map (Value.int .i64)) ∧ Arr 40 w5 g2 (ic4 (nrm C)) ∧ Arr 40 w5 g3 (ic4 C)) := Lib.hid ⟨below_step B3.out.1 kk, B3.out.2.1.below kk (Nat.le_refl _), B3.out.2.2.1.step kk, B3.out.2.2.2.step kk⟩; clear hr kk)
      clear B3 FX
      -- the shape
      have HSH : Hid ((rb = false ∧ ra = 0 ∧ (∃ r s, r < 4 ∧ s < 4 ∧ r ≠ s ∧ 0 < C r ∧ 0 < C s)) ∨ (rb = false ∧ ra = 0 ∧ ∀ r < 4, C r = 0) ∨ (rb = true ∧ ∃ q : Nat, q < 4 ∧ ra = (q : Int) ∧ 0 < C q ∧ ∀ r < 4, r ≠ q → C r = 0)) := Lib.hid (by
        rcases HRR.out with ⟨ho, h1, h2⟩ | ⟨ho, h1, h2⟩ | ⟨h0, h4, ho, h2⟩
        · rcases HRI.out.2 with ⟨_, h⟩ | ⟨h, _⟩ | ⟨q, _, h, _⟩
          · exact .inl ⟨h2, h1, h⟩
          · rw [ho] at h; cases h
          · rw [ho] at h; cases h
        · rcases HRI.out.2 with ⟨h, _⟩ | ⟨_, h⟩ | ⟨q, hq, h, _⟩
          · rw [ho] at h; cases h
          · exact .inr (.inl ⟨h2, h1, h⟩)
          · rw [ho] at h; simp only [Option.some.injEq] at h; omega
        · rcases HRI.out.2 with ⟨h, _⟩ | ⟨h, _⟩ | ⟨q, hq, h, hp⟩
          · rw [ho] at h; cases h
          · rw [ho] at h; simp only [Option.some.injEq] at h; omega
          · rw [ho] at h; simp only [Option.some.injEq] at h; exact .inr (.inr ⟨h2, q, hq, h, hp⟩))
      clear HRR
      have HNN : Hid (∀ r < 4, 0 ≤ C r) := Lib.hid HRI.out.1
      clear HRI
      go_cut [90] from 59 to 90 (fun v wx => v = .bool false ∧ Hid (Below w.heap.size w wx ∧ Sees wx 1 A2 k c2 (l.map (Value.int .i64)) ∧ Arr 40 wx g2 (ic4 (nrm C)) ∧ Arr 40 wx g3 (ic4 C)))
      case first =>
        obtain ⟨⟨m0, m1, m2, m3⟩, -⟩ := B4.out.2.2.1.four
        rcases HSH.out with ⟨rfl, rfl, r, s, hr, hs, hrs, h1, h2⟩ | ⟨rfl, rfl, hz⟩ | ⟨rfl, q, hq, rfl, h1, hz⟩
        · have hno := nrm_two C HNN.out hr hs hrs h1 h2
          obtain ⟨N0, e0⟩ : ∃ N, nrm C 0 = N := ⟨_, rfl⟩
          obtain ⟨N1, e1⟩ : ∃ N, nrm C 1 = N := ⟨_, rfl⟩
          obtain ⟨N2, e2⟩ : ∃ N, nrm C 2 = N := ⟨_, rfl⟩
          obtain ⟨N3, e3⟩ : ∃ N, nrm C 3 = N := ⟨_, rfl⟩
          rw [e0] at m0 hno
          rw [e1] at m1 hno
          rw [e2] at m2 hno
          rw [e3] at m3
          clear e0 e1 e2 e3 hr hs hrs h1 h2
          by_cases z0 : N0 = 0
          · subst z0
            clear hno
            go_wp2_with fail
            go_meet
            exact ⟨rfl, B4⟩
          · have y0 : (N0 == 0) = false := by simpa using z0
            have y0' : (N0 != 0) = true := by simpa using z0
            have y0'' : decide (N0 = 0) = false := decide_eq_false z0
            by_cases z1 : N0 = N1
            · have y1 : (N0 == N1) = true := by simpa using z1
              have y1' : decide (N0 = N1) = true := decide_eq_true z1
              have z2 : ¬ N0 = N2 := fun h => hno ⟨z1, h⟩
              have y2 : (N0 == N2) = false := by simpa using z2
              have y2' : decide (N0 = N2) = false := decide_eq_false z2
              clear hno z1
              go_wp2_with fail
              go_meet
              exact ⟨rfl, B4⟩
            · have y1 : (N0 == N1) = false := by simpa using z1
              have y1' : decide (N0 = N1) = false := decide_eq_false z1
              clear hno
              go_wp2_with fail
              go_meet
              exact ⟨rfl, B4⟩
        · have n0 : nrm C 0 = 0 := by have h := nrm_one C 0 (by decide) (fun r hr _ => hz r hr) 0 (by decide); rw [h, hz 0 (by decide)]; rfl
          rw [n0] at m0
          clear n0 hz
          go_wp2_with fail
          go_meet
          exact ⟨rfl, B4⟩
        · have hn := nrm_one C q hq hz
          have hp : 0 < C q * C q := Int.mul_pos h1 h1
          rw [hn 0 (by decide)] at m0
          rw [hn 1 (by decide)] at m1
          rw [hn 2 (by decide)] at m2
          rw [hn 3 (by decide)] at m3
          obtain ⟨N0, e0⟩ : ∃ N, C q * C q = N := ⟨_, rfl⟩
          rw [e0] at m0 m1 m2 m3 hp
          have z0 : ¬ N0 = 0 := by omega
          have y0 : (N0 == 0) = false := by simpa using z0
          have y0' : (N0 != 0) = true := by simpa using z0
          have y0'' : decide (N0 = 0) = false := decide_eq_false z0
          clear hn hp e0 h1 hz
          go_wp2_with fail
          go_meet
          exact ⟨rfl, B4⟩
      case rest =>
        obtain ⟨rfl, B5⟩ := hcut
        clear B4 d0 d0'
        obtain ⟨⟨b0, b1, b2, b3⟩, -⟩ := B5.out.2.2.2.four
        go_wp2_with fail
        clear b0 b1 b2 b3
        go_loopw [15, 92] (fun sv iv wr => ∃ r : Nat, Hid (r ≤ 4) ∧ iv = .int .i64 (r : Int) ∧ sv = .int .i64 (sm C r) ∧ Hid (Below w.heap.size w wr ∧ Sees wr 1 A2 k c2 (l.map (Value.int .i64)) ∧ Arr 40 wr g2 (ic4 (nrm C)) ∧ Arr 40 wr g3 (ic4 C))) (fun _ iv _ => 4 - (intOf iv).toNat)
        case atStart => exact ⟨0, Lib.hid (Nat.zero_le _), rfl, rfl, B5⟩
        case round =>
          clear B5
          obtain ⟨r, HR4, rfl, rfl, B5⟩ := hrel
          have hsm := sm_le C r
          obtain ⟨s, hsd⟩ : ∃ s, sm C r = s := ⟨_, rfl⟩
          rw [hsd] at hsm ⊢
          by_cases hlt : r < 4
          · have d0 : decide ((r : Int) < 4) = true := by simp; omega
            have d0' : decide (r < 4) = true := by simp; omega
            have hr3 : (r : Int) ≤ 3 := by omega
            have hix := ix_i C r hlt
            have HLT := Lib.hid hlt
            have HSD := Lib.hid (And.intro hsd hsm)
            clear hlt hsd hsm
            go_wp2_with fail
            go_loopw [18, 19] (fun cv iv wq => ∃ i : Nat, Hid (i % 4 = r ∧ i ≤ k + 3) ∧ iv = .int .i64 (i : Int) ∧ cv = .int .i64 (cs (idr l (id : Int) k k) i r) ∧ Hid (Below w.heap.size w wq ∧ Sees wq 1 A2 k c2 (l.map (Value.int .i64)) ∧ Arr 40 wq g2 (ic4 (nrm C)) ∧ Arr 40 wq g3 (ic4 C))) (fun _ iv _ => k + 4 - (intOf iv).toNat)
            case atStart => exact ⟨r, Lib.hid (by have := HLT.out; omega), rfl, by rw [cs_start _ r HLT.out r (Nat.le_refl _)], B5⟩
            case round =>
              clear B5
              obtain ⟨i, HI, rfl, rfl, B5⟩ := hrel
              have hcle := cs_le (idr l (id : Int) k k) i r HLT.out
              have hcsz := idr_sz l (id : Int) k k i
              obtain ⟨ct, hct⟩ : ∃ ct, cs (idr l (id : Int) k k) i r = ct := ⟨_, rfl⟩
              rw [hct] at hcle ⊢
              have hi9 : (i : Int) ≤ 203 := by have := HI.out.2; omega
              by_cases hlt2 : i < k
              · obtain ⟨g, o, hA, g5⟩ := B5.out.2.1.int hlt2
                cases hA
                have e0 : decide ((i : Int) < (k : Int)) = true := by simp; omega
                have e0' : decide (i < k) = true := by simp; omega
                have hik : (i : Int) < (k : Int) := by omega
                have hf4 := cn_four l (id : Int) k i r hlt2 HI.out.1
                rw [hct] at hf4
                obtain ⟨v, hv⟩ : ∃ v, l.getD i 0 = v := ⟨_, rfl⟩
                rw [hv] at g5 hf4
                have hw4 : wrap64 ((i : Int) + 4) = (i : Int) + 4 := IntWalk.wrap64_in _ (by omega)
                have HLT2 := Lib.hid hlt2
                have hcb : -300 ≤ ct ∧ ct ≤ 300 := cb4 hcle hcsz hlt2 HJ9.out
                by_cases he : v = (id : Int)
                · rw [if_pos he] at hf4
                  have y : (v == (id : Int)) = true := by simpa using he
                  have hwc : wrap64 (ct + 1) = ct + 1 := IntWalk.wrap64_in _ (by omega)
                  have HF4 := Lib.hid hf4
                  subst he
                  clear hlt2 hcle hcsz hct hf4 hv hcb
                  go_wp2_with fail
                  go_roundw
                  case rel => exact ⟨i + 4, Lib.hid (step4 HI.out HLT2.out), by simp [hw4], by rw [HF4.out]; simp [hwc], B5⟩
                  case measure => have := HLT2.out; simp [intOf, hw4]; omega
                · rw [if_neg he] at hf4
                  have y : (v == (id : Int)) = false := by simpa using he
                  have y' : decide (v = (id : Int)) = false := decide_eq_false he
                  have HF4 := Lib.hid hf4
                  clear hlt2 hcle hcsz hct hf4 hv hcb
                  go_wp2_with fail
                  go_roundw
                  case rel => exact ⟨i + 4, Lib.hid (step4 HI.out HLT2.out), by simp [hw4], by rw [HF4.out]; simp, B5⟩
                  case measure => have := HLT2.out; simp [intOf, hw4]; omega
              · have e0 : decide ((i : Int) < (k : Int)) = false := by simp; omega
                have e0' : decide (i < k) = false := by simp; omega
                have hce : ct = C r := by rw [← hct, cn_end l (id : Int) k r i (by omega), HC.out]
                subst hce
                have hc0 := HNN.out r HLT.out
                have hs1 : sm C (r + 1) = s + if 0 < C r then 1 else 0 := by rw [← HSD.out.1]; rfl
                have hws : wrap64 (s + 1) = s + 1 := IntWalk.wrap64_in _ (by have := HSD.out.2; omega)
                by_cases hp : 0 < C r
                · rw [if_pos hp] at hs1
                  have f0 : decide (0 < C r) = true := decide_eq_true hp
                  have HS1 := Lib.hid hs1
                  clear hlt2 hcle hcsz hct hs1 hp
                  go_wp2_with fail
                  go_roundw
                  case rel => exact ⟨r + 1, Lib.hid HLT.out, by go_num, by rw [HS1.out]; simp [hws], B5⟩
                  case measure => have := HLT.out; simp [intOf]; omega
                · rw [if_neg hp] at hs1
                  have f0 : decide (0 < C r) = false := decide_eq_false hp
                  have HS1 := Lib.hid hs1
                  clear hlt2 hcle hcsz hct hs1 hp
                  go_wp2_with fail
                  go_roundw
                  case rel => exact ⟨r + 1, Lib.hid HLT.out, by go_num, by rw [HS1.out]; simp, B5⟩
                  case measure => have := HLT.out; simp [intOf]; omega
          · obtain rfl : r = 4 := by have := HR4.out; omega
            clear hlt hsm
            rcases HSH.out with ⟨rfl, rfl, r, s', hr, hs, hrs, h1, h2⟩ | ⟨rfl, rfl, hz⟩ | ⟨rfl, q, hq, rfl, h1, hz⟩
            · have h4 := sm_two C hr hs hrs h1 h2
              rw [hsd] at h4
              have y : (s == 1) = false := by simpa using h4
              have y' : decide (s = 1) = false := decide_eq_false h4
              clear hr hs hrs h1 h2 hsd
              go_wp2_with fail
              go_ret
              exact ⟨rfl, B5.out.1⟩
            · have h4 := sm_zero C hz
              rw [hsd] at h4
              subst h4
              clear hz hsd
              go_wp2_with fail
              go_ret
              exact ⟨rfl, B5.out.1⟩
            · have h4 := sm_one C q hq h1 hz
              rw [hsd] at h4
              subst h4
              have hq4 : (q : Int) < 4 := by omega
              have f0 : decide ((q : Int) < 4) = true := by simp; omega
              have f0' : decide (q < 4) = true := by simp; omega
              have f1 : decide (0 < C q) = true := decide_eq_true h1
              have hcq : wr.cell? ⟨g3, q, none⟩ = some (.int .i64 (C q)) := (B5.out.2.2.2.c q).trans (cs_get C q hq)
              clear hz hsd h1
              go_wp2_with fail
              go_ret
              exact ⟨rfl, B5.out.1⟩
end Go.Proofs.Ythidfmkmklnhhaa
