/- Walks: the law's made. -/
import Derived.Test.YtemhoaleeefhhaaProg
import Derived.Test.YtemhoaleeefhhaaBt
namespace Go.Proofs.Ytemhoaleeefhhaa
open Go.RowKit
set_option linter.unusedVariables false

theorem right_even {N : Nat} {zs : List Int} (hN : N ≤ 65536) (hl : zs.length = (N + 63) / 64) (h : N % 64 = 0) : RightW (N : Int) zs := ⟨by omega, by omega, by omega, .inl (by omega)⟩
theorem right_mask {N r k : Nat} {zs : List Int} (hN : N ≤ 65536) (hl : zs.length = k + 1) (hk : (N + 63) / 64 = k + 1) (hr : N % 64 = r) : RightW (N : Int) (zs.set k ((((zs.getD k 0).toNat % 2 ^ r : Nat)) : Int)) := by
  refine ⟨by omega, by omega, by rw [List.length_set]; omega, .inr ?_⟩
  rw [List.length_set, hl, Nat.add_sub_cancel, List.getD, List.getElem?_set, if_pos rfl, if_pos (by omega), Option.getD_some, show ((N : Int) % 64).toNat = r by omega]
  have e : ((2 : Int) ^ r) = ((2 ^ r : Nat) : Int) := by push_cast; rfl
  rw [e]
  have := Nat.div_eq_of_lt (Nat.mod_lt (zs.getD k 0).toNat (Nat.two_pow_pos r))
  exact_mod_cast this
theorem and_mask {x : Int} (h0 : 0 ≤ x) (h1 : x ≤ 18446744073709551615) {r : Nat} (hr : r < 64) : IntKind.u64.wrap ((2 : Int) ^ r) = 2 ^ r ∧ IntKind.u64.wrap ((2 : Int) ^ r - 1) = 2 ^ r - 1 ∧ bits BinOp.and IntKind.u64 x (2 ^ r - 1) = ((x.toNat % 2 ^ r : Nat) : Int) := by
  have hp : (2 : Nat) ^ r < 2 ^ 64 := Nat.pow_lt_pow_right (by decide) hr
  have hp0 := Nat.two_pow_pos r
  rw [e64] at hp
  have e : ((2 : Int) ^ r) = ((2 ^ r : Nat) : Int) := by push_cast; rfl
  have hm : x.toNat &&& (2 ^ r - 1) = x.toNat % 2 ^ r := Nat.and_two_pow_sub_one_eq_mod _ _
  rw [e]
  generalize 2 ^ r = p at hp hm hp0
  refine ⟨IntWalk.u64_in _ (by omega), IntWalk.u64_in _ (by omega), ?_⟩
  rw [u64_and x _ h0 (by omega) (by omega) (by omega), ← hm, show ((p : Int) - 1).toNat = p - 1 by omega]

theorem SetB.put1 {w : World} {b n c n' c' : Nat} {N : Int} {A A' : Option Addr} (h : SetB w b N A n c) : SetB (w.setCell ⟨b, 1, none⟩ (.slice A' n' c')) b N A' n' c' := by
  have e := heap_setCell_same w b 1 _ _ (.slice A' n' c') h
  unfold SetB
  simpa using e
/-- 'made' behind its append. -/
structure MdS (w W : World) (N q : Nat) (A : Option Addr) (c : Nat) (zs : List Int) : Prop where
  x : SetB W w.heap.size 0 none 0 0
  y : SetB W (w.heap.size + 1) (N : Int) A q c
  o : W.ownsRow (w.heap.size + 2) 54 1 (.slice A q c) q (zs.map (Value.int .u64))
  b : Below w.heap.size w W
theorem MdS.of {w W w4 : World} {N q c4 : Nat} {A4 : Option Addr} {zs : List Int} (h : SetB W w.heap.size 0 none 0 0 ∧ SetB W (w.heap.size + 1) (N : Int) none 0 0 ∧ Below w.heap.size w W ∧ W.heap.size = w.heap.size + 2) (hb : Below W.heap.size W w4) (ho : w4.ownsRow W.heap.size 54 1 (.slice A4 q c4) q (zs.map (Value.int .u64))) :
    MdS w (w4.setCell ⟨w.heap.size + 1, 1, none⟩ (.slice A4 q c4)) N q A4 c4 zs := by
  obtain ⟨h1, h2, h3, h4⟩ := h
  refine ⟨(Below.heap_setCell _ _ _ _ (by show w.heap.size ≠ w.heap.size + 1; omega)).trans (h1.below hb (Nat.le_refl _)), (h2.below hb (Nat.le_refl _)).put1, ?_, (h3.trans (hb.mono h3.size)).setCell (by show w.heap.size ≤ w.heap.size + 1; omega) _⟩
  rw [h4] at ho
  exact ownsRow_setCell_below ho (Nat.lt_succ_self _) _
theorem MdS.end {w W : World} {N q c : Nat} {A : Option Addr} {zs : List Int} (h : MdS w W N q A c zs) : Made w ((W.setCell ⟨w.heap.size, 0, none⟩ (.int .i64 (N : Int))).setCell ⟨w.heap.size, 1, none⟩ (.slice A q c)) (N : Int) (setv N A q c) zs ∧ Below w.heap.size w ((W.setCell ⟨w.heap.size, 0, none⟩ (.int .i64 (N : Int))).setCell ⟨w.heap.size, 1, none⟩ (.slice A q c)) ∧ SetB ((W.setCell ⟨w.heap.size, 0, none⟩ (.int .i64 (N : Int))).setCell ⟨w.heap.size, 1, none⟩ (.slice A q c)) w.heap.size (N : Int) A q c :=
  ⟨⟨_, _, _, rfl, own_base (ownsRow_setCell_below (ownsRow_setCell_below h.o (by show w.heap.size < w.heap.size + 2; omega) _) (by show w.heap.size < w.heap.size + 2; omega) _) (by omega)⟩, below_put h.b (Nat.le_refl _) _ _, h.x.put⟩

set_option maxRecDepth 20000 in
set_option maxHeartbeats 1600000 in
theorem made_any (n : Nat) (A : Option Addr) (m c : Nat) (l : List Int) (w : World) (hn : n < 65536) (hs : Sees w 1 A m c (l.map (Value.int .u64))) (hw : W64 l) :
    Calls Try.prog 15 #[.int .u16 (n : Int), .slice A m c] w fun e w' => ∃ v zs, e = .returned v ∧ Made w w' ((n % (64 * min m 16 + 1) : Nat) : Int) v zs ∧ W64 zs ∧ RightW ((n % (64 * min m 16 + 1) : Nat) : Int) zs ∧ Below w.heap.size w w' := by
  obtain ⟨j, hj0, hj16, hmin, hmc⟩ := min_is m 16
  have hmi : (if (16 : Int) < (m : Int) then (16 : Int) else (m : Int)) = (j : Int) := by split <;> omega
  have hmi' : (if 16 < m then (16 : Int) else (m : Int)) = (j : Int) := by split <;> omega
  have hcut := fun w => run_cutr E_u64 A m c j (Nat.le_trans hj0 hs.cap) w
  rw [hmin]
  obtain ⟨N, hN⟩ : ∃ N, n % (64 * j + 1) = N := ⟨_, rfl⟩
  rw [hN]
  have hN1 : N ≤ 64 * j := by have := Nat.mod_lt n (show 0 < 64 * j + 1 by omega); omega
  obtain ⟨q, hq⟩ : ∃ q, (N + 63) / 64 = q := ⟨_, rfl⟩
  have hqj : q ≤ j := by omega
  have hcut2 := fun w => run_cutr E_u64 A j c q (Nat.le_trans hqj (Nat.le_trans hj0 hs.cap)) w
  have hS2 : Sees w 1 A q c ((l.take q).map (Value.int .u64)) := by
    have := hs.pre (k := q) (by omega)
    rwa [Nat.mul_one, ← List.map_take] at this
  have hlq : (l.take q).length = q := hS2.length
  have hwq : W64 (l.take q) := fun x hx => hw x (List.mem_of_mem_take hx)
  have hd0 : (64 * (j : Int) + 1 == 0) = false := by simp; omega
  have hrm2 : (n : Int) % (64 * (j : Int) + 1) = (N : Int) := by rw [← hN]; push_cast; rfl
  have hrm : (n : Int).tmod (64 * (j : Int) + 1) = (N : Int) := by rw [Int.tmod_eq_emod_of_nonneg (by omega)]; exact hrm2
  have hwn : wrap64 (n : Int) = (n : Int) := IntWalk.wrap64_in _ (by omega)
  have hw63 : IntKind.i64.wrap ((N : Int) + 63) = (N : Int) + 63 := IntWalk.i64_in _ (by omega)
  have htd : ((N : Int) + 63).tdiv 64 = (q : Int) := by rw [Int.tdiv_eq_ediv_of_nonneg (by omega)]; omega
  have hwqq : IntKind.i64.wrap (q : Int) = (q : Int) := IntWalk.i64_in _ (by omega)
  have hqc : (q : Int) ≤ (c : Int) := by have := hs.cap; omega
  have hq0 : (0 : Int) ≤ (q : Int) := by omega
  have hwN : IntKind.i64.wrap (N : Int) = (N : Int) := IntWalk.i64_in _ (by omega)
  have hq1 : ((N : Int) + 63) / 64 = (q : Int) := by omega
  have hj2 : (j : Int) ≤ 16 := by omega
  have hN2 : (N : Int) ≤ 1024 := by omega
  have hq3 : (q : Int) ≤ 16 := by omega
  have HS := Lib.hid hS2
  have HN := Lib.hid (And.intro hN1 (And.intro hj16 (And.intro hqj hq)))
  generalize l.take q = zs at HS hlq hwq
  have HL := Lib.hid hlq
  clear hs hw hmin hmc hS2 hlq hN1 hqj hq hj0 hj16 hn hN
  go_enter Try.func15, Try.ntmps15
  go_wp2
  have X0 : SetB ((w.alloc (.cells #[.int .i64 0, .slice none 0 0] 24)).alloc (.cells #[.int .i64 (N : Int), .slice none 0 0] 24)) w.heap.size 0 none 0 0 := (SetB.new w 0 none 0 0).alloc _
  have Y0 : SetB ((w.alloc (.cells #[.int .i64 0, .slice none 0 0] 24)).alloc (.cells #[.int .i64 (N : Int), .slice none 0 0] 24)) (w.heap.size + 1) (N : Int) none 0 0 := lit_newB (by simp)
  have B0 : Below w.heap.size w ((w.alloc (.cells #[.int .i64 0, .slice none 0 0] 24)).alloc (.cells #[.int .i64 (N : Int), .slice none 0 0] 24)) := ((Below.refl _ _).alloc (Nat.le_refl _) _).alloc (by simp) _
  have hz0 : ((w.alloc (.cells #[.int .i64 0, .slice none 0 0] 24)).alloc (.cells #[.int .i64 (N : Int), .slice none 0 0] 24)).heap.size = w.heap.size + 2 := by simp
  generalize (w.alloc (.cells #[.int .i64 0, .slice none 0 0] 24)).alloc (.cells #[.int .i64 (N : Int), .slice none 0 0] 24) = W at X0 Y0 B0 hz0 ⊢
  have y0 := Y0.c0
  have y1 := Y0.c1
  have HW := Lib.hid (And.intro X0 (And.intro Y0 (And.intro B0 hz0)))
  have HSD := Lib.hid ((HS.out.below B0 (Nat.le_refl _)).below (Below.refl W.heap.size W).drew (Nat.le_refl _))
  clear X0 Y0 B0 hz0
  go_region_law (refine step_app E_u64 rfl (.tmp 20) (.tmp 26) rfl rfl (base := W.heap.size) (World.ownsRow_nil _ _ _ _) rfl HSD.out (ints1 _ _) (by simp [maxLen]; omega) (by omega) (Nat.le_refl _) ?_; intro A4 c4 w4 o4 g4 b4; have b4 := (Below.refl W.heap.size W).drew.trans b4; have y4 := HW.out.2.1.below b4 (Nat.le_refl _); have y40 := y4.c0; have y41 := y4.c1; have f41 := y4.f 1; have Y4 := Lib.hid y4; have O4 := Lib.hid o4; have B4 := Lib.hid b4; clear y4 o4 b4 g4)
  all_goals have HM := Lib.hid (MdS.of HW.out B4.out (by rw [Nat.zero_add] at O4; exact O4.out))
  all_goals generalize w4.setCell ⟨w.heap.size + 1, 1, none⟩ (.slice A4 q c4) = W5 at HM ⊢
  all_goals clear y40 y41 f41 Y4 O4 B4 y0 y1 HSD HW
  all_goals have y0 := HM.out.y.c0
  all_goals have y1 := HM.out.y.c1
  all_goals have x0 := HM.out.x.c0
  all_goals have x1 := HM.out.x.c1
  all_goals have xf0 := HM.out.x.f 0
  all_goals have xf1 := HM.out.x.f 1
  all_goals obtain ⟨r, hr⟩ : ∃ r : Nat, N % 64 = r := ⟨_, rfl⟩
  all_goals have hr1 : (N : Int) % 64 = (r : Int) := by omega
  all_goals have htm : (N : Int).tmod 64 = (r : Int) := by rw [Int.tmod_eq_emod_of_nonneg (by omega)]; exact hr1
  all_goals have hwr : IntKind.i64.wrap (r : Int) = (r : Int) := IntWalk.i64_in _ (by omega)
  all_goals
    rcases Nat.eq_zero_or_pos r with hr0 | hr0
    · have d1 : decide ((0 : Int) < (r : Int)) = false := by simp; omega
      have d1' : decide (0 < r) = false := by simp; omega
      have HR := Lib.hid (right_even (zs := zs) (N := N) (by omega) (by rw [HL.out, HN.out.2.2.2]) (by omega))
      clear hr hr0
      go_wp2
      obtain ⟨m1, m2, m3⟩ := HM.out.end
      have z0 := m3.c0
      have z1 := m3.c1
      exact bodyPost_ret (v := setv N A4 q c4) (by simp [results, Try.results15, go_sem, z0, z1]) rfl ⟨_, _, rfl, m1, hwq, HR.out, m2⟩
    · have d1 : decide ((0 : Int) < (r : Int)) = true := by simp; omega
      have d1' : decide (0 < r) = true := by simp; omega
      have hr64 : r < 64 := by omega
      obtain ⟨k, hk⟩ : ∃ k, q = k + 1 := ⟨q - 1, by have := HN.out; omega⟩
      obtain ⟨g, c', hv, hgb⟩ := own_addrK HM.out.o (by omega)
      cases hv
      obtain ⟨u0, u1⟩ := own_cellK HM.out.o (show k < q by omega)
      have hsx := sees_own HM.out.o
      have hu := hwq.at_ k
      obtain ⟨p1, p2, p3⟩ := and_mask hu.1 hu.2 hr64
      have hset := own_setK HM.out.o k ((((zs.getD k 0).toNat % 2 ^ r : Nat)) : Int)
      have hrt := right_mask (N := N) (r := r) (k := k) (zs := zs) (by omega) (by rw [HL.out, hk]) (by have := HN.out; omega) hr
      have hws : W64 (zs.set k ((((zs.getD k 0).toNat % 2 ^ r : Nat)) : Int)) := hwq.set _ _ (Nat.lt_of_le_of_lt (Nat.mod_le _ _) (hwq.nat k))
      obtain ⟨z, hz⟩ : ∃ z : Nat, (zs.getD k 0).toNat % 2 ^ r = z := ⟨_, rfl⟩
      rw [hz] at p3 hset hrt hws
      generalize zs.getD k 0 = x at u0 hu p3 hz
      obtain ⟨hu0, hu1⟩ := hu
      have HST := Lib.hid (And.intro hset (And.intro hrt hws))
      have hr5 : (r : Int) ≤ 63 := by omega
      have hr6 : (0 : Int) ≤ (r : Int) := by omega
      have hk1 : (q : Int) - 1 = (k : Int) := by omega
      have hk2 : (k : Int) < (q : Int) := by omega
      have hwk : IntKind.i64.wrap (k : Int) = (k : Int) := IntWalk.i64_in _ (by omega)
      have HG := Lib.hid hgb
      clear hr hr0 hset hrt hws hz hk hr64 hgb
      go_wp2_with fail
      go_region
      have HM2 : Hid (MdS w (W5.setCell ⟨g, k, none⟩ (.int .u64 (z : Int))).drew N q (some ⟨g, 0, none⟩) c4 (zs.set k (z : Int))) := Lib.hid ⟨(Below.heap_setCell _ _ _ _ (by show w.heap.size ≠ g; have := HG.out; omega)).trans HM.out.x, (Below.heap_setCell _ _ _ _ (by show w.heap.size + 1 ≠ g; have := HG.out; omega)).trans HM.out.y, HST.out.1.drew, (HM.out.b.setCell (by show w.heap.size ≤ g; have := HG.out; omega) _).drew⟩
      generalize (W5.setCell ⟨g, k, none⟩ (.int .u64 (z : Int))).drew = W6 at HM2 ⊢
      clear x0 x1 xf0 xf1 y0 y1 u0 u1 hsx
      have y0 := HM2.out.y.c0
      have y1 := HM2.out.y.c1
      have x0 := HM2.out.x.c0
      have x1 := HM2.out.x.c1
      have xf0 := HM2.out.x.f 0
      have xf1 := HM2.out.x.f 1
      go_wp2
      obtain ⟨m1, m2, m3⟩ := HM2.out.end
      have z0 := m3.c0
      have z1 := m3.c1
      exact bodyPost_ret (v := setv N (some ⟨g, 0, none⟩) q c4) (by simp [results, Try.results15, go_sem, z0, z1]) rfl ⟨_, _, rfl, m1, HST.out.2.2, HST.out.2.1, m2⟩
end Go.Proofs.Ytemhoaleeefhhaa
