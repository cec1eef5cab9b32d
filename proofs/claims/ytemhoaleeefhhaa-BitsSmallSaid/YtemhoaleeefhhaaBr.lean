/- Walks: Not. -/
import Derived.Test.YtemhoaleeefhhaaProg
import Derived.Test.YtemhoaleeefhhaaBo2
namespace Go.Proofs.Ytemhoaleeefhhaa
open Go.RowKit
set_option linter.unusedVariables false

def mx : Int := 18446744073709551615
def fillW (k j : Nat) : List Int := List.replicate j mx ++ List.replicate (k - j) 0
theorem fillW_len {k j : Nat} (h : j ≤ k) : (fillW k j).length = k := by unfold fillW; simp; omega
theorem fillW_set {k j : Nat} (h : j < k) : (fillW k j).set j mx = fillW k (j + 1) := by
  unfold fillW
  rw [List.set_append_right _ _ (by simp), List.length_replicate, Nat.sub_self, show k - j = (k - (j + 1)) + 1 by omega, List.replicate_succ, List.set_cons_zero, List.replicate_succ', List.append_assoc]
  rfl
theorem fillW_w (k j : Nat) : W64 (fillW k j) := by
  intro x hx
  rcases List.mem_append.1 hx with h | h <;> rw [List.eq_of_mem_replicate h] <;> decide
theorem fillW_all (k : Nat) : fillW k k = List.replicate k mx := by unfold fillW; simp
theorem rep_get {k i : Nat} (h : i < k) : (List.replicate k mx).getD i 0 = mx := by rw [List.getD, List.getElem?_replicate]; simp [h]
theorem all_even {N : Nat} (h : N % 64 = 0) : List.replicate ((N + 63) / 64) mx = allW N := by
  refine bt_ext (fun x hx => by rw [List.eq_of_mem_replicate hx]; decide) (allW_w N) (by rw [allW_len]; simp) fun i hi => ?_
  rw [List.length_replicate] at hi
  rw [allW_bt]
  unfold bt
  rw [rep_get (by omega)]
  have e : mx.toNat = 2 ^ 64 - 1 := by decide
  rw [e, Nat.testBit_two_pow_sub_one, Bool.eq_iff_iff]
  simp; omega
theorem all_odd {N r k : Nat} (hr : N % 64 = r) (h : 0 < r) (hk : (N + 63) / 64 = k + 1) : (List.replicate (k + 1) mx).set k ((2 ^ r - 1 : Nat) : Int) = allW N := by
  have hp : 2 ^ r < 2 ^ 64 := Nat.pow_lt_pow_right (by decide) (by omega)
  refine bt_ext (W64.set (fun x hx => by rw [List.eq_of_mem_replicate hx]; decide) _ _ (by omega)) (allW_w N) (by rw [allW_len]; simp; omega) fun i hi => ?_
  rw [List.length_set, List.length_replicate] at hi
  rw [allW_bt, bt_set (by simp)]
  split
  · rw [Nat.testBit_two_pow_sub_one, Bool.eq_iff_iff]; simp; omega
  · unfold bt
    rw [rep_get (by omega)]
    have e : mx.toNat = 2 ^ 64 - 1 := by decide
    rw [e, Nat.testBit_two_pow_sub_one, Bool.eq_iff_iff]
    simp; omega
theorem mx_shr {r s : Nat} (h : r + s = 64) : mx / 2 ^ s = ((2 ^ r - 1 : Nat) : Int) := by
  have e1 : mx = ((2 ^ 64 - 1 : Nat) : Int) := by decide
  have e2 : ((2 : Int) ^ s) = ((2 ^ s : Nat) : Int) := by push_cast; rfl
  rw [e1, e2]
  have : (2 ^ 64 - 1) / 2 ^ s = 2 ^ r - 1 := by
    rw [← h, Nat.pow_add]
    have h1 := Nat.two_pow_pos r
    have h2 := Nat.two_pow_pos s
    generalize 2 ^ r = x at h1
    generalize 2 ^ s = y at h2
    obtain ⟨x', rfl⟩ : ∃ x', x = x' + 1 := ⟨x - 1, by omega⟩
    rw [Nat.add_mul, Nat.one_mul, Nat.add_sub_assoc h2, Nat.add_comm, Nat.add_mul_div_right _ _ h2, Nat.div_eq_of_lt (by omega)]
    omega
  rw [← this]; rfl

set_option maxRecDepth 20000 in
theorem Not_bad (N : Int) (A : Option Addr) (n c : Nat) (l : List Int) (w : World) (hs : Sees w 1 A n c (l.map (Value.int .u64))) (hw : W64 l) (h : ¬ RightW N l) :
    Calls Try.prog 28 #[setv N A n c] w fun e w' => e = .returned (.tuple #[setv 0 none 0 0, .int .i64 50]) ∧ Below w.heap.size w w' := by
  obtain ⟨W, hW⟩ : ∃ W, (w.alloc (.cells #[.int .i64 N, .slice A n c] 24)).alloc (.cells #[.int .i64 0, .slice none 0 0] 24) = W := ⟨_, rfl⟩
  have hB : Below w.heap.size w W := by rw [← hW]; exact ((Below.refl _ _).alloc (Nat.le_refl _) _).alloc (by simp) _
  have Y0 : SetB W (w.heap.size + 1) 0 none 0 0 := by rw [← hW]; exact lit_newB (by simp)
  have HS := Lib.hid (hs.below hB (Nat.le_refl _))
  have HB := Lib.hid hB
  have HY := Lib.hid Y0
  have HW := Lib.hid hW
  have HR := Lib.hid (decide_eq_false h)
  clear hs hB Y0 hW h
  go_enter Try.func28, Try.ntmps28
  go_wp2_with (go_at_call 34; rw [HW.out]; refine (Right_any N A n c l _ HS.out hw).mono ?_; rw [HR.out]; rintro e w1 ⟨rfl, k1⟩; have K1 := Lib.hid k1; have y1 := HY.out.below k1 (Nat.le_refl _); have y10 := y1.c0; have y11 := y1.c1; have f0 : w1.frozen? ⟨w.heap.size + 1, 0, none⟩ = false := y1.f 0; have f1 : w1.frozen? ⟨w.heap.size + 1, 1, none⟩ = false := y1.f 1; have Y1 := Lib.hid y1; clear k1 y1)
  have P9 := Y1.out.put (N' := 0) (A' := none) (n' := 0) (c' := 0)
  have z0 := P9.c0
  have z1 := P9.c1
  exact bodyPost_ret (v := .tuple #[setv 0 none 0 0, .int .i64 50]) (by simp [results, Try.results28, go_sem, z0, z1]) rfl ⟨rfl, below_put (below_step HB.out K1.out) (Nat.le_succ _) _ _⟩

set_option maxRecDepth 20000 in
set_option maxHeartbeats 1600000 in
theorem Not_ok (N : Nat) (A : Option Addr) (n c : Nat) (l : List Int) (w : World) (hs : Sees w 1 A n c (l.map (Value.int .u64))) (hw : W64 l) (hr : RightW N l) :
    Calls Try.prog 28 #[setv N A n c] w fun e w' => ∃ v, e = .returned (.tuple #[v, .int .i64 0]) ∧ Made w w' N v (notW N l) ∧ Below w.heap.size w w' := by
  obtain ⟨W, hW⟩ : ∃ W, (w.alloc (.cells #[.int .i64 N, .slice A n c] 24)).alloc (.cells #[.int .i64 0, .slice none 0 0] 24) = W := ⟨_, rfl⟩
  have hB : Below w.heap.size w W := by rw [← hW]; exact ((Below.refl _ _).alloc (Nat.le_refl _) _).alloc (by simp) _
  have hz : W.heap.size = w.heap.size + 2 := by rw [← hW]; simp
  have X0 : SetB W w.heap.size N A n c := by rw [← hW]; exact (SetB.new w N A n c).alloc _
  have Y0 : SetB W (w.heap.size + 1) 0 none 0 0 := by rw [← hW]; exact lit_newB (by simp)
  have hl := hs.length
  have hr2 := hr.2.2.1
  have hr3 := hr.2.1
  have HR := Lib.hid (decide_eq_true hr)
  have HRW := Lib.hid hr
  have HN := Lib.hid (show N ≤ 65536 ∧ n = (N + 63) / 64 by omega)
  have HS := Lib.hid (hs.below hB (Nat.le_refl _))
  have HS0 := Lib.hid hs
  have HB := Lib.hid (And.intro hB hz)
  have HX := Lib.hid X0
  have HY := Lib.hid Y0
  have HW := Lib.hid hW
  clear hs hB X0 Y0 hW hr hl hr2 hr3 hz
  go_enter Try.func28, Try.ntmps28
  go_wp2_with (first
    | (go_at_call 37; have _q := K1; refine (New_ok N _ HN.out.1).mono ?_; rw [← HN.out.2]; rintro e w2 ⟨v, rfl, ⟨A2, n2, c2, rfl, o2⟩, k2⟩; have K2 := Lib.hid k2; have O2 := Lib.hid o2; have X2 := Lib.hid (X1.out.below k2 (Nat.le_refl _)); have Y2 := Lib.hid (Y1.out.below k2 (Nat.le_refl _)); clear k2 o2 x10 x11)
    | (go_at_call 34; rw [HW.out]; refine (Right_any N A n c l _ HS.out hw).mono ?_; rw [HR.out]; rintro e w1 ⟨rfl, k1⟩; have K1 := Lib.hid k1; have X1 := Lib.hid (HX.out.below k1 (Nat.le_refl _)); have Y1 := Lib.hid (HY.out.below k1 (Nat.le_refl _)); have x10 := X1.out.c0; have x11 := X1.out.c1; clear k1))
  have hn2 : n2 = n := by have := O2.out.1; simpa using this.symm
  subst hn2
  have hz1 : w.heap.size + 2 ≤ w1.heap.size := by have h1 := K1.out.size; have h2 := HB.out.2; omega
  have hz2 := K2.out.size
  have HZ := Lib.hid (show w.heap.size + 2 ≤ w2.heap.size by omega)
  have NE := Lib.hid (fun e => by have h1 := (O2.out.lt w2.heap.size e).2; omega : (Value.slice A2 n2 c2).ownBlock ≠ some w2.heap.size)
  have hbx := (Below.refl w2.heap.size w2).alloc (Nat.le_refl _) (.cells #[.int .i64 (N : Int), .slice A2 n2 c2] 24)
  have O3 := Lib.hid (own_base (base' := w.heap.size + 2) (own_below O2.out hbx (Nat.le_refl _)) hz1)
  have X3 := Lib.hid (X2.out.below hbx (Nat.le_refl _))
  have Y3 := Lib.hid (Y2.out.below hbx (Nat.le_refl _))
  have V3 := Lib.hid (SetB.new w2 (N : Int) A2 n2 c2)
  have B3 := Lib.hid (below_step (below_step (below_step HB.out.1 K1.out) K2.out) hbx)
  have HK := Lib.hid (K2.out.trans (hbx.mono hz2))
  clear hbx
  generalize hW3 : w2.alloc (.cells #[.int .i64 (N : Int), .slice A2 n2 c2] 24) = W3 at O3 X3 Y3 V3 B3 HK ⊢
  generalize w2.heap.size = b4 at HZ NE V3 hz2 ⊢
  clear hW3 O2 X2 Y2 K2 hz1 hz2
  have hnn : (n2 : Int) ≤ 1024 := by have := HN.out; omega
  have v0 := V3.out.c0
  have v1 := V3.out.c1
  go_wp2_with fail
  go_loopw [6, 20] (fun _ iv wr => ∃ j : Nat, Hid (j ≤ n2) ∧ iv = .int .i64 (j : Int) ∧ Hid (wr.ownsRow (w.heap.size + 2) 54 1 (.slice A2 n2 c2) n2 ((fillW n2 j).map (Value.int .u64))) ∧ Hid (SetB wr w.heap.size N A n2 c ∧ SetB wr (w.heap.size + 1) 0 none 0 0 ∧ SetB wr b4 N A2 n2 c2) ∧ Hid (Below w.heap.size w wr)) (fun _ iv _ => n2 - (intOf iv).toNat)
  case atStart => exact ⟨0, Lib.hid (Nat.zero_le _), rfl, Lib.hid (by unfold fillW; simpa using O3.out), Lib.hid ⟨X3.out, Y3.out, V3.out⟩, B3⟩
  case round =>
    obtain ⟨j, HJ, rfl, HO, HX4, HBW⟩ := hrel
    clear v0 v1
    have x0 := HX4.out.1.c0
    have x1 := HX4.out.1.c1
    have v0 := HX4.out.2.2.c0
    have v1 := HX4.out.2.2.c1
    by_cases hlt : j < n2
    · have d0 : decide ((j : Int) < (n2 : Int)) = true := by simp; omega
      have hj2 : (j : Int) < (n2 : Int) := by omega
      obtain ⟨g, c', hv, hgb⟩ := own_addrK HO.out (by omega)
      cases hv
      obtain ⟨u0, u1⟩ := own_cellK HO.out hlt
      have hsx := sees_own HO.out
      have HLT := Lib.hid hlt
      have HG := Lib.hid (And.intro hgb (fun e => NE.out (by rw [← e]; rfl) : b4 ≠ g))
      clear hlt hgb
      go_wp2
      go_roundw
      case rel =>
        have hset := own_setK HO.out j mx
        rw [fillW_set HLT.out] at hset
        exact ⟨j + 1, Lib.hid HLT.out, by go_num, Lib.hid hset, Lib.hid ⟨(Below.heap_setCell _ _ _ _ (by show w.heap.size ≠ g; have := HG.out.1; omega)).trans HX4.out.1, (Below.heap_setCell _ _ _ _ (by show w.heap.size + 1 ≠ g; have := HG.out.1; omega)).trans HX4.out.2.1, (Below.heap_setCell _ _ _ _ HG.out.2).trans HX4.out.2.2⟩, Lib.hid (HBW.out.setCell (by show w.heap.size ≤ g; have := HG.out.1; omega) _)⟩
      case measure => have := HLT.out; simp [intOf]; omega
    · have hjn : j = n2 := by have := HJ.out; omega
      have d0 : decide ((j : Int) < (n2 : Int)) = false := by simp; omega
      have d0' : decide (j < n2) = false := by simp; omega
      have HO5 := HO.out
      rw [hjn, fillW_all] at HO5
      have RA : Hid (RightW (N : Int) (allW N)) := Lib.hid (RightW.of_bits (allW_w N) (by omega) (by have := HN.out; omega) (by rw [allW_len]; omega) fun i hi _ => by rw [allW_bt, decide_eq_false_iff_not]; omega)
      obtain ⟨r, hr⟩ : ∃ r : Nat, N % 64 = r := ⟨_, rfl⟩
      have hr1 : (N : Int) % 64 = (r : Int) := by omega
      have htm : (N : Int).tmod 64 = (r : Int) := by rw [Int.tmod_eq_emod_of_nonneg (by omega)]; exact hr1
      have hwr : IntKind.i64.wrap (r : Int) = (r : Int) := IntWalk.i64_in _ (by omega)
      by_cases hr0 : r = 0
      · have d1 : decide ((0 : Int) < (r : Int)) = false := by simp; omega
        have d1' : decide (0 < r) = false := by simp; omega
        rw [HN.out.2, all_even (by omega)] at HO5
        rw [← HN.out.2] at HO5
        have SA := Lib.hid (sees_own HO5)
        have SB := Lib.hid (HS0.out.below HBW.out (Nat.le_refl _))
        have YB := Lib.hid HX4.out.2.1
        clear hlt hr hr0 hjn HO5
        go_wp2_with (go_at_call 33; refine (Minus_ok (N : Int) A2 A n2 c2 c (allW N) l _ SA.out SB.out (allW_w N) hw RA.out HRW.out).mono ?_; rintro e w7 ⟨v, rfl, ⟨A7, n7, c7, rfl, o7⟩, k7⟩; have O7 := Lib.hid o7; have K7 := Lib.hid k7; have y7 := YB.out.below k7 (Nat.le_refl _); have y70 := y7.c0; have y71 := y7.c1; have f0 : w7.frozen? ⟨w.heap.size + 1, 0, none⟩ = false := y7.f 0; have f1 : w7.frozen? ⟨w.heap.size + 1, 1, none⟩ = false := y7.f 1; have Y7 := Lib.hid y7; clear k7 o7 y7)
        have P9 := Y7.out.put (N' := N) (A' := A7) (n' := n7) (c' := c7)
        have z0 := P9.c0
        have z1 := P9.c1
        have ho := own_base (base' := w.heap.size + 2) O7.out (by have h1 := HBW.out.size; have h2 := HX4.out.2.1.lt; omega)
        exact bodyPost_ret (v := .tuple #[setv N A7 n7 c7, .int .i64 0]) (by simp [results, Try.results28, go_sem, z0, z1]) rfl ⟨_, rfl, ⟨_, _, _, rfl, own_base (ownsRow_setCell_below (ownsRow_setCell_below ho (Nat.lt_succ_self _) _) (Nat.lt_succ_self _) _) (by omega)⟩, below_put (below_step HBW.out K7.out) (Nat.le_succ _) _ _⟩
      · have d1 : decide ((0 : Int) < (r : Int)) = true := by simp; omega
        have d1' : decide (0 < r) = true := by simp; omega
        have hr64 : r < 64 := by omega
        obtain ⟨s, hs⟩ : ∃ s, r + s = 64 := ⟨64 - r, by omega⟩
        obtain ⟨k, hk⟩ : ∃ k, n2 = k + 1 := ⟨n2 - 1, by have := HN.out; omega⟩
        obtain ⟨g, c', hv, hgb⟩ := own_addrK HO5 (by omega)
        cases hv
        obtain ⟨u0, u1⟩ := own_cellK HO5 (show k < n2 by omega)
        rw [rep_get (by omega)] at u0
        have hsx := sees_own HO5
        have HSH := Lib.hid (mx_shr hs)
        have hsh : (18446744073709551615 : Int) / 2 ^ s = ((2 ^ r - 1 : Nat) : Int) := mx_shr hs
        have hset := own_setK HO5 k ((2 ^ r - 1 : Nat) : Int)
        obtain ⟨z, hz⟩ : ∃ z : Nat, 2 ^ r - 1 = z := ⟨_, rfl⟩
        rw [hz] at hsh hset
        have hodd := all_odd (N := N) (r := r) (k := k) hr (by omega) (by have := HN.out; omega)
        rw [hz] at hodd
        rw [hk, hodd] at hset
        rw [← hk] at hset
        have HSET := Lib.hid hset
        have hs1 : (64 : Int) - (r : Int) = (s : Int) := by omega
        have hs2 : (s : Int) ≤ 64 := by omega
        have hk1 : (n2 : Int) - 1 = (k : Int) := by omega
        have hk2 : (k : Int) < (n2 : Int) := by omega
        have hws : IntKind.i64.wrap (s : Int) = (s : Int) := IntWalk.i64_in _ (by omega)
        have hwk : IntKind.i64.wrap (k : Int) = (k : Int) := IntWalk.i64_in _ (by omega)
        have HG := Lib.hid (And.intro hgb (fun e => NE.out (by rw [← e]; rfl) : b4 ≠ g))
        have hu0 : wr.cell? ⟨g, k, none⟩ = some (.int .u64 18446744073709551615) := u0
        have HKN := Lib.hid hk
        clear hlt hr hr0 hjn HO5 hset hodd hgb hz hs hk u0
        go_wp2_with fail
        go_region
        have hne0 : w.heap.size ≠ g := by have := HG.out.1; omega
        have hne1 : w.heap.size + 1 ≠ g := by have := HG.out.1; omega
        have XS : SetB (wr.setCell ⟨g, k, none⟩ (.int .u64 (z : Int))).drew w.heap.size N A n2 c := (Below.heap_setCell _ _ _ _ hne0).trans HX4.out.1
        have YS : SetB (wr.setCell ⟨g, k, none⟩ (.int .u64 (z : Int))).drew (w.heap.size + 1) 0 none 0 0 := (Below.heap_setCell _ _ _ _ hne1).trans HX4.out.2.1
        have VS : SetB (wr.setCell ⟨g, k, none⟩ (.int .u64 (z : Int))).drew b4 N (some ⟨g, 0, none⟩) n2 c2 := (Below.heap_setCell _ _ _ _ HG.out.2).trans HX4.out.2.2
        have HBQ := Lib.hid (HBW.out.setCell (show w.heap.size ≤ (⟨g, k, none⟩ : Addr).block by show w.heap.size ≤ g; have := HG.out.1; omega) (.int .u64 (z : Int))).drew
        have SA := Lib.hid (sees_own HSET.out.drew)
        generalize (wr.setCell ⟨g, k, none⟩ (.int .u64 (z : Int))).drew = wq at XS YS VS HBQ SA ⊢
        have SB := Lib.hid (HS0.out.below HBQ.out (Nat.le_refl _))
        have YB := Lib.hid YS
        have a0 := XS.c0
        have a1 := XS.c1
        have b0 := VS.c0
        have b1 := VS.c1
        clear u1 hu0 v0 v1 x0 x1 hsx hsh XS YS VS
        go_wp2_with (go_at_call 33; refine (Minus_ok (N : Int) (some ⟨g, 0, none⟩) A n2 c2 c (allW N) l _ SA.out SB.out (allW_w N) hw RA.out HRW.out).mono ?_; rintro e w7 ⟨v, rfl, ⟨A7, n7, c7, rfl, o7⟩, k7⟩; have O7 := Lib.hid o7; have K7 := Lib.hid k7; have y7 := YB.out.below k7 (Nat.le_refl _); have y70 := y7.c0; have y71 := y7.c1; have f0 : w7.frozen? ⟨w.heap.size + 1, 0, none⟩ = false := y7.f 0; have f1 : w7.frozen? ⟨w.heap.size + 1, 1, none⟩ = false := y7.f 1; have Y7 := Lib.hid y7; clear k7 o7 y7)
        have P9 := Y7.out.put (N' := N) (A' := A7) (n' := n7) (c' := c7)
        have z0 := P9.c0
        have z1 := P9.c1
        have ho := own_base (base' := w.heap.size + 2) O7.out (by have h1 := HBQ.out.size; have h2 := YB.out.lt; omega)
        exact bodyPost_ret (v := .tuple #[setv N A7 n7 c7, .int .i64 0]) (by simp [results, Try.results28, go_sem, z0, z1]) rfl ⟨_, rfl, ⟨_, _, _, rfl, own_base (ownsRow_setCell_below (ownsRow_setCell_below ho (Nat.lt_succ_self _) _) (Nat.lt_succ_self _) _) (by omega)⟩, below_put (below_step HBQ.out K7.out) (Nat.le_succ _) _ _⟩
end Go.Proofs.Ytemhoaleeefhhaa
