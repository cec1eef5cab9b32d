/- Walks: the law's divides. -/
import Derived.Test.YtoglolhjfbpnpaaProg
import Derived.Test.YtoglolhjfbpnpaaTa
namespace Go.Proofs.Ytoglolhjfbpnpaa
open Go.RowKit
set_option linter.unusedVariables false

theorem quot_is (p d : Nat) (hd : 0 < d) {q r V D : Int} (hV : V = (p : Int)) (hD : D = (d : Int)) (hE : q * D + r = V) (h0 : 0 ≤ r) (h1 : r < D) : q = ((p / d : Nat) : Int) ∧ r = ((p % d : Nat) : Int) := by
  subst hV hD
  have hd' : (d : Int) ≠ 0 := by omega
  have h2 : (p : Int) / (d : Int) = q := by
    rw [← hE, Int.add_comm, Int.mul_comm, Int.add_mul_ediv_left _ _ hd', Int.ediv_eq_zero_of_lt h0 h1, Int.zero_add]
  have h3 : (p : Int) % (d : Int) = r := by
    rw [← hE, Int.add_comm, Int.add_mul_emod_self_right]
    exact Int.emod_eq_of_lt h0 h1
  rw [← h2, ← h3]
  exact ⟨rfl, rfl⟩
theorem beyond_nat {l : List Int} (bl : Bits l) {m : Nat} (h : val l = (m : Int)) : decide (0 < val (l.drop (0 + 64))) = decide (18446744073709551616 ≤ m) := by
  have := beyond_iff bl
  rw [h] at this
  simp only [this]
  by_cases h : 18446744073709551616 ≤ m <;> simp <;> omega
theorem small_mod (m : Nat) (h : m < 18446744073709551616) {V : Int} (hV : V = (m : Int)) : V % 18446744073709551616 = (m : Int) := by
  subst hV; exact Int.emod_eq_of_lt (by omega) (by omega)
theorem wide_val (a b : Nat) {xs bs : List Int} (hl : bs.length = 64) (hb : val bs = (b : Int)) (ha : val xs = (a : Int)) : val (bs ++ xs) = ((a * 18446744073709551616 + b : Nat) : Int) := by
  have e2 : (2 : Int) ^ 64 = 18446744073709551616 := by decide
  rw [val_app, hl, e2, hb, ha]; omega
theorem quot_eq {p d : Nat} (hd : 0 < d) {q r V D : Int} (hV : V = (p : Int)) (hD : D = (d : Int)) (hE : q * D + r = V) (h0 : 0 ≤ r) (h1 : r < D) {x y : Nat} (hx : p / d = x) (hy : p % d = y) : q = (x : Int) ∧ r = (y : Int) := by
  subst hx hy
  exact quot_is p d hd hV hD hE h0 h1

set_option maxRecDepth 20000 in
set_option maxHeartbeats 3200000 in
theorem divides_00 (a b d q1 r1 q2 r2 : Nat) (w : World) (hA : Hid (a < 18446744073709551616)) (hB : Hid (b < 18446744073709551616)) (hD : Hid (d < 18446744073709551616)) (h0 : 0 < d) (HV : Hid ((a * 18446744073709551616 + b) / d = q1 ∧ (a * 18446744073709551616 + b) % d = r1 ∧ a * b / d = q2 ∧ a * b % d = r2)) (HR : Hid (q1 < 18446744073709551616 ∧ q2 < 18446744073709551616 ∧ r1 < 18446744073709551616 ∧ r2 < 18446744073709551616)) (HB1 : Hid (decide (18446744073709551616 ≤ q1) = false)) (HB2 : Hid (decide (18446744073709551616 ≤ q2) = false)) (HO : Hid (over a b d = (q1, r1, 0))) (HS : Hid (scale a b d = (q2, r2, 0))) :
    Calls Try.prog 14 #[.int .u64 (a : Int), .int .u64 (b : Int), .int .u64 (d : Int)] w fun e w' => e = .returned (.bool true) ∧ Below w.heap.size w w' := by
  have h1 : ((d : Int) == 0) = false := by simp; omega
  have h1' : (d == 0) = false := by simp; omega
  have h1'' : decide (d = 0) = false := by simp; omega
  have HP := Lib.hid h0
  clear h0
  go_enter Try.func14, Try.ntmps14
  go_wp2_with (first
    | (go_at_call 17; refine (Over_lit (Q := ((q1 : Nat) : Int)) (R := ((r1 : Nat) : Int)) (E := 0) a b d q1 r1 0 (by rfl) (by rfl) (by rfl) hA.out hB.out hD.out HO.out rfl rfl rfl _).mono ?_; rintro e w0 ⟨rfl, rfl⟩; have bC := Below.refl w.heap.size w)
    | (go_at_call 16; refine (Scale_lit (Q := ((q2 : Nat) : Int)) (R := ((r2 : Nat) : Int)) (E := 0) a b d q2 r2 0 (by rfl) (by rfl) (by rfl) hA.out hB.out hD.out HS.out rfl rfl rfl _).mono ?_; rintro e w1 ⟨rfl, b1⟩; have bC := b1)
    | (go_at_call_of 24 d; refine (Bits_any d _ hD.out).mono ?_; rintro e wd ⟨Ad, cd, ds, rfl, od, bd, vd, b2⟩; have HVD := Lib.hid vd; clear vd; have bC := below_step bC b2; have sd := sees_own od; have bD := Below.refl wd.heap.size wd)
    | (go_at_call_of 24 b; refine (Bits_any b _ hB.out).mono ?_; rintro e wb ⟨Ab, cb, bs, rfl, ob, bb, vb, b3⟩; have HVB := Lib.hid vb; clear vb; have bD := below_step bD b3)
    | (go_at_call_of 24 a; refine (Bits_any a _ hA.out).mono ?_; rintro e wa ⟨Aa, ca, xs, rfl, oa, ba, va, b4⟩; have HVA := Lib.hid va; clear va; have bD := below_step bD b4)
    | (at_builtin; refine wpList_app E_int rfl _ _ rfl rfl (own_below ob b4 (Nat.le_refl _)) rfl (sees_own oa) (ints1 _ _) (by decide) (by decide) (Nat.le_trans b3.size b4.size) ?_; intro A5 c5 w5 hown5 hg5 hb5; have bD := bD.trans hb5; have HV1 := Lib.hid (wide_val a b (sees_own ob).length HVB.out HVA.out); have HBB := Lib.hid (bb.app ba))
    | (go_at_call_of 32 A5; refine (Divide_any _ _ _ _ _ _ (bs ++ xs) ds _ (by rw [List.map_append]; exact sees_own hown5) (by exact sd.below bD (Nat.le_refl _)) HBB.out bd (by rw [HVD.out]; have := HP.out; omega) (by decide)).mono ?_; rintro e w6 ⟨A6, c6, A7, n7, c7, qs, rs, rfl, s6, s7, l7, bq1, br1, ev1, lt1, b6⟩; have HQ1 := Lib.hid (quot_eq HP.out HV1.out HVD.out ev1 (val_range br1).1 lt1 HV.out.1 HV.out.2.1); clear ev1 lt1; have HL7 := Lib.hid l7; clear l7; have bD := below_step bD b6)
    | (go_at_call_of 26 A6; refine (Number_lit _ _ _ qs 0 _ (by rfl) (by exact s6) bq1 (by decide) (by decide) (by decide)).mono ?_; rw [List.drop_zero, beyond_nat bq1 HQ1.out.1, HB1.out, small_mod q1 HR.out.1 HQ1.out.1]; rintro e wn ⟨rfl, rfl⟩)
    | (go_at_call_of 26 A7; refine (Number_lit _ _ _ rs 0 _ (by rfl) (by exact s7) br1 (by have := HL7.out; omega) (by decide) (Nat.zero_le _)).mono ?_; rw [List.drop_zero, small_mod r1 HR.out.2.2.1 HQ1.out.2]; rintro e wn ⟨rfl, rfl⟩)
    | (go_at_call 25; refine (Times_any _ _ _ _ _ _ xs bs _ (by exact (sees_own oa).below b3 (Nat.le_refl _)) (by exact sees_own ob) ba bb (by decide)).mono ?_; rintro e w8 ⟨A8, n8, c8, ps, rfl, s8, ln8, ln9, bp, vp, b8⟩; rw [HVA.out, HVB.out, ← Int.natCast_mul] at vp; have HVP := Lib.hid vp; clear vp; have HLN := Lib.hid ln8; clear ln8 ln9; have bD := below_step bD b8)
    | (go_at_call_of 32 A8; refine (Divide_any _ _ _ _ _ _ ps ds _ (by exact s8) (by exact sd.below bD (Nat.le_refl _)) bp bd (by rw [HVD.out]; have := HP.out; omega) (by have := HLN.out; omega)).mono ?_; rintro e w9 ⟨A9, c9, A10, n10, c10, qt, rt, rfl, s9, s10, l10, bq2, br2, ev2, lt2, b9⟩; have HQ2 := Lib.hid (quot_eq HP.out HVP.out HVD.out ev2 (val_range br2).1 lt2 HV.out.2.2.1 HV.out.2.2.2); clear ev2 lt2; have HL10 := Lib.hid l10; clear l10; have bD := below_step bD b9)
    | (go_at_call_of 26 A9; refine (Number_lit _ _ _ qt 0 _ (by rfl) (by exact s9) bq2 (by have := HLN.out; omega) (by decide) (Nat.zero_le _)).mono ?_; rw [List.drop_zero, beyond_nat bq2 HQ2.out.1, HB2.out, small_mod q2 HR.out.2.1 HQ2.out.1]; rintro e wn ⟨rfl, rfl⟩)
    | (go_at_call_of 26 A10; refine (Number_lit _ _ _ rt 0 _ (by rfl) (by exact s10) br2 (by have := HLN.out; have := HL10.out; omega) (by decide) (Nat.zero_le _)).mono ?_; rw [List.drop_zero, small_mod r2 HR.out.2.2.2 HQ2.out.2]; rintro e wn ⟨rfl, rfl⟩))
  go_ret
  exact ⟨rfl, below_step bC bD⟩

set_option maxRecDepth 20000 in
set_option maxHeartbeats 3200000 in
theorem divides_01 (a b d q1 r1 q2 r2 : Nat) (w : World) (hA : Hid (a < 18446744073709551616)) (hB : Hid (b < 18446744073709551616)) (hD : Hid (d < 18446744073709551616)) (h0 : 0 < d) (HV : Hid ((a * 18446744073709551616 + b) / d = q1 ∧ (a * 18446744073709551616 + b) % d = r1 ∧ a * b / d = q2 ∧ a * b % d = r2)) (HR : Hid (q1 < 18446744073709551616 ∧ True ∧ r1 < 18446744073709551616 ∧ r2 < 18446744073709551616)) (HB1 : Hid (decide (18446744073709551616 ≤ q1) = false)) (HB2 : Hid (decide (18446744073709551616 ≤ q2) = true)) (HO : Hid (over a b d = (q1, r1, 0))) (HS : Hid (scale a b d = (18446744073709551615, 0, 0))) :
    Calls Try.prog 14 #[.int .u64 (a : Int), .int .u64 (b : Int), .int .u64 (d : Int)] w fun e w' => e = .returned (.bool true) ∧ Below w.heap.size w w' := by
  have h1 : ((d : Int) == 0) = false := by simp; omega
  have h1' : (d == 0) = false := by simp; omega
  have h1'' : decide (d = 0) = false := by simp; omega
  have HP := Lib.hid h0
  clear h0
  go_enter Try.func14, Try.ntmps14
  go_wp2_with (first
    | (go_at_call 17; refine (Over_lit (Q := ((q1 : Nat) : Int)) (R := ((r1 : Nat) : Int)) (E := 0) a b d q1 r1 0 (by rfl) (by rfl) (by rfl) hA.out hB.out hD.out HO.out rfl rfl rfl _).mono ?_; rintro e w0 ⟨rfl, rfl⟩; have bC := Below.refl w.heap.size w)
    | (go_at_call 16; refine (Scale_lit (Q := 18446744073709551615) (R := 0) (E := 0) a b d 18446744073709551615 0 0 (by rfl) (by rfl) (by rfl) hA.out hB.out hD.out HS.out rfl rfl rfl _).mono ?_; rintro e w1 ⟨rfl, b1⟩; have bC := b1)
    | (go_at_call_of 24 d; refine (Bits_any d _ hD.out).mono ?_; rintro e wd ⟨Ad, cd, ds, rfl, od, bd, vd, b2⟩; have HVD := Lib.hid vd; clear vd; have bC := below_step bC b2; have sd := sees_own od; have bD := Below.refl wd.heap.size wd)
    | (go_at_call_of 24 b; refine (Bits_any b _ hB.out).mono ?_; rintro e wb ⟨Ab, cb, bs, rfl, ob, bb, vb, b3⟩; have HVB := Lib.hid vb; clear vb; have bD := below_step bD b3)
    | (go_at_call_of 24 a; refine (Bits_any a _ hA.out).mono ?_; rintro e wa ⟨Aa, ca, xs, rfl, oa, ba, va, b4⟩; have HVA := Lib.hid va; clear va; have bD := below_step bD b4)
    | (at_builtin; refine wpList_app E_int rfl _ _ rfl rfl (own_below ob b4 (Nat.le_refl _)) rfl (sees_own oa) (ints1 _ _) (by decide) (by decide) (Nat.le_trans b3.size b4.size) ?_; intro A5 c5 w5 hown5 hg5 hb5; have bD := bD.trans hb5; have HV1 := Lib.hid (wide_val a b (sees_own ob).length HVB.out HVA.out); have HBB := Lib.hid (bb.app ba))
    | (go_at_call_of 32 A5; refine (Divide_any _ _ _ _ _ _ (bs ++ xs) ds _ (by rw [List.map_append]; exact sees_own hown5) (by exact sd.below bD (Nat.le_refl _)) HBB.out bd (by rw [HVD.out]; have := HP.out; omega) (by decide)).mono ?_; rintro e w6 ⟨A6, c6, A7, n7, c7, qs, rs, rfl, s6, s7, l7, bq1, br1, ev1, lt1, b6⟩; have HQ1 := Lib.hid (quot_eq HP.out HV1.out HVD.out ev1 (val_range br1).1 lt1 HV.out.1 HV.out.2.1); clear ev1 lt1; have HL7 := Lib.hid l7; clear l7; have bD := below_step bD b6)
    | (go_at_call_of 26 A6; refine (Number_lit _ _ _ qs 0 _ (by rfl) (by exact s6) bq1 (by decide) (by decide) (by decide)).mono ?_; rw [List.drop_zero, beyond_nat bq1 HQ1.out.1, HB1.out, small_mod q1 HR.out.1 HQ1.out.1]; rintro e wn ⟨rfl, rfl⟩)
    | (go_at_call_of 26 A7; refine (Number_lit _ _ _ rs 0 _ (by rfl) (by exact s7) br1 (by have := HL7.out; omega) (by decide) (Nat.zero_le _)).mono ?_; rw [List.drop_zero, small_mod r1 HR.out.2.2.1 HQ1.out.2]; rintro e wn ⟨rfl, rfl⟩)
    | (go_at_call 25; refine (Times_any _ _ _ _ _ _ xs bs _ (by exact (sees_own oa).below b3 (Nat.le_refl _)) (by exact sees_own ob) ba bb (by decide)).mono ?_; rintro e w8 ⟨A8, n8, c8, ps, rfl, s8, ln8, ln9, bp, vp, b8⟩; rw [HVA.out, HVB.out, ← Int.natCast_mul] at vp; have HVP := Lib.hid vp; clear vp; have HLN := Lib.hid ln8; clear ln8 ln9; have bD := below_step bD b8)
    | (go_at_call_of 32 A8; refine (Divide_any _ _ _ _ _ _ ps ds _ (by exact s8) (by exact sd.below bD (Nat.le_refl _)) bp bd (by rw [HVD.out]; have := HP.out; omega) (by have := HLN.out; omega)).mono ?_; rintro e w9 ⟨A9, c9, A10, n10, c10, qt, rt, rfl, s9, s10, l10, bq2, br2, ev2, lt2, b9⟩; have HQ2 := Lib.hid (quot_eq HP.out HVP.out HVD.out ev2 (val_range br2).1 lt2 HV.out.2.2.1 HV.out.2.2.2); clear ev2 lt2; have HL10 := Lib.hid l10; clear l10; have bD := below_step bD b9)
    | (go_at_call_of 26 A9; refine (Number_lit _ _ _ qt 0 _ (by rfl) (by exact s9) bq2 (by have := HLN.out; omega) (by decide) (Nat.zero_le _)).mono ?_; rw [List.drop_zero, beyond_nat bq2 HQ2.out.1, HB2.out]; rintro e wn ⟨rfl, rfl⟩)
    | (go_at_call_of 26 A10; refine (Number_lit _ _ _ rt 0 _ (by rfl) (by exact s10) br2 (by have := HLN.out; have := HL10.out; omega) (by decide) (Nat.zero_le _)).mono ?_; rw [List.drop_zero, small_mod r2 HR.out.2.2.2 HQ2.out.2]; rintro e wn ⟨rfl, rfl⟩))
  go_ret
  exact ⟨rfl, below_step bC bD⟩

set_option maxRecDepth 20000 in
set_option maxHeartbeats 3200000 in
theorem divides_10 (a b d q1 r1 q2 r2 : Nat) (w : World) (hA : Hid (a < 18446744073709551616)) (hB : Hid (b < 18446744073709551616)) (hD : Hid (d < 18446744073709551616)) (h0 : 0 < d) (HV : Hid ((a * 18446744073709551616 + b) / d = q1 ∧ (a * 18446744073709551616 + b) % d = r1 ∧ a * b / d = q2 ∧ a * b % d = r2)) (HR : Hid (True ∧ q2 < 18446744073709551616 ∧ r1 < 18446744073709551616 ∧ r2 < 18446744073709551616)) (HB1 : Hid (decide (18446744073709551616 ≤ q1) = true)) (HB2 : Hid (decide (18446744073709551616 ≤ q2) = false)) (HO : Hid (over a b d = (0, 0, 150))) (HS : Hid (scale a b d = (q2, r2, 0))) :
    Calls Try.prog 14 #[.int .u64 (a : Int), .int .u64 (b : Int), .int .u64 (d : Int)] w fun e w' => e = .returned (.bool true) ∧ Below w.heap.size w w' := by
  have h1 : ((d : Int) == 0) = false := by simp; omega
  have h1' : (d == 0) = false := by simp; omega
  have h1'' : decide (d = 0) = false := by simp; omega
  have HP := Lib.hid h0
  clear h0
  go_enter Try.func14, Try.ntmps14
  go_wp2_with (first
    | (go_at_call 17; refine (Over_lit (Q := 0) (R := 0) (E := 150) a b d 0 0 150 (by rfl) (by rfl) (by rfl) hA.out hB.out hD.out HO.out rfl rfl rfl _).mono ?_; rintro e w0 ⟨rfl, rfl⟩; have bC := Below.refl w.heap.size w)
    | (go_at_call 16; refine (Scale_lit (Q := ((q2 : Nat) : Int)) (R := ((r2 : Nat) : Int)) (E := 0) a b d q2 r2 0 (by rfl) (by rfl) (by rfl) hA.out hB.out hD.out HS.out rfl rfl rfl _).mono ?_; rintro e w1 ⟨rfl, b1⟩; have bC := b1)
    | (go_at_call_of 24 d; refine (Bits_any d _ hD.out).mono ?_; rintro e wd ⟨Ad, cd, ds, rfl, od, bd, vd, b2⟩; have HVD := Lib.hid vd; clear vd; have bC := below_step bC b2; have sd := sees_own od; have bD := Below.refl wd.heap.size wd)
    | (go_at_call_of 24 b; refine (Bits_any b _ hB.out).mono ?_; rintro e wb ⟨Ab, cb, bs, rfl, ob, bb, vb, b3⟩; have HVB := Lib.hid vb; clear vb; have bD := below_step bD b3)
    | (go_at_call_of 24 a; refine (Bits_any a _ hA.out).mono ?_; rintro e wa ⟨Aa, ca, xs, rfl, oa, ba, va, b4⟩; have HVA := Lib.hid va; clear va; have bD := below_step bD b4)
    | (at_builtin; refine wpList_app E_int rfl _ _ rfl rfl (own_below ob b4 (Nat.le_refl _)) rfl (sees_own oa) (ints1 _ _) (by decide) (by decide) (Nat.le_trans b3.size b4.size) ?_; intro A5 c5 w5 hown5 hg5 hb5; have bD := bD.trans hb5; have HV1 := Lib.hid (wide_val a b (sees_own ob).length HVB.out HVA.out); have HBB := Lib.hid (bb.app ba))
    | (go_at_call_of 32 A5; refine (Divide_any _ _ _ _ _ _ (bs ++ xs) ds _ (by rw [List.map_append]; exact sees_own hown5) (by exact sd.below bD (Nat.le_refl _)) HBB.out bd (by rw [HVD.out]; have := HP.out; omega) (by decide)).mono ?_; rintro e w6 ⟨A6, c6, A7, n7, c7, qs, rs, rfl, s6, s7, l7, bq1, br1, ev1, lt1, b6⟩; have HQ1 := Lib.hid (quot_eq HP.out HV1.out HVD.out ev1 (val_range br1).1 lt1 HV.out.1 HV.out.2.1); clear ev1 lt1; have HL7 := Lib.hid l7; clear l7; have bD := below_step bD b6)
    | (go_at_call_of 26 A6; refine (Number_lit _ _ _ qs 0 _ (by rfl) (by exact s6) bq1 (by decide) (by decide) (by decide)).mono ?_; rw [List.drop_zero, beyond_nat bq1 HQ1.out.1, HB1.out]; rintro e wn ⟨rfl, rfl⟩)
    | (go_at_call_of 26 A7; refine (Number_lit _ _ _ rs 0 _ (by rfl) (by exact s7) br1 (by have := HL7.out; omega) (by decide) (Nat.zero_le _)).mono ?_; rw [List.drop_zero, small_mod r1 HR.out.2.2.1 HQ1.out.2]; rintro e wn ⟨rfl, rfl⟩)
    | (go_at_call 25; refine (Times_any _ _ _ _ _ _ xs bs _ (by exact (sees_own oa).below b3 (Nat.le_refl _)) (by exact sees_own ob) ba bb (by decide)).mono ?_; rintro e w8 ⟨A8, n8, c8, ps, rfl, s8, ln8, ln9, bp, vp, b8⟩; rw [HVA.out, HVB.out, ← Int.natCast_mul] at vp; have HVP := Lib.hid vp; clear vp; have HLN := Lib.hid ln8; clear ln8 ln9; have bD := below_step bD b8)
    | (go_at_call_of 32 A8; refine (Divide_any _ _ _ _ _ _ ps ds _ (by exact s8) (by exact sd.below bD (Nat.le_refl _)) bp bd (by rw [HVD.out]; have := HP.out; omega) (by have := HLN.out; omega)).mono ?_; rintro e w9 ⟨A9, c9, A10, n10, c10, qt, rt, rfl, s9, s10, l10, bq2, br2, ev2, lt2, b9⟩; have HQ2 := Lib.hid (quot_eq HP.out HVP.out HVD.out ev2 (val_range br2).1 lt2 HV.out.2.2.1 HV.out.2.2.2); clear ev2 lt2; have HL10 := Lib.hid l10; clear l10; have bD := below_step bD b9)
    | (go_at_call_of 26 A9; refine (Number_lit _ _ _ qt 0 _ (by rfl) (by exact s9) bq2 (by have := HLN.out; omega) (by decide) (Nat.zero_le _)).mono ?_; rw [List.drop_zero, beyond_nat bq2 HQ2.out.1, HB2.out, small_mod q2 HR.out.2.1 HQ2.out.1]; rintro e wn ⟨rfl, rfl⟩)
    | (go_at_call_of 26 A10; refine (Number_lit _ _ _ rt 0 _ (by rfl) (by exact s10) br2 (by have := HLN.out; have := HL10.out; omega) (by decide) (Nat.zero_le _)).mono ?_; rw [List.drop_zero, small_mod r2 HR.out.2.2.2 HQ2.out.2]; rintro e wn ⟨rfl, rfl⟩))
  go_ret
  exact ⟨rfl, below_step bC bD⟩

set_option maxRecDepth 20000 in
set_option maxHeartbeats 3200000 in
theorem divides_11 (a b d q1 r1 q2 r2 : Nat) (w : World) (hA : Hid (a < 18446744073709551616)) (hB : Hid (b < 18446744073709551616)) (hD : Hid (d < 18446744073709551616)) (h0 : 0 < d) (HV : Hid ((a * 18446744073709551616 + b) / d = q1 ∧ (a * 18446744073709551616 + b) % d = r1 ∧ a * b / d = q2 ∧ a * b % d = r2)) (HR : Hid (True ∧ True ∧ r1 < 18446744073709551616 ∧ r2 < 18446744073709551616)) (HB1 : Hid (decide (18446744073709551616 ≤ q1) = true)) (HB2 : Hid (decide (18446744073709551616 ≤ q2) = true)) (HO : Hid (over a b d = (0, 0, 150))) (HS : Hid (scale a b d = (18446744073709551615, 0, 0))) :
    Calls Try.prog 14 #[.int .u64 (a : Int), .int .u64 (b : Int), .int .u64 (d : Int)] w fun e w' => e = .returned (.bool true) ∧ Below w.heap.size w w' := by
  have h1 : ((d : Int) == 0) = false := by simp; omega
  have h1' : (d == 0) = false := by simp; omega
  have h1'' : decide (d = 0) = false := by simp; omega
  have HP := Lib.hid h0
  clear h0
  go_enter Try.func14, Try.ntmps14
  go_wp2_with (first
    | (go_at_call 17; refine (Over_lit (Q := 0) (R := 0) (E := 150) a b d 0 0 150 (by rfl) (by rfl) (by rfl) hA.out hB.out hD.out HO.out rfl rfl rfl _).mono ?_; rintro e w0 ⟨rfl, rfl⟩; have bC := Below.refl w.heap.size w)
    | (go_at_call 16; refine (Scale_lit (Q := 18446744073709551615) (R := 0) (E := 0) a b d 18446744073709551615 0 0 (by rfl) (by rfl) (by rfl) hA.out hB.out hD.out HS.out rfl rfl rfl _).mono ?_; rintro e w1 ⟨rfl, b1⟩; have bC := b1)
    | (go_at_call_of 24 d; refine (Bits_any d _ hD.out).mono ?_; rintro e wd ⟨Ad, cd, ds, rfl, od, bd, vd, b2⟩; have HVD := Lib.hid vd; clear vd; have bC := below_step bC b2; have sd := sees_own od; have bD := Below.refl wd.heap.size wd)
    | (go_at_call_of 24 b; refine (Bits_any b _ hB.out).mono ?_; rintro e wb ⟨Ab, cb, bs, rfl, ob, bb, vb, b3⟩; have HVB := Lib.hid vb; clear vb; have bD := below_step bD b3)
    | (go_at_call_of 24 a; refine (Bits_any a _ hA.out).mono ?_; rintro e wa ⟨Aa, ca, xs, rfl, oa, ba, va, b4⟩; have HVA := Lib.hid va; clear va; have bD := below_step bD b4)
    | (at_builtin; refine wpList_app E_int rfl _ _ rfl rfl (own_below ob b4 (Nat.le_refl _)) rfl (sees_own oa) (ints1 _ _) (by decide) (by decide) (Nat.le_trans b3.size b4.size) ?_; intro A5 c5 w5 hown5 hg5 hb5; have bD := bD.trans hb5; have HV1 := Lib.hid (wide_val a b (sees_own ob).length HVB.out HVA.out); have HBB := Lib.hid (bb.app ba))
    | (go_at_call_of 32 A5; refine (Divide_any _ _ _ _ _ _ (bs ++ xs) ds _ (by rw [List.map_append]; exact sees_own hown5) (by exact sd.below bD (Nat.le_refl _)) HBB.out bd (by rw [HVD.out]; have := HP.out; omega) (by decide)).mono ?_; rintro e w6 ⟨A6, c6, A7, n7, c7, qs, rs, rfl, s6, s7, l7, bq1, br1, ev1, lt1, b6⟩; have HQ1 := Lib.hid (quot_eq HP.out HV1.out HVD.out ev1 (val_range br1).1 lt1 HV.out.1 HV.out.2.1); clear ev1 lt1; have HL7 := Lib.hid l7; clear l7; have bD := below_step bD b6)
    | (go_at_call_of 26 A6; refine (Number_lit _ _ _ qs 0 _ (by rfl) (by exact s6) bq1 (by decide) (by decide) (by decide)).mono ?_; rw [List.drop_zero, beyond_nat bq1 HQ1.out.1, HB1.out]; rintro e wn ⟨rfl, rfl⟩)
    | (go_at_call_of 26 A7; refine (Number_lit _ _ _ rs 0 _ (by rfl) (by exact s7) br1 (by have := HL7.out; omega) (by decide) (Nat.zero_le _)).mono ?_; rw [List.drop_zero, small_mod r1 HR.out.2.2.1 HQ1.out.2]; rintro e wn ⟨rfl, rfl⟩)
    | (go_at_call 25; refine (Times_any _ _ _ _ _ _ xs bs _ (by exact (sees_own oa).below b3 (Nat.le_refl _)) (by exact sees_own ob) ba bb (by decide)).mono ?_; rintro e w8 ⟨A8, n8, c8, ps, rfl, s8, ln8, ln9, bp, vp, b8⟩; rw [HVA.out, HVB.out, ← Int.natCast_mul] at vp; have HVP := Lib.hid vp; clear vp; have HLN := Lib.hid ln8; clear ln8 ln9; have bD := below_step bD b8)
    | (go_at_call_of 32 A8; refine (Divide_any _ _ _ _ _ _ ps ds _ (by exact s8) (by exact sd.below bD (Nat.le_refl _)) bp bd (by rw [HVD.out]; have := HP.out; omega) (by have := HLN.out; omega)).mono ?_; rintro e w9 ⟨A9, c9, A10, n10, c10, qt, rt, rfl, s9, s10, l10, bq2, br2, ev2, lt2, b9⟩; have HQ2 := Lib.hid (quot_eq HP.out HVP.out HVD.out ev2 (val_range br2).1 lt2 HV.out.2.2.1 HV.out.2.2.2); clear ev2 lt2; have HL10 := Lib.hid l10; clear l10; have bD := below_step bD b9)
    | (go_at_call_of 26 A9; refine (Number_lit _ _ _ qt 0 _ (by rfl) (by exact s9) bq2 (by have := HLN.out; omega) (by decide) (Nat.zero_le _)).mono ?_; rw [List.drop_zero, beyond_nat bq2 HQ2.out.1, HB2.out]; rintro e wn ⟨rfl, rfl⟩)
    | (go_at_call_of 26 A10; refine (Number_lit _ _ _ rt 0 _ (by rfl) (by exact s10) br2 (by have := HLN.out; have := HL10.out; omega) (by decide) (Nat.zero_le _)).mono ?_; rw [List.drop_zero, small_mod r2 HR.out.2.2.2 HQ2.out.2]; rintro e wn ⟨rfl, rfl⟩))
  go_ret
  exact ⟨rfl, below_step bC bD⟩

set_option maxRecDepth 20000 in
theorem divides_0 (a b : Nat) (w : World) (hA : Hid (a < 18446744073709551616)) (hB : Hid (b < 18446744073709551616)) :
    Calls Try.prog 14 #[.int .u64 (a : Int), .int .u64 (b : Int), .int .u64 0] w fun e w' => e = .returned (.bool true) ∧ Below w.heap.size w w' := by
  go_enter Try.func14, Try.ntmps14
  go_wp2_with (first
    | (go_at_call 17; refine (Over_lit (Q := 0) (R := 0) (E := 2) a b 0 0 0 2 (by rfl) (by rfl) (by rfl) hA.out hB.out (by decide) rfl rfl rfl rfl _).mono ?_; rintro e w0 ⟨rfl, rfl⟩)
    | (go_at_call 16; refine (Scale_lit (Q := 0) (R := 0) (E := 2) a b 0 0 0 2 (by rfl) (by rfl) (by rfl) hA.out hB.out (by decide) rfl rfl rfl rfl _).mono ?_; rintro e w1 ⟨rfl, b1⟩))
  go_ret
  exact ⟨rfl, b1⟩

theorem over_beyond {a b d : Nat} (hb : b < 18446744073709551616) (hd : 0 < d) : 18446744073709551616 ≤ (a * 18446744073709551616 + b) / d ↔ d ≤ a := by
  rw [Nat.le_div_iff_mul_le hd]
  omega

theorem divides_any (a b d : Nat) (w : World) (ha : a < 18446744073709551616) (hb : b < 18446744073709551616) (hd : d < 18446744073709551616) :
    Calls Try.prog 14 #[.int .u64 (a : Int), .int .u64 (b : Int), .int .u64 (d : Int)] w fun e w' => e = .returned (.bool true) ∧ Below w.heap.size w w' := by
  rcases Nat.eq_zero_or_pos d with rfl | h0
  · exact divides_0 a b w (Lib.hid ha) (Lib.hid hb)
  · have h1 := over_beyond (a := a) hb h0
    have m1 : (a * 18446744073709551616 + b) % d < 18446744073709551616 := Nat.lt_trans (Nat.mod_lt _ h0) hd
    have m2 : a * b % d < 18446744073709551616 := Nat.lt_trans (Nat.mod_lt _ h0) hd
    have e0 : ¬ d = 0 := by omega
    have HV : Hid ((a * 18446744073709551616 + b) / d = (a * 18446744073709551616 + b) / d ∧ (a * 18446744073709551616 + b) % d = (a * 18446744073709551616 + b) % d ∧ a * b / d = a * b / d ∧ a * b % d = a * b % d) := Lib.hid ⟨rfl, rfl, rfl, rfl⟩
    by_cases t1 : d ≤ a
    · have ho : over a b d = (0, 0, 150) := by unfold over; rw [if_neg e0, if_pos t1]
      by_cases t2 : a * b / d < 18446744073709551616
      · have hs : scale a b d = (a * b / d, a * b % d, 0) := by unfold scale; rw [if_neg e0, if_pos t2]
        exact divides_10 a b d _ _ _ _ w (Lib.hid ha) (Lib.hid hb) (Lib.hid hd) h0 HV (Lib.hid ⟨trivial, t2, m1, m2⟩) (Lib.hid (decide_eq_true (h1.2 t1))) (Lib.hid (decide_eq_false (Nat.not_le_of_lt t2))) (Lib.hid ho) (Lib.hid hs)
      · have hs : scale a b d = (18446744073709551615, 0, 0) := by unfold scale; rw [if_neg e0, if_neg t2]
        exact divides_11 a b d _ _ _ _ w (Lib.hid ha) (Lib.hid hb) (Lib.hid hd) h0 HV (Lib.hid ⟨trivial, trivial, m1, m2⟩) (Lib.hid (decide_eq_true (h1.2 t1))) (Lib.hid (decide_eq_true (Nat.le_of_not_lt t2))) (Lib.hid ho) (Lib.hid hs)
    · have ho : over a b d = ((a * 18446744073709551616 + b) / d, (a * 18446744073709551616 + b) % d, 0) := by unfold over; rw [if_neg e0, if_neg t1]
      have t3 : ¬ 18446744073709551616 ≤ (a * 18446744073709551616 + b) / d := fun h => t1 (h1.1 h)
      by_cases t2 : a * b / d < 18446744073709551616
      · have hs : scale a b d = (a * b / d, a * b % d, 0) := by unfold scale; rw [if_neg e0, if_pos t2]
        exact divides_00 a b d _ _ _ _ w (Lib.hid ha) (Lib.hid hb) (Lib.hid hd) h0 HV (Lib.hid ⟨Nat.lt_of_not_le t3, t2, m1, m2⟩) (Lib.hid (decide_eq_false t3)) (Lib.hid (decide_eq_false (Nat.not_le_of_lt t2))) (Lib.hid ho) (Lib.hid hs)
      · have hs : scale a b d = (18446744073709551615, 0, 0) := by unfold scale; rw [if_neg e0, if_neg t2]
        exact divides_01 a b d _ _ _ _ w (Lib.hid ha) (Lib.hid hb) (Lib.hid hd) h0 HV (Lib.hid ⟨Nat.lt_of_not_le t3, trivial, m1, m2⟩) (Lib.hid (decide_eq_false t3)) (Lib.hid (decide_eq_true (Nat.le_of_not_lt t2))) (Lib.hid ho) (Lib.hid hs)

set_option maxRecDepth 20000 in
theorem SatDivides_any (a b c : Nat) (w : World) (ha0 : a < 18446744073709551616) (hb0 : b < 18446744073709551616) (hc0 : c < 18446744073709551616) :
    Calls Try.prog 4 #[.int .u64 (a : Int), .int .u64 (b : Int), .int .u64 (c : Int)] w fun e w' => e = .returned (.bool true) ∧ Below w.heap.size w w' := by
  have hA := Lib.hid ha0
  have hB := Lib.hid hb0
  have hC := Lib.hid hc0
  clear ha0 hb0 hc0
  go_enter Try.func4, Try.ntmps4
  go_wp2_with (first
    | (go_at_call 14; refine (divides_any a b c _ hA.out hB.out hC.out).mono ?_; rintro e w1 ⟨rfl, b1⟩)
    | (go_at_call 13; refine (awake_any _).mono ?_; rintro e w2 ⟨rfl, b2⟩))
  go_ret
  exact ⟨rfl, below_step b1 b2⟩
end Go.Proofs.Ytoglolhjfbpnpaa
