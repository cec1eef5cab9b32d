/- Walks: Has, Rank, Count. -/
import Derived.Test.YtemhoaleeefhhaaProg
import Derived.Test.YtemhoaleeefhhaaBb
namespace Go.Proofs.Ytemhoaleeefhhaa
open Go.RowKit
set_option linter.unusedVariables false

theorem cnt_le (l : List Int) (i : Nat) : cnt l i ≤ i := by
  have := List.countP_le_length (p := bt l) (l := List.range i)
  rwa [List.length_range] at this
theorem pc_le {x : Int} (h0 : 0 ≤ x) (h1 : x ≤ 18446744073709551615) : pc x.toNat ≤ 64 := by
  have := pc_count 64 x.toNat
  have e : (2 : Nat) ^ 64 = 18446744073709551616 := by decide
  rw [Nat.mod_eq_of_lt (by omega)] at this
  have h2 := List.countP_le_length (p := fun i => x.toNat.testBit i) (l := List.range 64)
  rw [List.length_range] at h2
  omega
/-- What Has tells. -/
def hasF (l : List Int) (N i : Int) : Bool := decide (RightW N l) && (decide (0 ≤ i) && (decide (i < N) && bt l i.toNat))
/-- What Rank tells. -/
def rankF (l : List Int) (N i : Int) : Nat := if RightW N l then cnt l (min i N).toNat else 0

theorem Sees.box {w : World} {s n c : Nat} {A : Option Addr} {xs : List Value} (h : Sees w s A n c xs) (o : Obj) : Sees (w.alloc o) s A n c xs := h.below ((Below.refl _ _).alloc (Nat.le_refl _) o) (Nat.le_refl _)

set_option maxRecDepth 20000 in
set_option maxHeartbeats 1600000 in
theorem Has_any (N i : Int) (A : Option Addr) (n c : Nat) (l : List Int) (w : World) (hs : Sees w 1 A n c (l.map (Value.int .u64))) (hw : W64 l) :
    Calls Try.prog 22 #[setv N A n c, .int .i64 i] w fun e w' => e = .returned (.bool (hasF l N i)) ∧ Below w.heap.size w w' := by
  have HB := Lib.hid ((Below.refl w.heap.size w).alloc (Nat.le_refl _) (.cells #[.int .i64 N, .slice A n c] 24))
  have hl := hs.length
  have HS := Lib.hid (hs.box (.cells #[.int .i64 N, .slice A n c] 24))
  have HX := Lib.hid (heap_alloc_new w (.cells #[.int .i64 N, .slice A n c] 24))
  clear hs
  unfold hasF
  by_cases hr : RightW N l
  · have hR : decide (RightW N l) = true := decide_eq_true hr
    rw [hR]
    have hRL := Lib.hid hR
    by_cases h0 : 0 ≤ i
    · have d0 : decide (0 ≤ i) = true := by simpa using h0
      rw [d0]
      by_cases h1 : i < N
      · have d1 : decide (i < N) = true := by simpa using h1
        rw [d1]
        obtain ⟨k, rfl⟩ : ∃ k : Nat, i = (k : Int) := ⟨i.toNat, by omega⟩
        have hk : k < 64 * n := by have := hr.2.2.1; omega
        rw [Int.toNat_natCast]
        have HK := Lib.hid hk
        have hres : (true && (true && (true && bt l k))) = bt l k := by simp
        rw [hres]
        generalize hbt : bt l k = b
        have HBT := Lib.hid hbt
        clear hr hR h0 h1 hk hres hbt hl
        go_enter Try.func22, Try.ntmps22
        go_wp2_with (first
          | (go_at_call 54; have _q := R1; refine (has_any N A n c k l _ (HS.out.below R1.out (Nat.le_refl _)) hw HK.out).mono ?_; rw [HBT.out]; rintro e w2 ⟨rfl, k2⟩; have B2 := Lib.hid (below_step (below_step HB.out R1.out) k2); clear k2)
          | (go_at_call 34; refine (Right_any N A n c l _ HS.out hw).mono ?_; rw [hRL.out]; rintro e w1 ⟨rfl, k1⟩; have X1 := (k1.block w.heap.size (by simp)).trans HX.out; have y0 : w1.cell? ⟨w.heap.size, 0, none⟩ = some (.int .i64 N) := (by simp [World.cell?, X1]); have y1 : w1.cell? ⟨w.heap.size, 1, none⟩ = some (.slice A n c) := (by simp [World.cell?, X1]); have R1 := Lib.hid k1; clear k1 X1))
        go_ret
        exact ⟨rfl, B2.out⟩
      · have d1 : decide (i < N) = false := by simpa using h1
        rw [d1]
        clear hr hR h0 h1 hl
        go_enter Try.func22, Try.ntmps22
        go_wp2_with (go_at_call 34; refine (Right_any N A n c l _ HS.out hw).mono ?_; rw [hRL.out]; rintro e w1 ⟨rfl, k1⟩; have X1 := (k1.block w.heap.size (by simp)).trans HX.out; have y0 : w1.cell? ⟨w.heap.size, 0, none⟩ = some (.int .i64 N) := (by simp [World.cell?, X1]); have R1 := Lib.hid k1; clear k1 X1)
        go_ret
        exact ⟨rfl, below_step HB.out R1.out⟩
    · have d0 : decide (0 ≤ i) = false := by simpa using h0
      rw [d0]
      clear hr hR h0 hl
      go_enter Try.func22, Try.ntmps22
      go_wp2_with (go_at_call 34; refine (Right_any N A n c l _ HS.out hw).mono ?_; rw [hRL.out]; rintro e w1 ⟨rfl, k1⟩; have R1 := Lib.hid k1; clear k1)
      go_ret
      exact ⟨rfl, below_step HB.out R1.out⟩
  · have hR : decide (RightW N l) = false := decide_eq_false hr
    rw [hR]
    have hRL := Lib.hid hR
    clear hr hR hl
    go_enter Try.func22, Try.ntmps22
    go_wp2_with (go_at_call 34; refine (Right_any N A n c l _ HS.out hw).mono ?_; rw [hRL.out]; rintro e w1 ⟨rfl, k1⟩; have R1 := Lib.hid k1; clear k1)
    go_ret
    exact ⟨rfl, below_step HB.out R1.out⟩

set_option maxRecDepth 20000 in
theorem Rank_no (N i : Int) (A : Option Addr) (n c : Nat) (l : List Int) (w : World) (hs : Sees w 1 A n c (l.map (Value.int .u64))) (hw : W64 l) (h : ¬ RightW N l ∨ i ≤ 0) :
    Calls Try.prog 18 #[setv N A n c, .int .i64 i] w fun e w' => e = .returned (.int .i64 0) ∧ Below w.heap.size w w' := by
  have HB := Lib.hid ((Below.refl w.heap.size w).alloc (Nat.le_refl _) (.cells #[.int .i64 N, .slice A n c] 24))
  have HS := Lib.hid (hs.box (.cells #[.int .i64 N, .slice A n c] 24))
  clear hs
  by_cases hr : RightW N l
  · have hi : i ≤ 0 := by
      rcases h with h | h
      · exact absurd hr h
      · exact h
    have d0 : decide (i ≤ 0) = true := by simpa using hi
    have hR := Lib.hid (decide_eq_true hr)
    clear h hr hi
    go_enter Try.func18, Try.ntmps18
    go_wp2_with (go_at_call 34; refine (Right_any N A n c l _ HS.out hw).mono ?_; rw [hR.out]; rintro e w1 ⟨rfl, k1⟩; have R1 := Lib.hid k1; clear k1)
    go_ret
    exact ⟨rfl, below_step HB.out R1.out⟩
  · have hR := Lib.hid (decide_eq_false hr)
    clear h hr
    go_enter Try.func18, Try.ntmps18
    go_wp2_with (go_at_call 34; refine (Right_any N A n c l _ HS.out hw).mono ?_; rw [hR.out]; rintro e w1 ⟨rfl, k1⟩; have R1 := Lib.hid k1; clear k1)
    go_ret
    exact ⟨rfl, below_step HB.out R1.out⟩

set_option maxRecDepth 20000 in
set_option maxHeartbeats 1600000 in
theorem Rank_yes (N i : Int) (A : Option Addr) (n c m : Nat) (l : List Int) (w : World) (hs : Sees w 1 A n c (l.map (Value.int .u64))) (hw : W64 l) (hr : RightW N l) (hi : 0 < i) (hm : min i N = (m : Int)) :
    Calls Try.prog 18 #[setv N A n c, .int .i64 i] w fun e w' => e = .returned (.int .i64 (cnt l m : Int)) ∧ Below w.heap.size w w' := by
  have HB := Lib.hid ((Below.refl w.heap.size w).alloc (Nat.le_refl _) (.cells #[.int .i64 N, .slice A n c] 24))
  have hl := hs.length
  have hR := Lib.hid (decide_eq_true hr)
  have hmN : (m : Int) ≤ N := by omega
  have hm64 : m ≤ 64 * n := by have := hr.2.2.1; omega
  have hmin : (if N < i then N else i) = (m : Int) := by split <;> omega
  have hM : m ≤ 65536 := by have := hr.2.1; omega
  obtain ⟨q, hq⟩ : ∃ q : Nat, m / 64 = q := ⟨_, rfl⟩
  obtain ⟨r, hrr⟩ : ∃ r : Nat, m % 64 = r := ⟨_, rfl⟩
  have hcut := fun w => run_cutr E_u64 A n c q (Nat.le_trans (show q ≤ n by omega) hs.cap) w
  have HS := Lib.hid (hs.box (.cells #[.int .i64 N, .slice A n c] 24))
  have HX := Lib.hid (heap_alloc_new w (.cells #[.int .i64 N, .slice A n c] 24))
  have d0 : decide (i ≤ 0) = false := by simp; omega
  have hq1 : (m : Int) / 64 = (q : Int) := by omega
  have hr1 : (m : Int) % 64 = (r : Int) := by omega
  have hr2 : (r : Int) ≤ 63 := by omega
  have hq2 : (q : Int) ≤ (n : Int) := by omega
  have HQ := Lib.hid (And.intro hm64 (And.intro hM (And.intro hq hrr)))
  have hcm : n ≤ 9223372036854775807 := Nat.le_trans hs.cap hs.capm
  clear hs hr hm hm64 hM hq hrr
  go_enter Try.func18, Try.ntmps18
  go_wp2_with (go_at_call 34; refine (Right_any N A n c l _ HS.out hw).mono ?_; rw [hR.out]; rintro e w1 ⟨rfl, k1⟩; have X1 := (k1.block w.heap.size (by simp)).trans HX.out; have y0 : w1.cell? ⟨w.heap.size, 0, none⟩ = some (.int .i64 N) := (by simp [World.cell?, X1]); have y1 : w1.cell? ⟨w.heap.size, 1, none⟩ = some (.slice A n c) := (by simp [World.cell?, X1]); have R1 := Lib.hid k1; clear k1 X1)
  have HS1 := Lib.hid (HS.out.below R1.out (Nat.le_refl _))
  have HB1 := Lib.hid (below_step HB.out R1.out)
  clear R1
  go_loopw [5, 26] (fun sv iv wr => ∃ (k s : Nat), Hid (k ≤ q) ∧ sv = .int .i64 (s : Int) ∧ iv = .int .i64 (k : Int) ∧ Hid (s = cnt l (64 * k)) ∧ wr = w1) (fun _ iv _ => q - (intOf iv).toNat)
  case atStart => exact ⟨0, 0, Lib.hid (Nat.zero_le _), rfl, rfl, Lib.hid (by simp [cnt]), rfl⟩
  case round =>
    obtain ⟨k, s, HK, rfl, rfl, HC, rfl⟩ := hrel
    have hs64 : (s : Int) ≤ 64 * (k : Int) := by have := HC.out; have := cnt_le l (64 * k); omega
    have hk64 : (k : Int) ≤ 1024 := by have := HK.out; have := HQ.out; omega
    by_cases hlt : k < q
    · obtain ⟨b, o, hA, g1⟩ := HS1.out.int (k := k) (by omega)
      subst hA
      have hx := hw.at_ k
      have hcw := cnt_word l hw k
      have hpl := pc_le hx.1 hx.2
      generalize l.getD k 0 = x at hx g1 hcw hpl
      have HXB : Hid (0 ≤ x ∧ x < 18446744073709551616) := Lib.hid (by omega)
      have HCW := Lib.hid hcw
      have hpl2 : (pc x.toNat : Int) ≤ 64 := by omega
      generalize hpc : pc x.toNat = y at hpl2 HCW
      have HPC := Lib.hid hpc
      have d1 : decide ((k : Int) < (q : Int)) = true := by simp; omega
      have hk2 : (k : Int) < (q : Int) := by omega
      have HLT := Lib.hid hlt
      clear hlt hx hcw hpl hpc
      go_wp2_with (go_at_call 53; refine (ones_any x _ HXB.out.1 HXB.out.2).mono ?_; rw [HPC.out]; rintro e w2 ⟨rfl, rfl⟩)
      go_roundw
      case rel => exact ⟨k + 1, s + y, Lib.hid HLT.out, by go_num, by go_num, Lib.hid (by rw [HCW.out, ← HC.out]), trivial⟩
      case measure => have := HLT.out; simp [intOf]; omega
    · have hkq : k = q := by have := HK.out; omega
      subst hkq
      have d1 : decide ((k : Int) < (k : Int)) = false := by simp
      by_cases h0 : r = 0
      · have d2 : decide ((0 : Int) < (r : Int)) = false := by simp; omega
        have d2' : decide (0 < r) = false := by simp; omega
        have hfin : s = cnt l m := by rw [HC.out]; congr 1; have := HQ.out; omega
        have HF := Lib.hid hfin
        clear hlt h0 hfin
        go_wp2
        go_ret
        exact ⟨ret_int (by rw [HF.out]), HB1.out⟩
      · have d2 : decide ((0 : Int) < (r : Int)) = true := by simp; omega
        have d2' : decide (0 < r) = true := by simp; omega
        obtain ⟨b, o, hA, g1⟩ := HS1.out.int (k := k) (by have := HQ.out; omega)
        subst hA
        have hx := hw.at_ k
        have hca := cnt_add l k r (by have := HQ.out; omega)
        generalize l.getD k 0 = x at hx g1 hca
        obtain ⟨hx0, hx1⟩ := hx
        have hp64 : (2 : Int) ^ r ≤ 2 ^ 63 := by
          have := Nat.pow_le_pow_right (show 0 < 2 by decide) (show r ≤ 63 by have := HQ.out; omega)
          exact_mod_cast this
        have e63 : (2 : Int) ^ 63 = 9223372036854775808 := by decide
        have hpp : (0 : Int) < 2 ^ r := Int.pow_pos (by decide)
        have hb1 : IntKind.u64.wrap ((2 : Int) ^ r) = 2 ^ r := IntWalk.u64_in _ (by omega)
        have hb2 : IntKind.u64.wrap ((2 : Int) ^ r - 1) = 2 ^ r - 1 := IntWalk.u64_in _ (by omega)
        obtain ⟨z, hz⟩ : ∃ z : Nat, x.toNat % 2 ^ r = z := ⟨_, rfl⟩
        have hzx : z ≤ x.toNat := by rw [← hz]; exact Nat.mod_le _ _
        have hb3 : bits BinOp.and IntKind.u64 x (2 ^ r - 1) = (z : Int) := by
          rw [u64_and x _ hx0 (by omega) (by omega) (by omega), ← hz, ← Nat.and_two_pow_sub_one_eq_mod]
          have : ((2 : Int) ^ r - 1).toNat = 2 ^ r - 1 := by
            have e : ((2 : Int) ^ r) = ((2 ^ r : Nat) : Int) := by push_cast; rfl
            rw [e]; have := Nat.two_pow_pos r; omega
          rw [this]
        obtain ⟨y, hy⟩ : ∃ y : Nat, pc z = y := ⟨_, rfl⟩
        have hy64 : (y : Int) ≤ 64 := by
          have := pc_le (x := (z : Int)) (by omega) (by omega)
          rw [Int.toNat_natCast] at this
          omega
        have HZ : Hid (0 ≤ (z : Int) ∧ (z : Int) < 18446744073709551616 ∧ pc (z : Int).toNat = y) := Lib.hid ⟨by omega, by omega, by rw [Int.toNat_natCast]; exact hy⟩
        rw [hz, hy] at hca
        have HCA2 : Hid (cnt l m = cnt l (64 * k) + y) := Lib.hid (by rw [← hca]; congr 1; have := HQ.out; omega)
        clear hca hp64 e63 hpp hz hzx hy hx0 hx1
        have hkn : (k : Int) < (n : Int) := by have := HQ.out; omega
        have hr0 : (0 : Int) ≤ (r : Int) := by omega
        have htm : (m : Int).tmod 64 = (r : Int) := by rw [Int.tmod_eq_emod_of_nonneg (by omega)]; exact hr1
        have hwk : IntKind.i64.wrap (k : Int) = (k : Int) := IntWalk.i64_in _ (by omega)
        have hwr : IntKind.i64.wrap (r : Int) = (r : Int) := IntWalk.i64_in _ (by omega)
        have hwy : IntKind.i64.wrap ((s : Int) + (y : Int)) = (s : Int) + (y : Int) := IntWalk.i64_in _ (by omega)
        clear hlt h0
        go_wp2_with fail
        go_quiet ((go_at_call 53; exact Calls.quiet_of_same ((ones_any _ _ HZ.out.1 HZ.out.2.1).mono (fun e w2 h => ⟨by rw [h.1, HZ.out.2.2], h.2.symm⟩))))
        go_wp2
        go_ret
        exact ⟨ret_int (by rw [HCA2.out, ← HC.out]; push_cast; rfl), below_drewN HB1.out _⟩
end Go.Proofs.Ytemhoaleeefhhaa
