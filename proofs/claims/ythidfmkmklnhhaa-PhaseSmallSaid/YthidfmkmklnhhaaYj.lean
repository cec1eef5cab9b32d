/- Walks: Classes. -/
import Derived.Test.YthidfmkmklnhhaaProg
import Derived.Test.YthidfmkmklnhhaaYi
import Derived.Test.YthidfmkmklnhhaaYd2
import Derived.Deep.DeepCutAuto
namespace Go.Proofs.Ythidfmkmklnhhaa
open Go.RowKit
set_option linter.unusedVariables false

theorem fun4 (x0 y0 x1 y1 x2 y2 x3 y3 : Nat) : ∃ x y : Nat → Nat, x 0 = x0 ∧ y 0 = y0 ∧ x 1 = x1 ∧ y 1 = y1 ∧ x 2 = x2 ∧ y 2 = y2 ∧ x 3 = x3 ∧ y 3 = y3 :=
  ⟨fun j => if j = 0 then x0 else if j = 1 then x1 else if j = 2 then x2 else x3, fun j => if j = 0 then y0 else if j = 1 then y1 else if j = 2 then y2 else y3, rfl, rfl, rfl, rfl, rfl, rfl, rfl, rfl⟩
theorem all4 {Q : Nat → Prop} (h0 : Q 0) (h1 : Q 1) (h2 : Q 2) (h3 : Q 3) : ∀ j < 4, Q j := fun j hj => by
  rcases (show j = 0 ∨ j = 1 ∨ j = 2 ∨ j = 3 by omega) with rfl | rfl | rfl | rfl <;> assumption
/-- Four integers as an array; the first k of a function's. -/
abbrev iv4 (c : Nat → Int) : Value := .agg #[.int .i64 (c 0), .int .i64 (c 1), .int .i64 (c 2), .int .i64 (c 3)]
def cut4 (P : Nat → Int) (k : Nat) : Nat → Int := fun j => if j < k then P j else 0
abbrev ic4 (c : Nat → Int) : Array Value := #[.int .i64 (c 0), .int .i64 (c 1), .int .i64 (c 2), .int .i64 (c 3)]
theorem cut4_set (P : Nat → Int) (k : Nat) (hk : k < 4) : (ic4 (cut4 P k)).setIfInBounds k (.int .i64 (P k)) = ic4 (cut4 P (k + 1)) := by
  rcases (show k = 0 ∨ k = 1 ∨ k = 2 ∨ k = 3 by omega) with rfl | rfl | rfl | rfl <;> simp [cut4, ic4]
theorem cut4_get (P : Nat → Int) (k : Nat) (hk : k < 4) : (ic4 (cut4 P k))[k]? = some (.int .i64 0) := by
  rcases (show k = 0 ∨ k = 1 ∨ k = 2 ∨ k = 3 by omega) with rfl | rfl | rfl | rfl <;> simp [cut4, ic4]
theorem cut4_all (P : Nat → Int) : ic4 (cut4 P 4) = ic4 P := by simp [cut4, ic4]
/-- Four integral complex numbers that are the sums of a row. -/
def Right4 (p q : Nat → Int) : Prop :=
  (∀ j < 4, (p j).natAbs ≤ 1125899906842624 ∧ (q j).natAbs ≤ 1125899906842624) ∧ (∀ r < 4, pI r p q 4 = 0 ∧ pR r p q 4 % 4 = 0) ∧ sz [pR 0 p q 4 / 4, pR 1 p q 4 / 4, pR 2 p q 4 / 4, pR 3 p q 4 / 4] 4 ≤ 1125899906842624
/-- What 'Classes' returns. -/
def Cls (p q c : Nat → Int) (err : Int) : Prop := (Right4 p q ∧ err = 0 ∧ ∀ r < 4, c r = pR r p q 4 / 4) ∨ (¬ Right4 p q ∧ err = 400 ∧ ∀ r < 4, c r = 0)

theorem toInt_fi {b : Nat} {n : Int} (h : FI b n) (hn : n.natAbs ≤ 9007199254740992) (w : World) : (convert 50 3 (.float .f64 b)).run Try.prog w = .ok (.int .i64 n) w := by
  refine run_convert_float_int w _ _ _ _ _ _ (by kernel_rfl) (by kernel_rfl) ?_
  unfold floatToIntVal
  rw [show (FloatKind.f64.decode b).toInt .zero = some n from FI.toInt h .zero]
  simp only []
  rw [if_pos]
  constructor
  · show (-9223372036854775808 : Int) ≤ n; omega
  · show n ≤ (9223372036854775807 : Int); omega

set_option maxRecDepth 20000 in
set_option maxHeartbeats 1600000 in
theorem Classes_any (x y : Nat → Nat) (p q : Nat → Int) (w : World) (hf : ∀ j < 4, FI (x j) (p j) ∧ FI (y j) (q j)) (hz : ∀ j < 4, (p j).natAbs ≤ 9007199254740992 ∧ (q j).natAbs ≤ 9007199254740992) :
    Calls Try.prog 23 #[zf x y] w fun e w' => ∃ c err, e = .returned (.tuple #[iv4 c, .int .i64 err]) ∧ Cls p q c err ∧ Below w.heap.size w w' := by
  obtain ⟨W, hW⟩ : ∃ W, (w.alloc (.cells #[.complex .f64 (x 0) (y 0), .complex .f64 (x 1) (y 1), .complex .f64 (x 2) (y 2), .complex .f64 (x 3) (y 3)] 26)).alloc (.cells #[.int .i64 0, .int .i64 0, .int .i64 0, .int .i64 0] 40) = W := ⟨_, rfl⟩
  have A1 : Arr 26 W w.heap.size #[.complex .f64 (x 0) (y 0), .complex .f64 (x 1) (y 1), .complex .f64 (x 2) (y 2), .complex .f64 (x 3) (y 3)] := by rw [← hW]; exact (Arr.new _ _ _).al _
  have A2 : Arr 40 W (w.heap.size + 1) #[.int .i64 0, .int .i64 0, .int .i64 0, .int .i64 0] := by rw [← hW]; exact Arr.new1 _ _ _ _
  have hB : Below w.heap.size w W := by rw [← hW]; exact ((Below.refl _ _).alloc (Nat.le_refl _) _).alloc (by simp) _
  have HA := Lib.hid (And.intro A1 (And.intro A2 hB))
  have HF := Lib.hid hf
  have HZ := Lib.hid hz
  have HW := Lib.hid hW
  have hst := st_c
  have hmf : ∀ (fn : Fn) (first cap : Array Value) (w : World), (Instr.makeFunc fn first cap).run Try.prog w = .ok (.func fn first cap) w := fun _ _ _ _ => rfl
  clear hf hz A1 A2 hB hW
  go_enter Try.func23, Try.ntmps23
  go_upto_region 1 with fail
  rw [HW.out]
  obtain ⟨⟨b0, b1, b2, b3⟩, -⟩ := HA.out.1.four
  go_wp2_with fail
  clear b0 b1 b2 b3
  go_loopw [14] (fun iv wr => ∃ k : Nat, Hid (k ≤ 4) ∧ iv = .int .i64 (k : Int) ∧ Hid (∀ j < k, (p j).natAbs ≤ 1125899906842624 ∧ (q j).natAbs ≤ 1125899906842624) ∧ Hid (Arr 26 wr w.heap.size #[.complex .f64 (x 0) (y 0), .complex .f64 (x 1) (y 1), .complex .f64 (x 2) (y 2), .complex .f64 (x 3) (y 3)] ∧ Arr 40 wr (w.heap.size + 1) #[.int .i64 0, .int .i64 0, .int .i64 0, .int .i64 0] ∧ Below w.heap.size w wr)) (fun iv _ => 4 - (intOf iv).toNat)
  case atStart => exact ⟨0, Lib.hid (Nat.zero_le _), rfl, Lib.hid (fun j hj => by omega), HA⟩
  case round =>
    clear HA HW
    obtain ⟨k, HK, rfl, HIN, HA⟩ := hrel
    by_cases hlt : k < 4
    · have d0 : decide ((k : Int) < 4) = true := by simp; omega
      have d0' : decide (k < 4) = true := by simp; omega
      have hk3 : (k : Int) ≤ 3 := by omega
      have hix := ix_z x y k hlt
      have HFK := Lib.hid (And.intro (HF.out k hlt) (HZ.out k hlt))
      have HLT := Lib.hid hlt
      have s4 := HA.out.2.1.four
      obtain ⟨⟨s0, s1, s2, s3⟩, q0, q1, q2, q3⟩ := s4
      by_cases h1 : (p k).natAbs ≤ 1125899906842624
      · have D1 := Lib.hid (decide_eq_true h1)
        by_cases h2 : (q k).natAbs ≤ 1125899906842624
        · have D2 := Lib.hid (decide_eq_true h2)
          have HIN2 : Hid (∀ j < k + 1, (p j).natAbs ≤ 1125899906842624 ∧ (q j).natAbs ≤ 1125899906842624) := Lib.hid fun j hj => by
            rcases Nat.lt_or_ge j k with h | h
            · exact HIN.out j h
            · obtain rfl : j = k := by omega
              exact ⟨h1, h2⟩
          clear hlt h1 h2
          go_wp2_with (first
            | (go_at_call 42; have _q := Q1; refine (whole_any (y k) (q k) _ HFK.out.1.2 HFK.out.2.2).mono ?_; rw [D2.out]; rintro e w2 ⟨rfl, rfl⟩)
            | (go_at_call 42; refine (whole_any (x k) (p k) _ HFK.out.1.1 HFK.out.2.1).mono ?_; rw [D1.out]; rintro e w2 ⟨rfl, rfl⟩; have Q1 := Lib.hid trivial))
          go_roundw
          case rel => exact ⟨k + 1, Lib.hid HLT.out, by go_num, HIN2, HA⟩
          case measure => have := HLT.out; simp [intOf]; omega
        · have D2 := Lib.hid (decide_eq_false h2)
          have HNO : Hid (¬ Right4 p q) := Lib.hid fun h => h2 (h.1 k hlt).2
          clear hlt h1 h2
          go_wp2_with (first
            | (go_at_call 42; have _q := Q1; refine (whole_any (y k) (q k) _ HFK.out.1.2 HFK.out.2.2).mono ?_; rw [D2.out]; rintro e w2 ⟨rfl, rfl⟩)
            | (go_at_call 42; refine (whole_any (x k) (p k) _ HFK.out.1.1 HFK.out.2.1).mono ?_; rw [D1.out]; rintro e w2 ⟨rfl, rfl⟩; have Q1 := Lib.hid trivial))
          have P9 := HA.out.2.1.put4 (.int .i64 0) (.int .i64 0) (.int .i64 0) (.int .i64 0)
          obtain ⟨⟨z0, z1, z2, z3⟩, -⟩ := P9.four
          exact bodyPost_ret (v := .tuple #[iv4 fun _ => 0, .int .i64 400]) (by simp [results, Try.results23, go_sem, z0, z1, z2, z3]) rfl ⟨_, _, rfl, .inr ⟨HNO.out, rfl, fun _ _ => rfl⟩, below_set4 HA.out.2.2 (Nat.le_succ _) _ _ _ _⟩
      · have D1 := Lib.hid (decide_eq_false h1)
        have HNO : Hid (¬ Right4 p q) := Lib.hid fun h => h1 (h.1 k hlt).1
        clear hlt h1
        go_wp2_with (go_at_call 42; refine (whole_any (x k) (p k) _ HFK.out.1.1 HFK.out.2.1).mono ?_; rw [D1.out]; rintro e w2 ⟨rfl, rfl⟩)
        have P9 := HA.out.2.1.put4 (.int .i64 0) (.int .i64 0) (.int .i64 0) (.int .i64 0)
        obtain ⟨⟨z0, z1, z2, z3⟩, -⟩ := P9.four
        exact bodyPost_ret (v := .tuple #[iv4 fun _ => 0, .int .i64 400]) (by simp [results, Try.results23, go_sem, z0, z1, z2, z3]) rfl ⟨_, _, rfl, .inr ⟨HNO.out, rfl, fun _ _ => rfl⟩, below_set4 HA.out.2.2 (Nat.le_succ _) _ _ _ _⟩
    · obtain rfl : k = 4 := by have := HK.out; omega
      clear hlt HK
      have HD : Hid (Does 43 #[.pointer (some ⟨w.heap.size, 0, none⟩)] wr.heap.size wr fun r u v => FI u (pR r p q 4) ∧ FI v (pI r p q 4)) := Lib.hid fun r i W' hr hi k => classes1_any r i hr hi w.heap.size x y p q W' (HA.out.1.step k) HF.out HIN.out
      go_upto_region 8 with (go_at_call 37; refine (eachCls_any _ _ _ HD.out).mono ?_; rintro e w1 ⟨x0, y0, x1, y1, x2, y2, x3, y3, rfl, o1, k1⟩; have B1 := Lib.hid (And.intro (HA.out.2.1.step k1) (below_step HA.out.2.2 k1)); obtain ⟨u, v, rfl, rfl, rfl, rfl, rfl, rfl, rfl, rfl⟩ := fun4 x0 y0 x1 y1 x2 y2 x3 y3; have O1 := Lib.hid (all4 (Q := fun r => FI (u r) (pR r p q 4) ∧ FI (v r) (pI r p q 4)) o1.1 o1.2.1 o1.2.2.1 o1.2.2.2); clear o1 k1)
      have B2 : Hid (Arr 26 (w1.alloc (.cells #[.complex .f64 (u 0) (v 0), .complex .f64 (u 1) (v 1), .complex .f64 (u 2) (v 2), .complex .f64 (u 3) (v 3)] 26)) w1.heap.size #[.complex .f64 (u 0) (v 0), .complex .f64 (u 1) (v 1), .complex .f64 (u 2) (v 2), .complex .f64 (u 3) (v 3)] ∧ Arr 40 (w1.alloc (.cells #[.complex .f64 (u 0) (v 0), .complex .f64 (u 1) (v 1), .complex .f64 (u 2) (v 2), .complex .f64 (u 3) (v 3)] 26)) (w.heap.size + 1) #[.int .i64 0, .int .i64 0, .int .i64 0, .int .i64 0] ∧ Below w.heap.size w (w1.alloc (.cells #[.complex .f64 (u 0) (v 0), .complex .f64 (u 1) (v 1), .complex .f64 (u 2) (v 2), .complex .f64 (u 3) (v 3)] 26))) := Lib.hid ⟨Arr.new _ _ _, B1.out.1.al _, B1.out.2.alloc B1.out.2.size _⟩
      generalize w1.alloc (.cells #[.complex .f64 (u 0) (v 0), .complex .f64 (u 1) (v 1), .complex .f64 (u 2) (v 2), .complex .f64 (u 3) (v 3)] 26) = W2 at B2 ⊢
      generalize w1.heap.size = b6 at B2 ⊢
      clear B1 HA HD
      go_upto_region 9 with fail
      have B3 : Hid (Arr 26 (W2.alloc (.cells #[.int .i64 0, .int .i64 0, .int .i64 0, .int .i64 0] 40)) b6 #[.complex .f64 (u 0) (v 0), .complex .f64 (u 1) (v 1), .complex .f64 (u 2) (v 2), .complex .f64 (u 3) (v 3)] ∧ Arr 40 (W2.alloc (.cells #[.int .i64 0, .int .i64 0, .int .i64 0, .int .i64 0] 40)) (w.heap.size + 1) #[.int .i64 0, .int .i64 0, .int .i64 0, .int .i64 0] ∧ Arr 40 (W2.alloc (.cells #[.int .i64 0, .int .i64 0, .int .i64 0, .int .i64 0] 40)) W2.heap.size (ic4 (cut4 (fun r => pR r p q 4 / 4) 0)) ∧ Below w.heap.size w (W2.alloc (.cells #[.int .i64 0, .int .i64 0, .int .i64 0, .int .i64 0] 40)) ∧ (w.heap.size + 1 ≠ W2.heap.size ∧ b6 ≠ W2.heap.size ∧ w.heap.size ≤ W2.heap.size)) := Lib.hid ⟨B2.out.1.al _, B2.out.2.1.al _, Arr.new _ _ _, B2.out.2.2.alloc B2.out.2.2.size _, by have := B2.out.2.1.lt; omega, by have := B2.out.1.lt; omega, B2.out.2.2.size⟩
      generalize W2.alloc (.cells #[.int .i64 0, .int .i64 0, .int .i64 0, .int .i64 0] 40) = W3 at B3 ⊢
      generalize W2.heap.size = b7 at B3 ⊢
      clear B2
      obtain ⟨⟨b0, b1, b2, b3⟩, -⟩ := B3.out.1.four
      go_wp2_with fail
      clear b0 b1 b2 b3
      go_loopw [32] (fun iv wr => ∃ k : Nat, Hid (k ≤ 4) ∧ iv = .int .i64 (k : Int) ∧ Hid (∀ r < k, pI r p q 4 = 0 ∧ pR r p q 4 % 4 = 0) ∧ Hid (Arr 40 wr (w.heap.size + 1) #[.int .i64 0, .int .i64 0, .int .i64 0, .int .i64 0] ∧ Arr 40 wr b7 (ic4 (cut4 (fun r => pR r p q 4 / 4) k)) ∧ Below w.heap.size w wr)) (fun iv _ => 4 - (intOf iv).toNat)
      case atStart => exact ⟨0, Lib.hid (Nat.zero_le _), rfl, Lib.hid (fun j hj => by omega), Lib.hid ⟨B3.out.2.1, B3.out.2.2.1, B3.out.2.2.2.1⟩⟩
      case round =>
        have HNE := Lib.hid B3.out.2.2.2.2
        clear B3
        obtain ⟨k, HK, rfl, HPI, HA⟩ := hrel
        by_cases hlt : k < 4
        · have d0 : decide ((k : Int) < 4) = true := by simp; omega
          have d0' : decide (k < 4) = true := by simp; omega
          have hk3 : (k : Int) ≤ 3 := by omega
          have hix := ix_z u v k hlt
          have hok := O1.out k hlt
          have hple := p_le k p q 1125899906842624 4 HIN.out
          obtain ⟨P, hP⟩ : ∃ P, pR k p q 4 = P := ⟨_, rfl⟩
          obtain ⟨I, hI⟩ : ∃ I, pI k p q 4 = I := ⟨_, rfl⟩
          rw [hP, hI] at hok hple
          have hcv := toInt_fi hok.1 (by omega)
          have hord := hok.2.ord fi0
          have HLT := Lib.hid hlt
          obtain ⟨⟨s0, s1, s2, s3⟩, q0, q1, q2, q3⟩ := HA.out.1.four
          by_cases hI0 : I = 0
          · subst hI0
            rw [cmp_eq] at hord
            by_cases hm : P % 4 = 0
            · have htm : P.tmod 4 = 0 := Int.tmod_eq_zero_of_dvd (Int.dvd_of_emod_eq_zero hm)
              have htd : P.tdiv 4 = P / 4 := Int.tdiv_eq_ediv_of_dvd (Int.dvd_of_emod_eq_zero hm)
              obtain ⟨d, hd⟩ : ∃ d, P / 4 = d := ⟨_, rfl⟩
              rw [hd] at htd
              have hwd : IntKind.i64.wrap d = d := IntWalk.i64_in _ (by omega)
              have hc7 : wr.cell? ⟨b7, k, none⟩ = some (.int .i64 0) := (HA.out.2.1.c k).trans (cut4_get _ k hlt)
              have hf7 := HA.out.2.1.f k
              have HPI2 : Hid (∀ r < k + 1, pI r p q 4 = 0 ∧ pR r p q 4 % 4 = 0) := Lib.hid fun j hj => by
                rcases Nat.lt_or_ge j k with h | h
                · exact HPI.out j h
                · obtain rfl : j = k := by omega
                  exact ⟨hI, by rw [hP]; exact hm⟩
              have HA2 : Hid (Arr 40 (wr.setCell ⟨b7, k, none⟩ (.int .i64 d)) (w.heap.size + 1) #[.int .i64 0, .int .i64 0, .int .i64 0, .int .i64 0] ∧ Arr 40 (wr.setCell ⟨b7, k, none⟩ (.int .i64 d)) b7 (ic4 (cut4 (fun r => pR r p q 4 / 4) (k + 1))) ∧ Below w.heap.size w (wr.setCell ⟨b7, k, none⟩ (.int .i64 d))) := Lib.hid ⟨HA.out.1.other (k := k) (.int .i64 d) HNE.out.1, by have h := cut4_set (fun r => pR r p q 4 / 4) k hlt; simp only [hP, hd] at h; rw [← h]; exact HA.out.2.1.set k (.int .i64 d), HA.out.2.2.setCell (show w.heap.size ≤ (⟨b7, k, none⟩ : Addr).block from HNE.out.2.2) (.int .i64 d)⟩
              clear hlt hok hple hP hI hm hd s0 s1 s2 s3 q0 q1 q2 q3
              go_wp2_with fail
              go_roundw
              case rel => exact ⟨k + 1, Lib.hid HLT.out, by go_num, HPI2, HA2⟩
              case measure => have := HLT.out; simp [intOf]; omega
            · have htm : ¬ P.tmod 4 = 0 := fun h => hm (Int.emod_eq_zero_of_dvd (Int.dvd_of_tmod_eq_zero h))
              have htm1 : decide (P.tmod 4 = 0) = false := decide_eq_false htm
              have htm2 : (P.tmod 4 == 0) = false := by simpa using htm
              have hwt : IntKind.i64.wrap (P.tmod 4) = P.tmod 4 := IntWalk.i64_in _ (by have h1 := Int.tmod_lt_of_pos P (show (0 : Int) < 4 by decide); have h2 := Int.lt_tmod_of_pos P (show (0 : Int) < 4 by decide); omega)
              have HNO : Hid (¬ Right4 p q) := Lib.hid fun h => hm (by rw [← hP]; exact (h.2.1 k hlt).2)
              clear hlt hok hple hP hI hm
              go_wp2_with fail
              have P9 := HA.out.1.put4 (.int .i64 0) (.int .i64 0) (.int .i64 0) (.int .i64 0)
              obtain ⟨⟨z0, z1, z2, z3⟩, -⟩ := P9.four
              exact bodyPost_ret (v := .tuple #[iv4 fun _ => 0, .int .i64 400]) (by simp [results, Try.results23, go_sem, z0, z1, z2, z3]) rfl ⟨_, _, rfl, .inr ⟨HNO.out, rfl, fun _ _ => rfl⟩, below_set4 HA.out.2.2 (Nat.le_succ _) _ _ _ _⟩
          · have HNO : Hid (¬ Right4 p q) := Lib.hid fun h => hI0 (by rw [← hI]; exact (h.2.1 k hlt).1)
            rcases (show I < 0 ∨ 0 < I by omega) with hI1 | hI1
            · rw [cmp_lt hI1] at hord
              clear hlt hok hple hP hI hI0 hI1
              go_wp2_with fail
              have P9 := HA.out.1.put4 (.int .i64 0) (.int .i64 0) (.int .i64 0) (.int .i64 0)
              obtain ⟨⟨z0, z1, z2, z3⟩, -⟩ := P9.four
              exact bodyPost_ret (v := .tuple #[iv4 fun _ => 0, .int .i64 400]) (by simp [results, Try.results23, go_sem, z0, z1, z2, z3]) rfl ⟨_, _, rfl, .inr ⟨HNO.out, rfl, fun _ _ => rfl⟩, below_set4 HA.out.2.2 (Nat.le_succ _) _ _ _ _⟩
            · rw [cmp_gt hI1] at hord
              clear hlt hok hple hP hI hI0 hI1
              go_wp2_with fail
              have P9 := HA.out.1.put4 (.int .i64 0) (.int .i64 0) (.int .i64 0) (.int .i64 0)
              obtain ⟨⟨z0, z1, z2, z3⟩, -⟩ := P9.four
              exact bodyPost_ret (v := .tuple #[iv4 fun _ => 0, .int .i64 400]) (by simp [results, Try.results23, go_sem, z0, z1, z2, z3]) rfl ⟨_, _, rfl, .inr ⟨HNO.out, rfl, fun _ _ => rfl⟩, below_set4 HA.out.2.2 (Nat.le_succ _) _ _ _ _⟩
        · obtain rfl : k = 4 := by have := HK.out; omega
          clear hlt HK
          have A7 : Arr 40 wr b7 (ic4 (fun r => pR r p q 4 / 4)) := by have h := HA.out.2.1; rwa [cut4_all] at h
          have HS : Hid (Sees wr 1 (some ⟨b7, 0, none⟩) 4 4 ([pR 0 p q 4 / 4, pR 1 p q 4 / 4, pR 2 p q 4 / 4, pR 3 p q 4 / 4].map (Value.int .i64))) := Lib.hid (sees_block A7 rfl (Nat.le_refl _) (by decide) ⟨[], rfl⟩ : Sees wr 1 _ 4 4 [Value.int .i64 (pR 0 p q 4 / 4), Value.int .i64 (pR 1 p q 4 / 4), Value.int .i64 (pR 2 p q 4 / 4), Value.int .i64 (pR 3 p q 4 / 4)])
          have HA7 := Lib.hid A7
          clear A7
          go_upto_region 18 with (go_at_call 34; refine (size_any _ 4 4 1125899906842624 _ _ HS.out (Nat.le_refl _)).mono ?_; rintro e w5 ⟨sv, bb, rfl, hr, k5⟩; have HR := Lib.hid hr; have B5 := Lib.hid (And.intro (HA.out.1.step k5) (And.intro (HA7.out.step k5) (below_step HA.out.2.2 k5))); clear hr k5)
          obtain ⟨⟨s0, s1, s2, s3⟩, q0, q1, q2, q3⟩ := B5.out.1.four
          obtain ⟨⟨c0, c1, c2, c3⟩, -⟩ := B5.out.2.1.four
          cases bb with
          | true =>
            have HOK : Hid (Right4 p q) := Lib.hid ⟨HIN.out, HPI.out, by rcases HR.out with ⟨h, _⟩ | ⟨_, h, _⟩; exact h; cases h⟩
            clear HR
            go_wp2_with fail
            have P9 := B5.out.1.put4 (.int .i64 (pR 0 p q 4 / 4)) (.int .i64 (pR 1 p q 4 / 4)) (.int .i64 (pR 2 p q 4 / 4)) (.int .i64 (pR 3 p q 4 / 4))
            obtain ⟨⟨z0, z1, z2, z3⟩, -⟩ := P9.four
            exact bodyPost_ret (v := .tuple #[iv4 fun r => pR r p q 4 / 4, .int .i64 0]) (by simp [results, Try.results23, go_sem, z0, z1, z2, z3]) rfl ⟨_, _, rfl, .inl ⟨HOK.out, rfl, fun _ _ => rfl⟩, below_set4 B5.out.2.2 (Nat.le_succ _) _ _ _ _⟩
          | false =>
            have HNO : Hid (¬ Right4 p q) := Lib.hid fun h' => by rcases HR.out with ⟨_, h, _⟩ | ⟨h, _⟩; cases h; exact h h'.2.2
            clear HR
            go_wp2_with fail
            have P9 := B5.out.1.put4 (.int .i64 0) (.int .i64 0) (.int .i64 0) (.int .i64 0)
            obtain ⟨⟨z0, z1, z2, z3⟩, -⟩ := P9.four
            exact bodyPost_ret (v := .tuple #[iv4 fun _ => 0, .int .i64 400]) (by simp [results, Try.results23, go_sem, z0, z1, z2, z3]) rfl ⟨_, _, rfl, .inr ⟨HNO.out, rfl, fun _ _ => rfl⟩, below_set4 B5.out.2.2 (Nat.le_succ _) _ _ _ _⟩
end Go.Proofs.Ythidfmkmklnhhaa
