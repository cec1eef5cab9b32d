/- Walks: NaN, Inf, Copysign; the law's made. -/
import Derived.Test.YthidfmkmklnhhaaProg
import Derived.Test.YthidfmkmklnhhaaUm
import Derived.Deep.DeepCutAuto
namespace Go.Proofs.Ythidfmkmklnhhaa
open Go.RowKit
set_option linter.unusedVariables false

set_option maxRecDepth 20000 in
theorem NaN_any (w : World) : Calls Try.prog 29 #[] w fun e w' => e = .returned (.float .f64 9221120237041090561) ∧ w' = w := by
  have hy : ∀ w, (callFunc 55 #[.int .u64 9221120237041090561]).run Try.prog w = .ok (.value (.float .f64 9221120237041090561)) w := f64from 9221120237041090561
  go_enter Try.func29, Try.ntmps29
  go_wp2_with fail
  go_ret
  exact ⟨rfl, rfl⟩
set_option maxRecDepth 20000 in
theorem Inf_pos (w : World) : Calls Try.prog 30 #[.int .i64 1] w fun e w' => e = .returned (.float .f64 9218868437227405312) ∧ w' = w := by
  have hy : ∀ w, (callFunc 55 #[.int .u64 9218868437227405312]).run Try.prog w = .ok (.value (.float .f64 9218868437227405312)) w := f64from 9218868437227405312
  go_enter Try.func30, Try.ntmps30
  go_wp2_with fail
  go_ret
  exact ⟨rfl, rfl⟩
set_option maxRecDepth 20000 in
theorem Inf_neg (w : World) : Calls Try.prog 30 #[.int .i64 (-1)] w fun e w' => e = .returned (.float .f64 18442240474082181120) ∧ w' = w := by
  have hy : ∀ w, (callFunc 55 #[.int .u64 18442240474082181120]).run Try.prog w = .ok (.value (.float .f64 18442240474082181120)) w := f64from 18442240474082181120
  go_enter Try.func30, Try.ntmps30
  go_wp2_with fail
  go_ret
  exact ⟨rfl, rfl⟩
set_option maxRecDepth 20000 in
theorem Copysign_zero (w : World) : Calls Try.prog 31 #[.float .f64 0, .float .f64 13830554455654793216] w fun e w' => e = .returned (.float .f64 9223372036854775808) ∧ w' = w := by
  have hx : ∀ w, (callFunc 56 #[.float .f64 0]).run Try.prog w = .ok (.value (.int .u64 0)) w := f64bits 0
  have hx2 : ∀ w, (callFunc 56 #[.float .f64 13830554455654793216]).run Try.prog w = .ok (.value (.int .u64 13830554455654793216)) w := f64bits 13830554455654793216
  have h1 : bits .andNot .u64 0 9223372036854775808 = 0 := by decide +kernel
  have h2 : bits .and .u64 13830554455654793216 9223372036854775808 = 9223372036854775808 := by decide +kernel
  have h3 : bits .or .u64 0 9223372036854775808 = 9223372036854775808 := by decide +kernel
  have hy : ∀ w, (callFunc 55 #[.int .u64 9223372036854775808]).run Try.prog w = .ok (.value (.float .f64 9223372036854775808)) w := f64from 9223372036854775808
  go_enter Try.func31, Try.ntmps31
  go_wp2_with fail
  go_ret
  exact ⟨rfl, rfl⟩
theorem ix_n (p q : Nat → Int) (j : Nat) (hj : j < 4) (w : World) : (Instr.index 63 (nv p q) (.int .i64 (j : Int))).run Try.prog w = .ok (.agg #[.int .i64 (p j), .int .i64 (q j)]) w := by
  rcases (show j = 0 ∨ j = 1 ∨ j = 2 ∨ j = 3 by omega) with rfl | rfl | rfl | rfl <;> kernel_rfl
def cutz (x y : Nat → Nat) (k : Nat) (j : Nat) : Nat × Nat := if j < k then (x j, y j) else (0, 0)
abbrev zk (x y : Nat → Nat) (k : Nat) : Array Value := #[.complex .f64 (cutz x y k 0).1 (cutz x y k 0).2, .complex .f64 (cutz x y k 1).1 (cutz x y k 1).2, .complex .f64 (cutz x y k 2).1 (cutz x y k 2).2, .complex .f64 (cutz x y k 3).1 (cutz x y k 3).2]
theorem zk_set (x y : Nat → Nat) (k : Nat) (hk : k < 4) : (zk x y k).setIfInBounds k (.complex .f64 (x k) (y k)) = zk x y (k + 1) := by
  rcases (show k = 0 ∨ k = 1 ∨ k = 2 ∨ k = 3 by omega) with rfl | rfl | rfl | rfl <;> rfl
theorem zk_get (x y : Nat → Nat) (k : Nat) (hk : k < 4) : (zk x y k)[k]? = some (.complex .f64 0 0) := by
  rcases (show k = 0 ∨ k = 1 ∨ k = 2 ∨ k = 3 by omega) with rfl | rfl | rfl | rfl <;> rfl

set_option maxRecDepth 20000 in
set_option maxHeartbeats 1600000 in
theorem made_any (p q : Nat → Int) (x y : Nat → Nat) (w : World) (hx : ∀ j < 4, floatOfInt .f64 (p j) = x j ∧ floatOfInt .f64 (q j) = y j) :
    Calls Try.prog 33 #[nv p q] w fun e w' => e = .returned (zf x y) ∧ Below w.heap.size w w' := by
  obtain ⟨W, hW⟩ : ∃ W, ((w.alloc (.cells #[.int .i64 (p 0), .int .i64 (q 0), .int .i64 (p 1), .int .i64 (q 1), .int .i64 (p 2), .int .i64 (q 2), .int .i64 (p 3), .int .i64 (q 3)] 63)).alloc ZO).alloc ZO = W := ⟨_, rfl⟩
  have HA : Hid (Arr 63 W w.heap.size #[.int .i64 (p 0), .int .i64 (q 0), .int .i64 (p 1), .int .i64 (q 1), .int .i64 (p 2), .int .i64 (q 2), .int .i64 (p 3), .int .i64 (q 3)] ∧ Arr 26 W (w.heap.size + 1) #[.complex .f64 0 0, .complex .f64 0 0, .complex .f64 0 0, .complex .f64 0 0] ∧ Arr 26 W (w.heap.size + 1 + 1) (zk x y 0) ∧ Below w.heap.size w W) := Lib.hid ⟨by rw [← hW]; exact ((Arr.new _ _ _).al _).al _, by rw [← hW]; exact (Arr.new1 _ _ _ _).al _, by rw [← hW]; exact Arr.new2 _ _ _ _ _, by rw [← hW]; exact below_al (below_al (below_al (Below.refl _ _) _) _) _⟩
  have HW := Lib.hid hW
  have HX := Lib.hid hx
  have hst := st_c
  have hi2f := i2f
  clear hW hx
  go_enter Try.func33, Try.ntmps33
  go_upto_region 2 with fail
  rw [HW.out]
  clear HW
  obtain ⟨⟨b0, b1, b2, b3, b4, b5, b6, b7⟩, -⟩ := HA.out.1.eight
  go_wp2_with fail
  clear b0 b1 b2 b3 b4 b5 b6 b7
  go_loopw [7] (fun iv wr => ∃ k : Nat, Hid (k ≤ 4) ∧ iv = .int .i64 (k : Int) ∧ Hid (Arr 26 wr (w.heap.size + 1) #[.complex .f64 0 0, .complex .f64 0 0, .complex .f64 0 0, .complex .f64 0 0] ∧ Arr 26 wr (w.heap.size + 1 + 1) (zk x y k) ∧ Below w.heap.size w wr)) (fun iv _ => 4 - (intOf iv).toNat)
  case atStart => exact ⟨0, Lib.hid (Nat.zero_le _), rfl, Lib.hid HA.out.2⟩
  case round =>
    clear HA
    obtain ⟨k, HK, rfl, HB⟩ := hrel
    by_cases hlt : k < 4
    · have d0 : decide ((k : Int) < 4) = true := decide_eq_true (Int.ofNat_lt.2 hlt)
      have d0' : decide (k < 4) = true := decide_eq_true hlt
      have hk4 : (k : Int) < 4 := Int.ofNat_lt.2 hlt
      have hix := ix_n p q k hlt
      have HLT := Lib.hid hlt
      have HB1 : Hid (Arr 26 (wr.alloc (.cells #[.int .i64 (p k), .int .i64 (q k)] 62)) (w.heap.size + 1) #[.complex .f64 0 0, .complex .f64 0 0, .complex .f64 0 0, .complex .f64 0 0] ∧ Arr 26 (wr.alloc (.cells #[.int .i64 (p k), .int .i64 (q k)] 62)) (w.heap.size + 1 + 1) (zk x y k) ∧ Arr 62 (wr.alloc (.cells #[.int .i64 (p k), .int .i64 (q k)] 62)) wr.heap.size #[.int .i64 (p k), .int .i64 (q k)] ∧ Below w.heap.size w (wr.alloc (.cells #[.int .i64 (p k), .int .i64 (q k)] 62))) := Lib.hid ⟨HB.out.1.al _, HB.out.2.1.al _, Arr.new _ _ _, below_al HB.out.2.2 _⟩
      clear hlt
      go_upto_region 5 with fail
      generalize wr.alloc (.cells #[.int .i64 (p k), .int .i64 (q k)] 62) = V at HB1 ⊢
      generalize wr.heap.size = g1 at HB1 ⊢
      clear HB
      have e1 : V.cell? ⟨g1, 0, none⟩ = some (.int .i64 (p k)) := HB1.out.2.2.1.c 0
      have e2 : V.cell? ⟨g1, 1, none⟩ = some (.int .i64 (q k)) := HB1.out.2.2.1.c 1
      have e3 := (HB1.out.2.1.c k).trans (zk_get x y k HLT.out)
      have f3 := HB1.out.2.1.f k
      obtain ⟨hx1, hx2⟩ := HX.out k HLT.out
      have hset := zk_set x y k HLT.out
      have HB2 : Hid (Arr 26 (V.setCell ⟨w.heap.size + 1 + 1, k, none⟩ (.complex .f64 (x k) (y k))) (w.heap.size + 1) #[.complex .f64 0 0, .complex .f64 0 0, .complex .f64 0 0, .complex .f64 0 0] ∧ Arr 26 (V.setCell ⟨w.heap.size + 1 + 1, k, none⟩ (.complex .f64 (x k) (y k))) (w.heap.size + 1 + 1) (zk x y (k + 1)) ∧ Below w.heap.size w (V.setCell ⟨w.heap.size + 1 + 1, k, none⟩ (.complex .f64 (x k) (y k)))) := Lib.hid ⟨HB1.out.1.other (k := k) _ (by omega), by rw [← hset]; exact HB1.out.2.1.set k _, HB1.out.2.2.2.setCell (show w.heap.size ≤ (⟨w.heap.size + 1 + 1, k, none⟩ : Addr).block by show w.heap.size ≤ w.heap.size + 1 + 1; omega) _⟩
      clear hset
      go_wp2_with fail
      go_roundw
      case rel => exact ⟨k + 1, Lib.hid HLT.out, by go_num, HB2⟩
      case measure => have h1 := HLT.out; simp [intOf]; omega
    · obtain rfl : k = 4 := Nat.le_antisymm HK.out (Nat.not_lt.1 hlt)
      clear hlt HK
      have hall : zk x y 4 = #[.complex .f64 (x 0) (y 0), .complex .f64 (x 1) (y 1), .complex .f64 (x 2) (y 2), .complex .f64 (x 3) (y 3)] := rfl
      rw [hall] at HB
      clear hall
      obtain ⟨⟨a0, a1, a2, a3⟩, -⟩ := HB.out.2.1.four
      obtain ⟨⟨s0, s1, s2, s3⟩, q0, q1, q2, q3⟩ := HB.out.1.four
      go_wp2_with fail
      have P9 := HB.out.1.put4 (.complex .f64 (x 0) (y 0)) (.complex .f64 (x 1) (y 1)) (.complex .f64 (x 2) (y 2)) (.complex .f64 (x 3) (y 3))
      obtain ⟨⟨z0, z1, z2, z3⟩, -⟩ := P9.four
      exact bodyPost_ret (v := zf x y) (by simp [results, Try.results33, go_sem, z0, z1, z2, z3]) rfl ⟨rfl, below_set4 HB.out.2.2 (Nat.le_succ _) _ _ _ _⟩
end Go.Proofs.Ythidfmkmklnhhaa
