/- Walks: each, sums. Printed by gen_yd.py. -/
import Derived.Test.YthidfmkmklnhhaaProg
import Derived.Test.YthidfmkmklnhhaaYc
import Derived.Test.YthidfmkmklnhhaaQ4
namespace Go.Proofs.Ythidfmkmklnhhaa
open Go.RowKit
set_option linter.unusedVariables false

/-- What a call of the function for the number j returns. -/
def Does (f : Nat) (cap : Array Value) (n₀ : Nat) (w : World) (Ok : Nat → Nat → Nat → Prop) : Prop :=
  ∀ (j : Nat) (i : Int) (W : World), j < 4 → i = (j : Int) → Below n₀ w W → Calls Try.prog f (#[.int .i64 i] ++ cap) W fun e w' => ∃ x y, e = .returned (.complex .f64 x y) ∧ Ok j x y ∧ Below W.heap.size W w'
theorem st_c (w : World) (a : Addr) (x y : Nat) : (store a (.complex .f64 x y)).run Try.prog w = stored Try.prog w a (.complex .f64 x y) .plain := run_store Try.prog w a _ .plain rfl
/-- An array in a box. -/
def Arr (t : TypeId) (W : World) (b : Nat) (cs : Array Value) : Prop := W.heap[b]? = some (.cells cs t (0, 0))
theorem Arr.lt {t : TypeId} {W : World} {b : Nat} {cs : Array Value} (h : Arr t W b cs) : b < W.heap.size := (Array.getElem?_eq_some_iff.1 h).1
theorem Arr.c {t : TypeId} {W : World} {b : Nat} {cs : Array Value} (h : Arr t W b cs) (k : Nat) : W.cell? ⟨b, k, none⟩ = cs[k]? := by unfold Arr at h; simp [World.cell?, h]
theorem Arr.f {t : TypeId} {W : World} {b : Nat} {cs : Array Value} (h : Arr t W b cs) (k : Nat) : W.frozen? ⟨b, k, none⟩ = false := by unfold Arr at h; simp [World.frozen?, h]
theorem Arr.keep {t : TypeId} {W W' : World} {b n : Nat} {cs : Array Value} (h : Arr t W b cs) (k : Below n W W') (hb : b < n) : Arr t W' b cs := (k.block b hb).trans h
theorem Arr.step {t : TypeId} {W W' : World} {b : Nat} {cs : Array Value} (h : Arr t W b cs) (k : Below W.heap.size W W') : Arr t W' b cs := h.keep k h.lt
theorem Arr.al {t : TypeId} {W : World} {b : Nat} {cs : Array Value} (h : Arr t W b cs) (o : Obj) : Arr t (W.alloc o) b cs := h.step ((Below.refl _ _).alloc (Nat.le_refl _) o)
theorem Arr.new (t : TypeId) (W : World) (cs : Array Value) : Arr t (W.alloc (.cells cs t)) W.heap.size cs := heap_alloc_new _ _
theorem Arr.new1 (t : TypeId) (W : World) (o : Obj) (cs : Array Value) : Arr t ((W.alloc o).alloc (.cells cs t)) (W.heap.size + 1) cs := by
  have h := Arr.new t (W.alloc o) cs
  rwa [show (W.alloc o).heap.size = W.heap.size + 1 by simp] at h
theorem Arr.other {t : TypeId} {W : World} {b b' k : Nat} {cs : Array Value} (h : Arr t W b cs) (u : Value) (hb : b ≠ b') : Arr t (W.setCell ⟨b', k, none⟩ u) b cs := (Below.heap_setCell W ⟨b', k, none⟩ u b hb).trans h
theorem Arr.set {t : TypeId} {W : World} {b : Nat} {cs : Array Value} (h : Arr t W b cs) (k : Nat) (u : Value) : Arr t (W.setCell ⟨b, k, none⟩ u) b (cs.setIfInBounds k u) := heap_setCell_same W b k _ _ u h
theorem Arr.put4 {t : TypeId} {W : World} {b : Nat} {a0 a1 a2 a3 : Value} (h : Arr t W b #[a0, a1, a2, a3]) (b0 b1 b2 b3 : Value) : Arr t ((((W.setCell ⟨b, 0, none⟩ b0).setCell ⟨b, 1, none⟩ b1).setCell ⟨b, 2, none⟩ b2).setCell ⟨b, 3, none⟩ b3) b #[b0, b1, b2, b3] := (((h.set 0 b0).set 1 b1).set 2 b2).set 3 b3
theorem below_set4 {W W' : World} {n b : Nat} (h : Below n W W') (hb : n ≤ b) (b0 b1 b2 b3 : Value) : Below n W ((((W'.setCell ⟨b, 0, none⟩ b0).setCell ⟨b, 1, none⟩ b1).setCell ⟨b, 2, none⟩ b2).setCell ⟨b, 3, none⟩ b3) := (((h.setCell hb _).setCell hb _).setCell hb _).setCell hb _


set_option maxRecDepth 20000 in
set_option maxHeartbeats 800000 in
theorem eachSums_any (a : Addr) (w : World) (Ok : Nat → Nat → Nat → Prop) (hf : Does 59 #[.pointer (some a)] w.heap.size w Ok) :
    Calls Try.prog 37 #[.func (.func 59) #[] #[.pointer (some a)]] w fun e w' => ∃ x0 y0 x1 y1 x2 y2 x3 y3, e = .returned (.agg #[.complex .f64 x0 y0, .complex .f64 x1 y1, .complex .f64 x2 y2, .complex .f64 x3 y3]) ∧ (Ok 0 x0 y0 ∧ Ok 1 x1 y1 ∧ Ok 2 x2 y2 ∧ Ok 3 x3 y3) ∧ Below w.heap.size w w' := by
  have HF := Lib.hid hf
  have hst := st_c
  clear hf
  have A0 := Lib.hid (And.intro (Arr.new1 26 w (.cells #[.complex .f64 0 0, .complex .f64 0 0, .complex .f64 0 0, .complex .f64 0 0] 26) #[.complex .f64 0 0, .complex .f64 0 0, .complex .f64 0 0, .complex .f64 0 0]) (And.intro ((Arr.new 26 w #[.complex .f64 0 0, .complex .f64 0 0, .complex .f64 0 0, .complex .f64 0 0]).al (.cells #[.complex .f64 0 0, .complex .f64 0 0, .complex .f64 0 0, .complex .f64 0 0] 26)) (((Below.refl w.heap.size w).alloc (Nat.le_refl _) (.cells #[.complex .f64 0 0, .complex .f64 0 0, .complex .f64 0 0, .complex .f64 0 0] 26)).alloc (by simp) (.cells #[.complex .f64 0 0, .complex .f64 0 0, .complex .f64 0 0, .complex .f64 0 0] 26))))
  go_enter Try.func37, Try.ntmps37
  go_wp2_with fail
  refine wp_loop_rounds 5 ?_
  rw [rounds_succ]
  go_wp2_with (go_at_call 59; refine (HF.out 0 _ _ (by decide) rfl A0.out.2.2).mono ?_; rintro e w1 ⟨x0, y0, rfl, o0, k0⟩; have O0 := Lib.hid o0; have B0 := Lib.hid (And.intro (A0.out.1.step k0) (And.intro (A0.out.2.1.step k0) (below_step A0.out.2.2 k0))); have c0 : w1.cell? ⟨w.heap.size + 1, 0, none⟩ = some (.complex .f64 0 0) := B0.out.1.c 0; have f0 := B0.out.1.f 0; clear o0 k0)
  have A1 : Hid (Arr 26 (w1.setCell ⟨w.heap.size + 1, 0, none⟩ (.complex .f64 x0 y0)) (w.heap.size + 1) #[.complex .f64 x0 y0, .complex .f64 0 0, .complex .f64 0 0, .complex .f64 0 0] ∧ Arr 26 (w1.setCell ⟨w.heap.size + 1, 0, none⟩ (.complex .f64 x0 y0)) w.heap.size #[.complex .f64 0 0, .complex .f64 0 0, .complex .f64 0 0, .complex .f64 0 0] ∧ Below w.heap.size w (w1.setCell ⟨w.heap.size + 1, 0, none⟩ (.complex .f64 x0 y0))) := Lib.hid ⟨B0.out.1.set 0 (.complex .f64 x0 y0), B0.out.2.1.other (b' := w.heap.size + 1) (k := 0) (.complex .f64 x0 y0) (by omega), B0.out.2.2.setCell (show w.heap.size ≤ (⟨w.heap.size + 1, 0, none⟩ : Addr).block from Nat.le_succ _) (.complex .f64 x0 y0)⟩
  clear A0 B0 c0 f0
  rw [rounds_succ]
  go_wp2_with (go_at_call 59; refine (HF.out 1 _ _ (by decide) rfl A1.out.2.2).mono ?_; rintro e w2 ⟨x1, y1, rfl, o1, k1⟩; have O1 := Lib.hid o1; have B1 := Lib.hid (And.intro (A1.out.1.step k1) (And.intro (A1.out.2.1.step k1) (below_step A1.out.2.2 k1))); have c1 : w2.cell? ⟨w.heap.size + 1, 1, none⟩ = some (.complex .f64 0 0) := B1.out.1.c 1; have f1 := B1.out.1.f 1; clear o1 k1)
  have A2 : Hid (Arr 26 (w2.setCell ⟨w.heap.size + 1, 1, none⟩ (.complex .f64 x1 y1)) (w.heap.size + 1) #[.complex .f64 x0 y0, .complex .f64 x1 y1, .complex .f64 0 0, .complex .f64 0 0] ∧ Arr 26 (w2.setCell ⟨w.heap.size + 1, 1, none⟩ (.complex .f64 x1 y1)) w.heap.size #[.complex .f64 0 0, .complex .f64 0 0, .complex .f64 0 0, .complex .f64 0 0] ∧ Below w.heap.size w (w2.setCell ⟨w.heap.size + 1, 1, none⟩ (.complex .f64 x1 y1))) := Lib.hid ⟨B1.out.1.set 1 (.complex .f64 x1 y1), B1.out.2.1.other (b' := w.heap.size + 1) (k := 1) (.complex .f64 x1 y1) (by omega), B1.out.2.2.setCell (show w.heap.size ≤ (⟨w.heap.size + 1, 1, none⟩ : Addr).block from Nat.le_succ _) (.complex .f64 x1 y1)⟩
  clear A1 B1 c1 f1
  rw [rounds_succ]
  go_wp2_with (go_at_call 59; refine (HF.out 2 _ _ (by decide) rfl A2.out.2.2).mono ?_; rintro e w3 ⟨x2, y2, rfl, o2, k2⟩; have O2 := Lib.hid o2; have B2 := Lib.hid (And.intro (A2.out.1.step k2) (And.intro (A2.out.2.1.step k2) (below_step A2.out.2.2 k2))); have c2 : w3.cell? ⟨w.heap.size + 1, 2, none⟩ = some (.complex .f64 0 0) := B2.out.1.c 2; have f2 := B2.out.1.f 2; clear o2 k2)
  have A3 : Hid (Arr 26 (w3.setCell ⟨w.heap.size + 1, 2, none⟩ (.complex .f64 x2 y2)) (w.heap.size + 1) #[.complex .f64 x0 y0, .complex .f64 x1 y1, .complex .f64 x2 y2, .complex .f64 0 0] ∧ Arr 26 (w3.setCell ⟨w.heap.size + 1, 2, none⟩ (.complex .f64 x2 y2)) w.heap.size #[.complex .f64 0 0, .complex .f64 0 0, .complex .f64 0 0, .complex .f64 0 0] ∧ Below w.heap.size w (w3.setCell ⟨w.heap.size + 1, 2, none⟩ (.complex .f64 x2 y2))) := Lib.hid ⟨B2.out.1.set 2 (.complex .f64 x2 y2), B2.out.2.1.other (b' := w.heap.size + 1) (k := 2) (.complex .f64 x2 y2) (by omega), B2.out.2.2.setCell (show w.heap.size ≤ (⟨w.heap.size + 1, 2, none⟩ : Addr).block from Nat.le_succ _) (.complex .f64 x2 y2)⟩
  clear A2 B2 c2 f2
  rw [rounds_succ]
  go_wp2_with (go_at_call 59; refine (HF.out 3 _ _ (by decide) rfl A3.out.2.2).mono ?_; rintro e w4 ⟨x3, y3, rfl, o3, k3⟩; have O3 := Lib.hid o3; have B3 := Lib.hid (And.intro (A3.out.1.step k3) (And.intro (A3.out.2.1.step k3) (below_step A3.out.2.2 k3))); have c3 : w4.cell? ⟨w.heap.size + 1, 3, none⟩ = some (.complex .f64 0 0) := B3.out.1.c 3; have f3 := B3.out.1.f 3; clear o3 k3)
  have A4 : Hid (Arr 26 (w4.setCell ⟨w.heap.size + 1, 3, none⟩ (.complex .f64 x3 y3)) (w.heap.size + 1) #[.complex .f64 x0 y0, .complex .f64 x1 y1, .complex .f64 x2 y2, .complex .f64 x3 y3] ∧ Arr 26 (w4.setCell ⟨w.heap.size + 1, 3, none⟩ (.complex .f64 x3 y3)) w.heap.size #[.complex .f64 0 0, .complex .f64 0 0, .complex .f64 0 0, .complex .f64 0 0] ∧ Below w.heap.size w (w4.setCell ⟨w.heap.size + 1, 3, none⟩ (.complex .f64 x3 y3))) := Lib.hid ⟨B3.out.1.set 3 (.complex .f64 x3 y3), B3.out.2.1.other (b' := w.heap.size + 1) (k := 3) (.complex .f64 x3 y3) (by omega), B3.out.2.2.setCell (show w.heap.size ≤ (⟨w.heap.size + 1, 3, none⟩ : Addr).block from Nat.le_succ _) (.complex .f64 x3 y3)⟩
  clear A3 B3 c3 f3
  have r0 : _ = some (Value.complex .f64 x0 y0) := A4.out.1.c 0
  have r1 : _ = some (Value.complex .f64 x1 y1) := A4.out.1.c 1
  have r2 : _ = some (Value.complex .f64 x2 y2) := A4.out.1.c 2
  have r3 : _ = some (Value.complex .f64 x3 y3) := A4.out.1.c 3
  have s0 : _ = some (Value.complex .f64 0 0) := A4.out.2.1.c 0
  have s1 : _ = some (Value.complex .f64 0 0) := A4.out.2.1.c 1
  have s2 : _ = some (Value.complex .f64 0 0) := A4.out.2.1.c 2
  have s3 : _ = some (Value.complex .f64 0 0) := A4.out.2.1.c 3
  have q0 := A4.out.2.1.f 0
  have q1 := A4.out.2.1.f 1
  have q2 := A4.out.2.1.f 2
  have q3 := A4.out.2.1.f 3
  rw [rounds_succ]
  go_wp2_with fail
  have P9 := A4.out.2.1.put4 (.complex .f64 x0 y0) (.complex .f64 x1 y1) (.complex .f64 x2 y2) (.complex .f64 x3 y3)
  have z0 : _ = some (Value.complex .f64 x0 y0) := P9.c 0
  have z1 : _ = some (Value.complex .f64 x1 y1) := P9.c 1
  have z2 : _ = some (Value.complex .f64 x2 y2) := P9.c 2
  have z3 : _ = some (Value.complex .f64 x3 y3) := P9.c 3
  exact bodyPost_ret (v := .agg #[.complex .f64 x0 y0, .complex .f64 x1 y1, .complex .f64 x2 y2, .complex .f64 x3 y3]) (by simp [results, Try.results37, go_sem, z0, z1, z2, z3]) rfl ⟨_, _, _, _, _, _, _, _, rfl, ⟨O0.out, O1.out, O2.out, O3.out⟩, below_set4 A4.out.2.2 (Nat.le_refl _) _ _ _ _⟩
end Go.Proofs.Ythidfmkmklnhhaa
