/- Walks: the law's parts; what both tell of four numbers. -/
import Derived.Test.YthidfmkmklnhhaaProg
import Derived.Test.YthidfmkmklnhhaaUk
import Derived.Deep.DeepCutAuto
import Derived.BigRegion
namespace Go.Proofs.Ythidfmkmklnhhaa
open Go.RowKit
set_option linter.unusedVariables false

theorem st_f (w : World) (a : Addr) (x : Nat) : (store a (.float .f64 x)).run Try.prog w = stored Try.prog w a (.float .f64 x) .plain := run_store Try.prog w a _ .plain rfl
/-- The first k of four floats. -/
def cutf (x : Nat → Nat) (k : Nat) : Nat → Nat := fun j => if j < k then x j else 0
theorem cutf_set (x : Nat → Nat) (k : Nat) (hk : k < 4) : (fc4 (cutf x k)).setIfInBounds k (.float .f64 (x k)) = fc4 (cutf x (k + 1)) := by
  rcases (show k = 0 ∨ k = 1 ∨ k = 2 ∨ k = 3 by omega) with rfl | rfl | rfl | rfl <;> rfl
theorem cutf_all (x : Nat → Nat) : fc4 (cutf x 4) = fc4 x := rfl
abbrev f0 : Nat → Nat := fun _ => 0
theorem Arr.fset {t : TypeId} {W : World} {b : Nat} {a0 a1 a2 a3 : Value} (h : Arr t W b #[a0, a1, a2, a3]) (x : Nat → Nat) : Arr t ((((W.setCell ⟨b, 0, none⟩ (.float .f64 (x 0))).setCell ⟨b, 1, none⟩ (.float .f64 (x 1))).setCell ⟨b, 2, none⟩ (.float .f64 (x 2))).setCell ⟨b, 3, none⟩ (.float .f64 (x 3))) b (fc4 x) := h.put4 _ _ _ _

set_option maxRecDepth 20000 in
set_option maxHeartbeats 1600000 in
theorem parts_any (x y : Nat → Nat) (w : World) :
    Calls Try.prog 50 #[zf x y] w fun e w' => e = .returned (.tuple #[fl4 x, fl4 y]) ∧ Below w.heap.size w w' := by
  obtain ⟨W, hW⟩ : ∃ W, ((((w.alloc (.cells #[.complex .f64 (x 0) (y 0), .complex .f64 (x 1) (y 1), .complex .f64 (x 2) (y 2), .complex .f64 (x 3) (y 3)] 26)).alloc (.cells (fc4 f0) 79)).alloc (.cells (fc4 f0) 79)).alloc (.cells (fc4 f0) 79)).alloc (.cells (fc4 f0) 79) = W := ⟨_, rfl⟩
  obtain ⟨W0, hW0⟩ : ∃ W0, w.alloc (.cells #[.complex .f64 (x 0) (y 0), .complex .f64 (x 1) (y 1), .complex .f64 (x 2) (y 2), .complex .f64 (x 3) (y 3)] 26) = W0 := ⟨_, rfl⟩
  have hs0 : W0.heap.size = w.heap.size + 1 := by rw [← hW0]; simp
  have HA : Hid (Arr 26 W w.heap.size #[.complex .f64 (x 0) (y 0), .complex .f64 (x 1) (y 1), .complex .f64 (x 2) (y 2), .complex .f64 (x 3) (y 3)] ∧ Arr 79 W (w.heap.size + 1) (fc4 f0) ∧ Arr 79 W (w.heap.size + 1 + 1) (fc4 f0) ∧ Arr 79 W (w.heap.size + 1 + 1 + 1) (fc4 (cutf x 0)) ∧ Arr 79 W (w.heap.size + 1 + 1 + 1 + 1) (fc4 (cutf y 0)) ∧ Below w.heap.size w W) := Lib.hid (by
    rw [hW0] at hW
    rw [← hs0]
    refine ⟨?_, ?_, ?_, ?_, ?_, ?_⟩
    · rw [← hW, ← hW0]; exact ((((Arr.new _ _ _).al _).al _).al _).al _
    · rw [← hW]; exact (((Arr.new _ _ _).al _).al _).al _
    · rw [← hW]; exact ((Arr.new1 _ _ _ _).al _).al _
    · rw [← hW]; exact (Arr.new2 _ _ _ _ _).al _
    · rw [← hW]; exact Arr.new3 _ _ _ _ _ _
    · rw [← hW, ← hW0]; exact below_al (below_al (below_al (below_al (below_al (Below.refl _ _) _) _) _) _) _)
  have HW := Lib.hid hW
  clear hW hW0 hs0
  have hsf := st_f
  go_enter Try.func50, Try.ntmps50
  go_upto_region 2 with fail
  rw [HW.out]
  clear HW
  obtain ⟨⟨b0, b1, b2, b3⟩, -⟩ := HA.out.1.four
  go_wp2_with fail
  clear b0 b1 b2 b3
  go_loopw [9] (fun iv wr => ∃ k : Nat, Hid (k ≤ 4) ∧ iv = .int .i64 (k : Int) ∧ Hid (Arr 79 wr (w.heap.size + 1) (fc4 f0) ∧ Arr 79 wr (w.heap.size + 1 + 1) (fc4 f0) ∧ Arr 79 wr (w.heap.size + 1 + 1 + 1) (fc4 (cutf x k)) ∧ Arr 79 wr (w.heap.size + 1 + 1 + 1 + 1) (fc4 (cutf y k)) ∧ Below w.heap.size w wr)) (fun iv _ => 4 - (intOf iv).toNat)
  case atStart => exact ⟨0, Lib.hid (Nat.zero_le _), rfl, Lib.hid HA.out.2⟩
  case round =>
    clear HA
    obtain ⟨k, HK, rfl, HB⟩ := hrel
    by_cases hlt : k < 4
    · have d0 : decide ((k : Int) < 4) = true := decide_eq_true (Int.ofNat_lt.2 hlt)
      have d0' : decide (k < 4) = true := decide_eq_true hlt
      have hk4 : (k : Int) < 4 := Int.ofNat_lt.2 hlt
      have hix := ix_z x y k hlt
      have e1 := (HB.out.2.2.1.c k).trans (fc4_get (cutf x k) k hlt)
      have e2 := (HB.out.2.2.2.1.c k).trans (fc4_get (cutf y k) k hlt)
      have f1 := HB.out.2.2.1.f k
      have f2 := HB.out.2.2.2.1.f k
      have s1 := cutf_set x k hlt
      have s2 := cutf_set y k hlt
      have HLT := Lib.hid hlt
      have HB2 : Hid (Arr 79 ((wr.setCell ⟨w.heap.size + 1 + 1 + 1, k, none⟩ (.float .f64 (x k))).setCell ⟨w.heap.size + 1 + 1 + 1 + 1, k, none⟩ (.float .f64 (y k))) (w.heap.size + 1) (fc4 f0) ∧ Arr 79 ((wr.setCell ⟨w.heap.size + 1 + 1 + 1, k, none⟩ (.float .f64 (x k))).setCell ⟨w.heap.size + 1 + 1 + 1 + 1, k, none⟩ (.float .f64 (y k))) (w.heap.size + 1 + 1) (fc4 f0) ∧ Arr 79 ((wr.setCell ⟨w.heap.size + 1 + 1 + 1, k, none⟩ (.float .f64 (x k))).setCell ⟨w.heap.size + 1 + 1 + 1 + 1, k, none⟩ (.float .f64 (y k))) (w.heap.size + 1 + 1 + 1) (fc4 (cutf x (k + 1))) ∧ Arr 79 ((wr.setCell ⟨w.heap.size + 1 + 1 + 1, k, none⟩ (.float .f64 (x k))).setCell ⟨w.heap.size + 1 + 1 + 1 + 1, k, none⟩ (.float .f64 (y k))) (w.heap.size + 1 + 1 + 1 + 1) (fc4 (cutf y (k + 1))) ∧ Below w.heap.size w ((wr.setCell ⟨w.heap.size + 1 + 1 + 1, k, none⟩ (.float .f64 (x k))).setCell ⟨w.heap.size + 1 + 1 + 1 + 1, k, none⟩ (.float .f64 (y k)))) := Lib.hid ⟨(HB.out.1.other (k := k) _ (by omega)).other (k := k) _ (by omega), (HB.out.2.1.other (k := k) _ (by omega)).other (k := k) _ (by omega), by rw [← s1]; exact (HB.out.2.2.1.set k (.float .f64 (x k))).other (k := k) _ (by omega), by rw [← s2]; exact (HB.out.2.2.2.1.other (k := k) _ (by omega)).set k (.float .f64 (y k)), (HB.out.2.2.2.2.setCell (show w.heap.size ≤ (⟨w.heap.size + 1 + 1 + 1, k, none⟩ : Addr).block by show w.heap.size ≤ w.heap.size + 1 + 1 + 1; omega) _).setCell (show w.heap.size ≤ (⟨w.heap.size + 1 + 1 + 1 + 1, k, none⟩ : Addr).block by show w.heap.size ≤ w.heap.size + 1 + 1 + 1 + 1; omega) _⟩
      clear hlt s1 s2
      go_wp2_with fail
      go_roundw
      case rel => exact ⟨k + 1, Lib.hid HLT.out, by go_num, HB2⟩
      case measure => have := HLT.out; simp [intOf]; omega
    · obtain rfl : k = 4 := Nat.le_antisymm HK.out (Nat.not_lt.1 hlt)
      clear hlt HK
      have hx := cutf_all x
      have hy := cutf_all y
      rw [hx, hy] at HB
      clear hx hy
      obtain ⟨⟨a0, a1, a2, a3⟩, -⟩ := HB.out.2.2.1.four
      obtain ⟨⟨b0, b1, b2, b3⟩, -⟩ := HB.out.2.2.2.1.four
      obtain ⟨⟨c0, c1, c2, c3⟩, q0, q1, q2, q3⟩ := HB.out.1.four
      obtain ⟨⟨d0, d1, d2, d3⟩, r0, r1, r2, r3⟩ := HB.out.2.1.four
      go_wp2_with fail
      go_region
      have P1 := HB.out.1.fset x
      have P2 := HB.out.2.1.other4 (b' := w.heap.size + 1) (by omega) (.float .f64 (x 0)) (.float .f64 (x 1)) (.float .f64 (x 2)) (.float .f64 (x 3))
      have P3 := P1.other4 (b' := w.heap.size + 1 + 1) (by omega) (.float .f64 (y 0)) (.float .f64 (y 1)) (.float .f64 (y 2)) (.float .f64 (y 3))
      have P4 := P2.fset y
      have hbel := below_set4 (below_set4 HB.out.2.2.2.2 (b := w.heap.size + 1) (by omega) (.float .f64 (x 0)) (.float .f64 (x 1)) (.float .f64 (x 2)) (.float .f64 (x 3))) (b := w.heap.size + 1 + 1) (by omega) (.float .f64 (y 0)) (.float .f64 (y 1)) (.float .f64 (y 2)) (.float .f64 (y 3))
      have HX : Hid (Arr 79 _ (w.heap.size + 1) (fc4 x) ∧ Arr 79 _ (w.heap.size + 1 + 1) (fc4 y) ∧ Below w.heap.size w _) := Lib.hid ⟨P3.step (Below.refl _ _).drew, P4.step (Below.refl _ _).drew, hbel.drew⟩
      clear P1 P2 P3 P4 hbel HB a0 a1 a2 a3 b0 b1 b2 b3 c0 c1 c2 c3 d0 d1 d2 d3 q0 q1 q2 q3 r0 r1 r2 r3
      generalize (((((((((wr.setCell ⟨w.heap.size + 1, 0, none⟩ (.float .f64 (x 0))).setCell ⟨w.heap.size + 1, 1, none⟩ (.float .f64 (x 1))).setCell ⟨w.heap.size + 1, 2, none⟩ (.float .f64 (x 2))).setCell ⟨w.heap.size + 1, 3, none⟩ (.float .f64 (x 3)))).setCell ⟨w.heap.size + 1 + 1, 0, none⟩ (.float .f64 (y 0))).setCell ⟨w.heap.size + 1 + 1, 1, none⟩ (.float .f64 (y 1))).setCell ⟨w.heap.size + 1 + 1, 2, none⟩ (.float .f64 (y 2))).setCell ⟨w.heap.size + 1 + 1, 3, none⟩ (.float .f64 (y 3))).drew = V at HX ⊢
      obtain ⟨⟨z0, z1, z2, z3⟩, -⟩ := HX.out.1.four
      obtain ⟨⟨y0, y1, y2, y3⟩, -⟩ := HX.out.2.1.four
      go_wp2_with fail
      exact bodyPost_ret (v := .tuple #[fl4 x, fl4 y]) (by simp [results, Try.results50, go_sem, z0, z1, z2, z3, y0, y1, y2, y3]) rfl ⟨rfl, HX.out.2.2⟩
/-- A part that both can tell of. -/
def Pt (x : Nat) : Prop := (∃ a, FI x a ∧ a.natAbs ≤ 9007199254740992) ∨ PBad x
theorem Pt.tell {x : Nat} (h : Pt x) : ∃ vs : Int × Bool, (Wh x vs.2 ∧ Pa x vs.1 vs.2) ∧ (vs.2 = true → FI x vs.1 ∧ vs.1.natAbs ≤ 1125899906842624) := by
  rcases h with ⟨a, h, ha⟩ | h
  · by_cases hs : a.natAbs ≤ 1125899906842624
    · have h1 := Wh.fi h ha
      have h2 := Pa.fi h ha
      rw [decide_eq_true hs] at h1 h2
      rw [if_pos hs] at h2
      exact ⟨(a, true), ⟨h1, h2⟩, fun _ => ⟨h, hs⟩⟩
    · have h1 := Wh.fi h ha
      have h2 := Pa.fi h ha
      rw [decide_eq_false hs] at h1 h2
      rw [if_neg hs] at h2
      exact ⟨(0, false), ⟨h1, h2⟩, fun e => by cases e⟩
  · exact ⟨(0, false), h, fun e => by cases e⟩
/-- What both tell of four numbers. -/
structure Kn (x y : Nat → Nat) (c : Nat → Int) (err : Int) : Prop where
  cl : Cl x y c err
  rc : RCl x y c err
  ok : (err = 0 ∧ CIF x y c ∧ szc c ≤ 1125899906842624) ∨ (err = 400 ∧ c = fun _ => 0)
theorem Kn.ex {x y : Nat → Nat} (h : ∀ j < 4, Pt (x j) ∧ Pt (y j)) : ∃ c err, Kn x y c err := by
  have hx : ∀ j, ∃ vs : Int × Bool, j < 4 → (Wh (x j) vs.2 ∧ Pa (x j) vs.1 vs.2) ∧ (vs.2 = true → FI (x j) vs.1 ∧ vs.1.natAbs ≤ 1125899906842624) := fun j => by
    by_cases hj : j < 4
    · obtain ⟨vs, h1⟩ := (h j hj).1.tell; exact ⟨vs, fun _ => h1⟩
    · exact ⟨(0, false), fun h' => absurd h' hj⟩
  have hy : ∀ j, ∃ vs : Int × Bool, j < 4 → (Wh (y j) vs.2 ∧ Pa (y j) vs.1 vs.2) ∧ (vs.2 = true → FI (y j) vs.1 ∧ vs.1.natAbs ≤ 1125899906842624) := fun j => by
    by_cases hj : j < 4
    · obtain ⟨vs, h1⟩ := (h j hj).2.tell; exact ⟨vs, fun _ => h1⟩
    · exact ⟨(0, false), fun h' => absurd h' hj⟩
  obtain ⟨fx, hx⟩ := Classical.axiomOfChoice hx
  obtain ⟨fy, hy⟩ := Classical.axiomOfChoice hy
  by_cases hb : ∃ j, j < 4 ∧ ((fx j).2 = false ∨ (fy j).2 = false)
  · exact ⟨fun _ => 0, 400, Classes_bad x y (fun j => (fx j).2) (fun j => (fy j).2) (fun j hj => ⟨(hx j hj).1.1, (hy j hj).1.1⟩) hb, refClasses_bad x y (fun j => (fx j).1) (fun j => (fy j).1) (fun j => (fx j).2) (fun j => (fy j).2) (fun j hj => ⟨(hx j hj).1.2, (hy j hj).1.2⟩) hb, .inr ⟨rfl, rfl⟩⟩
  · have ht : ∀ j < 4, (fx j).2 = true ∧ (fy j).2 = true := fun j hj => by
      constructor
      · cases e : (fx j).2 with
        | true => rfl
        | false => exact absurd ⟨j, hj, .inl e⟩ hb
      · cases e : (fy j).2 with
        | true => rfl
        | false => exact absurd ⟨j, hj, .inr e⟩ hb
    have hf : ∀ j < 4, FI (x j) (fx j).1 ∧ FI (y j) (fy j).1 := fun j hj => ⟨((hx j hj).2 (ht j hj).1).1, ((hy j hj).2 (ht j hj).2).1⟩
    have hz : ∀ j < 4, ((fx j).1).natAbs ≤ 1125899906842624 ∧ ((fy j).1).natAbs ≤ 1125899906842624 := fun j hj => ⟨((hx j hj).2 (ht j hj).1).2, ((hy j hj).2 (ht j hj).2).2⟩
    have hz2 : ∀ j < 4, ((fx j).1).natAbs ≤ 9007199254740992 ∧ ((fy j).1).natAbs ≤ 9007199254740992 := fun j hj => ⟨Nat.le_trans (hz j hj).1 (by decide), Nat.le_trans (hz j hj).2 (by decide)⟩
    have hpa : ∀ j < 4, Pa (x j) (fx j).1 true ∧ Pa (y j) (fy j).1 true := fun j hj => by
      have h1 := (hx j hj).1.2
      have h2 := (hy j hj).1.2
      rw [(ht j hj).1] at h1
      rw [(ht j hj).2] at h2
      exact ⟨h1, h2⟩
    by_cases hr : Right4 (fun j => (fx j).1) (fun j => (fy j).1)
    · obtain ⟨k1, k2⟩ := tC_right hr
      refine ⟨tC (fun j => (fx j).1) (fun j => (fy j).1), 0, fun w => ?_, fun w => ?_, .inl ⟨rfl, fun j hj => by rw [(k2 j hj).1, (k2 j hj).2]; exact hf j hj, ?_⟩⟩
      · refine (Classes_any x y _ _ w hf hz2).mono fun e w' h => ?_
        obtain ⟨c', err, rfl, hcl, hb⟩ := h
        rcases hcl with ⟨_, rfl, h2⟩ | ⟨h, _⟩
        · exact ⟨by rw [iv4_ext fun r hr => (h2 r hr).trans (k1 r hr).symm], hb⟩
        · exact absurd hr h
      · refine (refClasses_all x y _ _ hpa hz w).mono fun e w' h => ?_
        obtain ⟨c', err, rfl, hcl, hb⟩ := h
        rcases hcl with ⟨_, rfl, h2⟩ | ⟨h, _⟩
        · exact ⟨by rw [iv4_ext fun r hr => (h2 r hr).trans (k1 r hr).symm], hb⟩
        · exact absurd hr h
      · have h3 := hr.2.2
        rw [sz4, ← k1 0 (by decide), ← k1 1 (by decide), ← k1 2 (by decide), ← k1 3 (by decide)] at h3
        exact h3
    · refine ⟨fun _ => 0, 400, Cl.no hf hz2 hr, fun w => ?_, .inr ⟨rfl, rfl⟩⟩
      refine (refClasses_all x y _ _ hpa hz w).mono fun e w' h => ?_
      obtain ⟨c', err, rfl, hcl, hb⟩ := h
      rcases hcl with ⟨h, _⟩ | ⟨_, rfl, h0⟩
      · exact absurd h hr
      · exact ⟨by rw [iv4_ext (d := fun _ => 0) h0], hb⟩
end Go.Proofs.Ythidfmkmklnhhaa
