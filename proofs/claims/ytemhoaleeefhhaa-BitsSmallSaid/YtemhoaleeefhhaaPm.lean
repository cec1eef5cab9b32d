/- Walks: changes. Printed by gen_pm.py. -/
import Derived.Test.YtemhoaleeefhhaaProg
import Derived.Test.YtemhoaleeefhhaaPk
import Derived.Test.YtemhoaleeefhhaaLi64
import Derived.Test.YtemhoaleeefhhaaNa
import Derived.Test.YtemhoaleeefhhaaBs
import Derived.BigRegion
import Derived.Deep.DeepCutAuto
import Derived.Deep.RegionHeld3
namespace Go.Proofs.Ytemhoaleeefhhaa
open Go.RowKit
set_option linter.unusedVariables false

/-- A JX, with numbers i64 that are seen, and a set of the reference in a box. -/
structure JY (w W : World) (S : List Sx) (R E I : List Rx) (bq : Nat) (N : Int) (A : Option Addr) (n c : Nat) : Prop where
  j : JX w W S R E
  i : ∀ e ∈ I, Sees W 1 e.A e.n e.c (e.zs.map (Value.int .i64))
  q : SetQ W bq N A n c
section
variable {w W W' : World} {S : List Sx} {R E I : List Rx} {bq : Nat} {N : Int} {A : Option Addr} {n c : Nat}
theorem JY.step (h : JY w W S R E I bq N A n c) (k : Below W.heap.size W W') : JY w W' S R E I bq N A n c := ⟨h.j.step k, fun e he => (h.i e he).below k (Nat.le_refl _), h.q.below k (Nat.le_refl _)⟩
theorem JY.newRow (h : JY w W S R E I bq N A n c) (k : Below W.heap.size W W') {A' : Option Addr} {n' c' : Nat} {zs : List Int} (o : W'.ownsRow W.heap.size 54 1 (.slice A' n' c') n' (zs.map (Value.int .u64))) : JY w W' S (⟨A', n', c', zs⟩ :: R) E I bq N A n c := ⟨h.j.newRow k o, (h.step k).i, (h.step k).q⟩
theorem JY.newBox (h : JY w W S R E I bq N A n c) (N' : Int) (A' : Option Addr) (n' c' : Nat) : JY w (W.alloc (.cells #[.int .i64 N', .slice A' n' c'] 24)) (⟨W.heap.size, N', A', n', c'⟩ :: S) R E I bq N A n c :=
  ⟨h.j.newBox N' A' n' c', (h.step ((Below.refl _ _).alloc (Nat.le_refl _) (.cells #[.int .i64 N', .slice A' n' c'] 24))).i, (h.step ((Below.refl _ _).alloc (Nat.le_refl _) (.cells #[.int .i64 N', .slice A' n' c'] 24))).q⟩
theorem JY.ii (h : JY w W S R E I bq N A n c) (A' : Option Addr) (n' c' : Nat) (zs : List Int) (hp : Rx.mk A' n' c' zs ∈ I) : Sees W 1 A' n' c' (zs.map (Value.int .i64)) := h.i _ hp
end
theorem one_jx {w W W' : World} {S : List Sx} {R E : List Rx} {b9 n1 c9 : Nat} {N : Int} {A9 : Option Addr} {l : List Int} (h0 : JX w W S R E) (k : Below W.heap.size W W') (x : SetB W' b9 N A9 n1 c9) (o : W'.ownsRow W.heap.size 54 1 (.slice A9 (n1 + 12) c9) (n1 + 12) ((l ++ mksN 12).map (Value.int .u64))) (hl : l.length = n1) :
    JX w W' (⟨b9, N, A9, n1, c9⟩ :: S) (⟨A9, n1, c9, l⟩ :: R) (⟨A9, n1 + 12, c9, l ++ mksN 12⟩ :: E) := by
  have h2 := h0.newRow k (own_first o hl (by omega))
  refine ⟨h2.bel, fun p hp => ?_, h2.row, fun e he => ?_, h2.dis⟩
  · rcases List.mem_cons.1 hp with rfl | hp
    · exact x
    · exact h2.box p hp
  · rcases List.mem_cons.1 he with rfl | he
    · exact sees_own o
    · exact h2.see e he
theorem keepS1 {W1 W : World} {b2 n1 c1 : Nat} {M : Int} {A : Option Addr} (h : C2 b2 M A n1 c1 W1) (k : Below W1.heap.size W1 W) : C2 b2 M A n1 c1 W ∧ Below W1.heap.size W1 W := ⟨h.keep k, k⟩
theorem keepY {w w1 w2 : World} {b1 b2 b3 n1 n2 n3 c1 c2 c3 : Nat} {M1 M2 M3 : Int} {A1 A2 A3 : Option Addr} {S : List Sx} {R E I : List Rx} {bq n c : Nat} {N : Int} {A : Option Addr} (h : (C2 b1 M1 A1 n1 c1 w1 ∧ C2 b2 M2 A2 n2 c2 w1 ∧ C2 b3 M3 A3 n3 c3 w1) ∧ JY w w1 S R E I bq N A n c) (k : Below w1.heap.size w1 w2) : (C2 b1 M1 A1 n1 c1 w2 ∧ C2 b2 M2 A2 n2 c2 w2 ∧ C2 b3 M3 A3 n3 c3 w2) ∧ JY w w2 S R E I bq N A n c := ⟨⟨h.1.1.keep k, h.1.2.1.keep k, h.1.2.2.keep k⟩, h.2.step k⟩
theorem keepY0 {w w1 : World} {b1 b2 b3 n1 n2 n3 c1 c2 c3 : Nat} {M1 M2 M3 : Int} {A1 A2 A3 : Option Addr} {S : List Sx} {R E I : List Rx} {bq n c : Nat} {N : Int} {A : Option Addr} (h : (C2 b1 M1 A1 n1 c1 w1 ∧ C2 b2 M2 A2 n2 c2 w1 ∧ C2 b3 M3 A3 n3 c3 w1) ∧ JY w w1 S R E I bq N A n c) : (C2 b1 M1 A1 n1 c1 w1.drew ∧ C2 b2 M2 A2 n2 c2 w1.drew ∧ C2 b3 M3 A3 n3 c3 w1.drew) ∧ JY w w1.drew S R E I bq N A n c := keepY h (Below.refl _ _).drew
theorem JY.newSee {w W : World} {S : List Sx} {R E I : List Rx} {bq n c : Nat} {N : Int} {A : Option Addr} (h : JY w W S R E I bq N A n c) {A' : Option Addr} {n' c' : Nat} {zs : List Int} (s : Sees W 1 A' n' c' (zs.map (Value.int .u64))) : JY w W S R (⟨A', n', c', zs⟩ :: E) I bq N A n c :=
  ⟨⟨h.j.bel, h.j.box, h.j.row, fun e he => by rcases List.mem_cons.1 he with rfl | he; exact s; exact h.j.see e he, h.j.dis⟩, h.i, h.q⟩
theorem step_wpG {P : Program} {ops : Array Oper} {o : Oper} {a : Act} {K : Act → World → Prop} {Q : Exit → Act → World → Prop} {w : World} {F : Prop} (hw : Region.wanted o (yielded ops a.tmps) = true) (h : o.wp P a w K Q) :
    if Region.wanted o (yielded ops a.tmps) = true then Oper.wp P o a w K Q else F := by rw [if_pos hw]; exact h
theorem keepZ {w w1 w2 : World} {b1 n1 c1 : Nat} {M1 : Int} {A1 : Option Addr} {S : List Sx} {R E I : List Rx} {bq n c : Nat} {N : Int} {A : Option Addr} (h : C2 b1 M1 A1 n1 c1 w1 ∧ JY w w1 S R E I bq N A n c) (k : Below w1.heap.size w1 w2) : C2 b1 M1 A1 n1 c1 w2 ∧ JY w w2 S R E I bq N A n c := ⟨h.1.keep k, h.2.step k⟩
theorem keepZ0 {w w1 : World} {b1 n1 c1 : Nat} {M1 : Int} {A1 : Option Addr} {S : List Sx} {R E I : List Rx} {bq n c : Nat} {N : Int} {A : Option Addr} (h : C2 b1 M1 A1 n1 c1 w1 ∧ JY w w1 S R E I bq N A n c) : C2 b1 M1 A1 n1 c1 w1.drew ∧ JY w w1.drew S R E I bq N A n c := keepZ h (Below.refl _ _).drew
theorem okAll_nil (n : Nat) : okAll n [] := fun x hx => by cases hx
theorem okAll_take {n j : Nat} {L : List Int} (hj : j < L.length) : okAll n (L.take (j + 1)) ↔ okAll n (L.take j) ∧ (0 ≤ L.getD j 0 ∧ L.getD j 0 < (n : Int)) := by
  rw [List.take_add_one, List.getElem?_eq_getElem hj, List.getD, List.getElem?_eq_getElem hj]
  simp only [Option.toList_some, Option.getD_some]
  constructor
  · intro h; exact ⟨fun x hx => h x (List.mem_append_left _ hx), h _ (List.mem_append_right _ (List.mem_singleton.2 rfl))⟩
  · rintro ⟨h1, h2⟩; exact okAll_snoc h1 h2.1 h2.2
theorem okb_next {n : Int} {L : List Int} {j : Nat} {b b' : Bool} {x : Int} (hj : j < L.length) (hx : L.getD j 0 = x) (h : b = true ↔ ((0 ≤ n ∧ n ≤ 65536) ∧ okAll n.toNat (L.take j))) (hb : b' = (b && (decide (0 ≤ x) && decide (x < n)))) : b' = true ↔ ((0 ≤ n ∧ n ≤ 65536) ∧ okAll n.toNat (L.take (j + 1))) := by
  rw [hb, okAll_take hj, hx]
  simp only [Bool.and_eq_true, decide_eq_true_iff]
  rw [h]
  constructor
  · rintro ⟨⟨h1, h2⟩, h3, h4⟩; exact ⟨h1, h2, h3, by omega⟩
  · rintro ⟨h1, h2, h3, h4⟩; exact ⟨⟨h1, h2⟩, h3, by omega⟩

set_option maxRecDepth 20000 in
set_option maxHeartbeats 8000000 in
theorem changes_any (N i n : Int) (A AL : Option Addr) (n1 c1 nL cL : Nat) (l L : List Int) (w : World) (hs : Sees w 1 A n1 c1 (l.map (Value.int .u64))) (hw : W64 l) (hL : Sees w 1 AL nL cL (L.map (Value.int .i64))) :
    Calls Try.prog 30 #[setv N A n1 c1, .int .i64 i, .int .i64 n, .slice AL nL cL] w fun e w' => e = .returned (.bool true) ∧ Below w.heap.size w w' := by
  obtain ⟨W1, hW1⟩ : ∃ W1, w.alloc (.cells #[.int .i64 N, .slice A n1 c1] 24) = W1 := ⟨_, rfl⟩
  have hX : JX w W1 [⟨w.heap.size, N, A, n1, c1⟩] [] [⟨A, n1, c1, l⟩] := by
    rw [← hW1]
    have hb1 := (Below.refl w.heap.size w).alloc (Nat.le_refl _) (.cells #[.int .i64 N, .slice A n1 c1] 24)
    refine ⟨hb1, fun p hp => ?_, fun r hr => (List.not_mem_nil hr).elim, fun e he => ?_, List.Pairwise.nil⟩
    · rw [List.mem_singleton] at hp; subst hp; exact SetB.new _ _ _ _ _
    · rw [List.mem_singleton] at he; subst he; exact hs.below hb1 (Nat.le_refl _)
  have hl1 := hs.length
  have hl2 := hL.length
  have HLL := Lib.hid (And.intro hl1 hl2)
  have HX := Lib.hid hX
  have HW1 := Lib.hid hW1
  have HSL := Lib.hid hL
  by_cases h20 : 20 < n1
  · have d0 : decide ((20 : Int) < (n1 : Int)) = true := by simp; omega
    have d0' : decide (20 < n1) = true := by simp; omega
    clear h20 hs hL hX hW1 hl1 hl2
    go_enter Try.func30, Try.ntmps30
    go_wp2
    go_ret
    exact ⟨rfl, by rw [HW1.out]; exact HX.out.bel⟩
  · have d0 : decide ((20 : Int) < (n1 : Int)) = false := by simp; omega
    have d0' : decide (20 < n1) = false := by simp; omega
    have HN1 := Lib.hid (show n1 ≤ 20 by omega)
    by_cases h21 : 100 < nL
    · have d1 : decide ((100 : Int) < (nL : Int)) = true := by simp; omega
      have d1' : decide (100 < nL) = true := by simp; omega
      clear h20 h21 hs hL hX hW1 hl1 hl2
      go_enter Try.func30, Try.ntmps30
      go_wp2
      go_ret
      exact ⟨rfl, by rw [HW1.out]; exact HX.out.bel⟩
    · have d1 : decide ((100 : Int) < (nL : Int)) = false := by simp; omega
      have d1' : decide (100 < nL) = false := by simp; omega
      have HNL := Lib.hid (show nL ≤ 100 by omega)
      clear h20 h21 hs hL hX hW1 hl1 hl2
      go_enter Try.func30, Try.ntmps30
      go_upto_region 3 with fail
      rw [HW1.out]
      have x0 := (HX.out.b w.heap.size N A n1 c1 (by simp)).c0
      have x1 := (HX.out.b w.heap.size N A n1 c1 (by simp)).c1
      have HSA : Hid (∀ W, Below W1.heap.size W1 W → Sees W 1 A n1 c1 (l.map (Value.int .u64))) := Lib.hid fun W hb => (HX.out.e A n1 c1 l (by simp)).below hb (Nat.le_refl _)
      have HD0 := Lib.hid (Below.refl W1.heap.size W1).drew
      have HD1 := Lib.hid ((Below.refl W1.heap.size W1).alloc (Nat.le_refl _) (.cells #[.int .i64 0, .slice none 0 0] 24)).drew
      have Y1 := Lib.hid (show SetB (W1.alloc (.cells #[.int .i64 0, .slice none 0 0] 24)).drew W1.heap.size 0 none 0 0 from SetB.new _ _ _ _ _)
      go_cut [9] from 35 to 40 (fun pv wx => ∃ (b9 c9 : Nat) (A9 : Option Addr), pv = .pointer (some ⟨b9, 0, none⟩) ∧ Hid (JX w wx [⟨b9, N, A9, n1, c9⟩, ⟨w.heap.size, N, A, n1, c1⟩] [⟨A9, n1, c9, l⟩] [⟨A9, n1 + 12, c9, l ++ mksN 12⟩, ⟨A, n1, c1, l⟩]))
      case first =>
        have hS0 : C2 w.heap.size N A n1 c1 W1 := ⟨x0, x1⟩
        go_region_held3 (fun W => C2 w.heap.size N A n1 c1 W ∧ Below W1.heap.size W1 W) ((refine keepS1 hS0 ?_; first | with_reducible exact HD0.out | with_reducible exact HD1.out | with_reducible exact KW1.out | with_reducible exact KW1.out.alloc KW1.out.size _ | with_reducible exact below_put KW1.out (Nat.le_refl _) _ _)) (first
          | (go_at_call 38; refine (LentNums_any A n1 c1 l _ (HSA.out _ (by first | with_reducible exact HD0.out | with_reducible exact HD1.out)) (by have := HN1.out; omega)).mono ?_; rintro e w1 ⟨A9, c9, rfl, o1, k1⟩; have KW1 : Hid (Below W1.heap.size W1 w1) := Lib.hid (by first | with_reducible exact below_step HD0.out k1 | with_reducible exact below_step HD1.out k1); have P1 : Hid (w1.ownsRow W1.heap.size 54 1 (.slice A9 (n1 + 12) c9) (n1 + 12) ((l ++ mksN 12).map (Value.int .u64))) := Lib.hid (by first | with_reducible exact own_base o1 HD0.out.size | with_reducible exact own_base o1 HD1.out.size); (try (with_reducible have X1 := Lib.hid (Y1.out.below k1 (Nat.le_refl _)))); (try (have q0 := X1.out.c0; have q1 := X1.out.c1; have q2 := X1.out.f 0; have q3 := X1.out.f 1)); clear k1 o1))
        all_goals (try simp only [Act.put, List.getElem_toArray, List.getElem_cons_succ, List.getElem_cons_zero, List.setIfInBounds_toArray, List.set_cons_succ, List.set_cons_zero])
        all_goals go_wp2_with fail
        all_goals go_meet
        all_goals first
          | with_reducible exact ⟨W1.heap.size, c9, A9, rfl, Lib.hid (one_jx HX.out (below_put KW1.out (Nat.le_refl _) _ _) X1.out.put (own_putP (i := 1) (own_putP (i := 0) P1.out X1.out _) (put_setP (n := 0) (c := 0) (A := none) X1.out) _) HLL.out.1)⟩
          | with_reducible exact ⟨w1.heap.size, c9, A9, rfl, Lib.hid (one_jx HX.out (KW1.out.alloc KW1.out.size _) (SetB.new _ _ _ _ _) (P1.out.alloc _) HLL.out.1)⟩
      case rest =>
        obtain ⟨b9, c9, A9, rfl, J0⟩ := hcut
        have HL2 := Lib.hid HLL.out.2
        clear x0 x1 HSA
        go_upto_region 11 with (first
          | (go_at_call 28; have _q := Jw9; refine (Not_u N A9 n1 c9 l _ (Jw9.out.j.s A9 n1 c9 l (by simp)) hw (by have := HN1.out; omega)).mono ?_; rintro e w10 ⟨Nt, At, mt, ct, yt, et, rfl, oo, HMet, HFet, kk⟩; have Jw10 := Lib.hid ((Jw9.out.newRow kk oo).newBox Nt At mt ct); clear kk oo)
          | (go_at_call 27; have _q := Jw8; refine (Without_u N i A9 n1 c9 l _ (Jw8.out.j.s A9 n1 c9 l (by simp)) hw (by have := HN1.out; omega)).mono ?_; rintro e w9 ⟨Nl, Al, ml, cl, yl, el, rfl, oo, HMel, HFel, kk⟩; have Jw9 := Lib.hid ((Jw8.out.newRow kk oo).newBox Nl Al ml cl); clear kk oo; have kA90 := (Jw9.out.j.b b9 N A9 n1 c9 (by simp)).c0; have kA91 := (Jw9.out.j.b b9 N A9 n1 c9 (by simp)).c1)
          | (go_at_call 26; have _q := Jw7; refine (With_u N i A9 n1 c9 l _ (Jw7.out.j.s A9 n1 c9 l (by simp)) hw (by have := HN1.out; omega)).mono ?_; rintro e w8 ⟨Nw, Aw, mw, cw, yw, ew, rfl, oo, HMew, HFew, kk⟩; have Jw8 := Lib.hid ((Jw7.out.newRow kk oo).newBox Nw Aw mw cw); clear kk oo; have hA90 := (Jw8.out.j.b b9 N A9 n1 c9 (by simp)).c0; have hA91 := (Jw8.out.j.b b9 N A9 n1 c9 (by simp)).c1)
          | (go_at_call 24; have _q := Jw6; refine (Of_u n A10 nL c10 L _ (Jw6.out.ii A10 nL c10 L (by simp))).mono ?_; rintro e w7 ⟨No, Ao, mo, co, yo, eo, rfl, oo, HMeo, HFeo, kk⟩; have Jw7 := Lib.hid ((Jw6.out.newRow kk oo).newBox No Ao mo co); clear kk oo; have gA90 := (Jw7.out.j.b b9 N A9 n1 c9 (by simp)).c0; have gA91 := (Jw7.out.j.b b9 N A9 n1 c9 (by simp)).c1)
          | (go_at_call 37; have _q := J5; refine (New_u n _).mono ?_; rintro e w6 ⟨Nn, An, mn, cn, yn, en, rfl, oo, HMen, HFen, kk⟩; have Jw6 := Lib.hid ((J5.out.newRow kk oo).newBox Nn An mn cn); clear kk oo)
          | (go_at_call 58; refine (LentInts_any AL nL cL L _ (HSL.out.below J0.out.bel (Nat.le_refl _)) (by have := HNL.out; omega)).mono ?_; rintro e w4 ⟨A10, c10, rfl, o4, k4⟩; have J4 := Lib.hid (J0.out.step k4); have O4 := Lib.hid o4; have J5 : Hid (JY w (w4.alloc (.cells #[.int .i64 N, .slice A n1 c1] 55)) [⟨b9, N, A9, n1, c9⟩, ⟨w.heap.size, N, A, n1, c1⟩] [⟨A9, n1, c9, l⟩] [⟨A9, n1 + 12, c9, l ++ mksN 12⟩, ⟨A, n1, c1, l⟩] [⟨A10, nL, c10, L⟩, ⟨A10, nL + 12, c10, L ++ mksI 12⟩, ⟨AL, nL, cL, L⟩] w4.heap.size N A n1 c1) := Lib.hid ⟨J4.out.step ((Below.refl _ _).alloc (Nat.le_refl _) _), fun e he => by have hb := (Below.refl w4.heap.size w4).alloc (Nat.le_refl _) (.cells #[.int .i64 N, .slice A n1 c1] 55); simp only [List.mem_cons, List.not_mem_nil, or_false] at he; rcases he with rfl | rfl | rfl; exact (Sees.take (by have h := sees_own O4.out; rw [List.map_append] at h; exact h) (by simp [HL2.out]) (Nat.le_add_right nL 12)).below hb (Nat.le_refl _); exact (sees_own O4.out).below hb (Nat.le_refl _); exact (HSL.out.below J4.out.bel (Nat.le_refl _)).below hb (Nat.le_refl _), SetQ.new _ _ _ _ _⟩; have z0 := (J4.out.b w.heap.size N A n1 c1 (by simp)).c0; have z1 := (J4.out.b w.heap.size N A n1 c1 (by simp)).c1; clear k4 o4))
        generalize hW10 : w10.alloc (.cells #[.int .i64 Nt, .slice At mt ct] 24) = W10 at Jw10 ⊢
        clear hW10 J0 J4 J5 Jw6 Jw7 Jw8 Jw9 z0 z1 gA90 gA91 hA90 hA91 kA90 kA91
        obtain ⟨ins, hins⟩ : ∃ b, (decide (0 ≤ n) && decide (n ≤ 65536)) = b := ⟨_, rfl⟩
        have HINS : Hid (ins = true ↔ (0 ≤ n ∧ n ≤ 65536)) := Lib.hid (by rw [← hins, Bool.and_eq_true, decide_eq_true_iff, decide_eq_true_iff])
        have HINE := Lib.hid hins
        clear hins
        go_cut [22] from 76 to 81 (fun v wx => v = .bool ins ∧ W10 = wx)
        case first =>
          have he := HINE.out
          by_cases h0 : 0 ≤ n
          · have e0 : decide (0 ≤ n) = true := decide_eq_true h0
            by_cases h1 : n ≤ 65536
            · have e1 : decide (n ≤ 65536) = true := decide_eq_true h1
              rw [e0, e1] at he; subst he
              clear HINS HINE
              go_wp2_with fail
              go_meet
              exact ⟨rfl, rfl⟩
            · have e1 : decide (n ≤ 65536) = false := decide_eq_false h1
              rw [e0, e1] at he; subst he
              clear HINS HINE
              go_wp2_with fail
              go_meet
              exact ⟨rfl, rfl⟩
          · have e0 : decide (0 ≤ n) = false := decide_eq_false h0
            rw [e0] at he; subst he
            clear HINS HINE
            go_wp2_with fail
            go_meet
            exact ⟨rfl, rfl⟩
        case rest =>
          obtain ⟨rfl, rfl⟩ := hcut
          clear HINE
          go_upto_region 12 with fail
          go_cut [109] from 82 to 109 (fun v wx => v = .bool false ∧ Hid (JY w wx [⟨w10.heap.size, Nt, At, mt, ct⟩, ⟨w9.heap.size, Nl, Al, ml, cl⟩, ⟨w8.heap.size, Nw, Aw, mw, cw⟩, ⟨w7.heap.size, No, Ao, mo, co⟩, ⟨w6.heap.size, Nn, An, mn, cn⟩, ⟨b9, N, A9, n1, c9⟩, ⟨w.heap.size, N, A, n1, c1⟩] [⟨At, mt, ct, yt⟩, ⟨Al, ml, cl, yl⟩, ⟨Aw, mw, cw, yw⟩, ⟨Ao, mo, co, yo⟩, ⟨An, mn, cn, yn⟩, ⟨A9, n1, c9, l⟩] [⟨A9, n1 + 12, c9, l ++ mksN 12⟩, ⟨A, n1, c1, l⟩] [⟨A10, nL, c10, L⟩, ⟨A10, nL + 12, c10, L ++ mksI 12⟩, ⟨AL, nL, cL, L⟩] w4.heap.size N A n1 c1))
          case first =>
            have q0 := (Jw10.out.j.b w6.heap.size Nn An mn cn (by simp)).c0
            have q1 := (Jw10.out.j.b w6.heap.size Nn An mn cn (by simp)).c1
            rcases HFen.out with ⟨h, e1, e2, e3⟩ | ⟨h, e1, e2, e3, e4, e5⟩
            · have hi : ins = true := HINS.out.2 h
              subst hi e1
              obtain ⟨k, hk⟩ : ∃ k : Nat, n = (k : Int) := ⟨n.toNat, by omega⟩
              have hk6 : k ≤ 65536 := by omega
              rw [hk, Int.toNat_natCast] at e3
              rw [hk] at e2
              rw [e2] at q0
              have HK6 := Lib.hid hk6
              have HY := Lib.hid e3
              have HN2 := Lib.hid e2
              clear h e2 e3 HINS hk6
              subst hk
              have hS0 : C2 w6.heap.size (k : Int) An mn cn W10 ∧ JY w W10 [⟨w10.heap.size, Nt, At, mt, ct⟩, ⟨w9.heap.size, Nl, Al, ml, cl⟩, ⟨w8.heap.size, Nw, Aw, mw, cw⟩, ⟨w7.heap.size, No, Ao, mo, co⟩, ⟨w6.heap.size, Nn, An, mn, cn⟩, ⟨b9, N, A9, n1, c9⟩, ⟨w.heap.size, N, A, n1, c1⟩] [⟨At, mt, ct, yt⟩, ⟨Al, ml, cl, yl⟩, ⟨Aw, mw, cw, yw⟩, ⟨Ao, mo, co, yo⟩, ⟨An, mn, cn, yn⟩, ⟨A9, n1, c9, l⟩] [⟨A9, n1 + 12, c9, l ++ mksN 12⟩, ⟨A, n1, c1, l⟩] [⟨A10, nL, c10, L⟩, ⟨A10, nL + 12, c10, L ++ mksI 12⟩, ⟨AL, nL, cL, L⟩] w4.heap.size N A n1 c1 := ⟨⟨q0, q1⟩, Jw10.out⟩
              refine wp_region_held_drew (S := (fun w' => C2 w6.heap.size (k : Int) An mn cn w' ∧ JY w w' [⟨w10.heap.size, Nt, At, mt, ct⟩, ⟨w9.heap.size, Nl, Al, ml, cl⟩, ⟨w8.heap.size, Nw, Aw, mw, cw⟩, ⟨w7.heap.size, No, Ao, mo, co⟩, ⟨w6.heap.size, Nn, An, mn, cn⟩, ⟨b9, N, A9, n1, c9⟩, ⟨w.heap.size, N, A, n1, c1⟩] [⟨At, mt, ct, yt⟩, ⟨Al, ml, cl, yl⟩, ⟨Aw, mw, cw, yw⟩, ⟨Ao, mo, co, yo⟩, ⟨An, mn, cn, yn⟩, ⟨A9, n1, c9, l⟩] [⟨A9, n1 + 12, c9, l ++ mksN 12⟩, ⟨A, n1, c1, l⟩] [⟨A10, nL, c10, L⟩, ⟨A10, nL + 12, c10, L ++ mksI 12⟩, ⟨AL, nL, cL, L⟩] w4.heap.size N A n1 c1)) (by kernel_rfl) ?_ (fun hHeld => ?_)
              · exact keepZ0 hS0
              refine wpAnyH_take (i := 0) (v := .bool true) rfl (by kernel_rfl) (by kernel_rfl) (by kernel_rfl) (fun _ _ _ h => h) (Or.inl ⟨by rfl, fun w _ => by go_simp⟩) (by assumption) ?_
              (try simp only [Act.put, List.getElem_toArray, List.getElem_cons_succ, List.getElem_cons_zero, List.setIfInBounds_toArray, List.set_cons_succ, List.set_cons_zero])
              refine wpAnyH_take (i := 1) (v := .int .i64 0) rfl (by kernel_rfl) (by kernel_rfl) (by kernel_rfl) (fun _ _ _ h => h) (Or.inl ⟨by rfl, fun w _ => by go_simp⟩) (by assumption) ?_
              (try simp only [Act.put, List.getElem_toArray, List.getElem_cons_succ, List.getElem_cons_zero, List.setIfInBounds_toArray, List.set_cons_succ, List.set_cons_zero])
              refine wpAnyH_take (i := 2) (v := .bool true) rfl (by kernel_rfl) (by kernel_rfl) (by kernel_rfl) (fun _ _ _ h => h) (Or.inl ⟨by rfl, fun w _ => by go_simp⟩) (by assumption) ?_
              (try simp only [Act.put, List.getElem_toArray, List.getElem_cons_succ, List.getElem_cons_zero, List.setIfInBounds_toArray, List.set_cons_succ, List.set_cons_zero])
              refine wpAnyH_take (i := 3) (v := .bool false) rfl (by kernel_rfl) (by kernel_rfl) (by kernel_rfl) (fun _ _ _ h => h) (Or.inl ⟨by rfl, fun w _ => by go_simp⟩) (by assumption) ?_
              (try simp only [Act.put, List.getElem_toArray, List.getElem_cons_succ, List.getElem_cons_zero, List.setIfInBounds_toArray, List.set_cons_succ, List.set_cons_zero])
              refine wpAnyH_take (i := 4) (v := .bool false) rfl (by kernel_rfl) (by kernel_rfl) (by kernel_rfl) (fun _ _ _ h => h) (Or.inl ⟨by rfl, fun w _ => by go_simp⟩) (by assumption) ?_
              (try simp only [Act.put, List.getElem_toArray, List.getElem_cons_succ, List.getElem_cons_zero, List.setIfInBounds_toArray, List.set_cons_succ, List.set_cons_zero])
              refine wpAnyH_take (i := 5) (v := .bool true) rfl (by kernel_rfl) (by kernel_rfl) (by kernel_rfl) (fun _ _ _ h => h) (Or.inl ⟨by rfl, fun w _ => by go_simp⟩) (by assumption) ?_
              (try simp only [Act.put, List.getElem_toArray, List.getElem_cons_succ, List.getElem_cons_zero, List.setIfInBounds_toArray, List.set_cons_succ, List.set_cons_zero])
              refine wpAnyH_take (i := 6) (v := .bool true) rfl (by kernel_rfl) (by kernel_rfl) (by kernel_rfl) (fun _ _ _ h => h) (Or.inl ⟨by rfl, fun w _ => by go_simp⟩) (by assumption) ?_
              (try simp only [Act.put, List.getElem_toArray, List.getElem_cons_succ, List.getElem_cons_zero, List.setIfInBounds_toArray, List.set_cons_succ, List.set_cons_zero])
              refine wpAnyH_take (i := 7) (v := .agg #[.int .i64 (k : Int), .slice An mn cn]) rfl (by kernel_rfl) (by kernel_rfl) (by kernel_rfl) (fun _ _ _ h => h) (Or.inl ⟨by rfl, fun w hSw => by obtain ⟨⟨hSx, hSy⟩, _⟩ := hSw; go_simp⟩) (by assumption) ?_
              (try simp only [Act.put, List.getElem_toArray, List.getElem_cons_succ, List.getElem_cons_zero, List.setIfInBounds_toArray, List.set_cons_succ, List.set_cons_zero])
              refine wpAnyH_take (i := 8) (v := .int .i64 (k : Int)) rfl (by kernel_rfl) (by kernel_rfl) (by kernel_rfl) (fun _ _ _ h => h) (Or.inl ⟨by rfl, fun w _ => by go_simp⟩) (by assumption) ?_
              (try simp only [Act.put, List.getElem_toArray, List.getElem_cons_succ, List.getElem_cons_zero, List.setIfInBounds_toArray, List.set_cons_succ, List.set_cons_zero])
              refine wpAnyH_ready (rs := [9]) (by kernel_rfl) (by simp) ?_
              refine AllReadyH.cons rfl (fun K hK => ?_) AllReadyH.nil
              go_simp
              go_at_call 35; refine (refOf_in k none 0 0 [] _ HK6.out (Sees.nil _ _ _ _ (Nat.zero_le _) (fun _ => rfl)) (okAll_nil k)).mono ?_; rintro e w' ⟨v, rfl, ⟨Aj, nj, cj, rfl, oj⟩, kk⟩; have OJ := Lib.hid (sees_own oj); clear oj
              refine hK.out _ _ ?_ (fun hHeld2 => ?_)
              · exact keepZ (by assumption) (by assumption)
              clear hHeld hK K
              have hHeld := hHeld2
              clear hHeld2
              (try simp only [Act.put, List.getElem_toArray, List.getElem_cons_succ, List.getElem_cons_zero, List.setIfInBounds_toArray, List.set_cons_succ, List.set_cons_zero])
              refine wpAnyH_ready (rs := [10]) (by kernel_rfl) (by simp) ?_
              refine AllReadyH.cons rfl (fun K hK => ?_) AllReadyH.nil
              go_simp
              go_at_call 41; refine (is_same (k : Int) An _ mn _ cn _ (ofW k []) _ (by rw [← HY.out]; exact (JX.s (w := w) (S := [⟨w10.heap.size, Nt, At, mt, ct⟩, ⟨w9.heap.size, Nl, Al, ml, cl⟩, ⟨w8.heap.size, Nw, Aw, mw, cw⟩, ⟨w7.heap.size, No, Ao, mo, co⟩, ⟨w6.heap.size, Nn, An, mn, cn⟩, ⟨b9, N, A9, n1, c9⟩, ⟨w.heap.size, N, A, n1, c1⟩]) (R := [⟨At, mt, ct, yt⟩, ⟨Al, ml, cl, yl⟩, ⟨Aw, mw, cw, yw⟩, ⟨Ao, mo, co, yo⟩, ⟨An, mn, cn, yn⟩, ⟨A9, n1, c9, l⟩]) (E := [⟨A9, n1 + 12, c9, l ++ mksN 12⟩, ⟨A, n1, c1, l⟩]) (JY.j (And.right hHeld)) An mn cn yn (by simp))) OJ.out).mono ?_; rintro e w' ⟨rfl, kk⟩
              refine hK.out _ _ ?_ (fun hHeld2 => ?_)
              · exact keepZ (by assumption) (by assumption)
              clear hHeld hK K
              have hHeld := hHeld2
              clear hHeld2
              (try simp only [Act.put, List.getElem_toArray, List.getElem_cons_succ, List.getElem_cons_zero, List.setIfInBounds_toArray, List.set_cons_succ, List.set_cons_zero])
              refine wpAnyH_take (i := 11) (v := .bool false) rfl (by kernel_rfl) (by kernel_rfl) (by kernel_rfl) (fun _ _ _ h => h) (Or.inl ⟨by rfl, fun w _ => by go_simp⟩) (by assumption) ?_
              (try simp only [Act.put, List.getElem_toArray, List.getElem_cons_succ, List.getElem_cons_zero, List.setIfInBounds_toArray, List.set_cons_succ, List.set_cons_zero])
              refine wpAnyH_take (i := 12) (v := .bool false) rfl (by kernel_rfl) (by kernel_rfl) (by kernel_rfl) (fun _ _ _ h => h) (Or.inl ⟨by rfl, fun w _ => by go_simp⟩) (by assumption) ?_
              (try simp only [Act.put, List.getElem_toArray, List.getElem_cons_succ, List.getElem_cons_zero, List.setIfInBounds_toArray, List.set_cons_succ, List.set_cons_zero])
              refine wpAnyH_take (i := 13) (v := .bool false) rfl (by kernel_rfl) (by kernel_rfl) (by kernel_rfl) (fun _ _ _ h => h) (Or.inl ⟨by rfl, fun w _ => by go_simp⟩) (by assumption) ?_
              (try simp only [Act.put, List.getElem_toArray, List.getElem_cons_succ, List.getElem_cons_zero, List.setIfInBounds_toArray, List.set_cons_succ, List.set_cons_zero])
              refine wpAnyH_take (i := 14) (v := .bool false) rfl (by kernel_rfl) (by kernel_rfl) (by kernel_rfl) (fun _ _ _ h => h) (Or.inl ⟨by rfl, fun w _ => by go_simp⟩) (by assumption) ?_
              (try simp only [Act.put, List.getElem_toArray, List.getElem_cons_succ, List.getElem_cons_zero, List.setIfInBounds_toArray, List.set_cons_succ, List.set_cons_zero])
              refine wpAnyH_take (i := 15) (v := .bool true) rfl (by kernel_rfl) (by kernel_rfl) (by kernel_rfl) (fun _ _ _ h => h) (Or.inl ⟨by rfl, fun w _ => by go_simp⟩) (by assumption) ?_
              (try simp only [Act.put, List.getElem_toArray, List.getElem_cons_succ, List.getElem_cons_zero, List.setIfInBounds_toArray, List.set_cons_succ, List.set_cons_zero])
              refine wpAnyH_take (i := 16) (v := .bool false) rfl (by kernel_rfl) (by kernel_rfl) (by kernel_rfl) (fun _ _ _ h => h) (Or.inl ⟨by rfl, fun w _ => by go_simp⟩) (by assumption) ?_
              (try simp only [Act.put, List.getElem_toArray, List.getElem_cons_succ, List.getElem_cons_zero, List.setIfInBounds_toArray, List.set_cons_succ, List.set_cons_zero])
              refine wpAnyH_take (i := 17) (v := .bool false) rfl (by kernel_rfl) (by kernel_rfl) (by kernel_rfl) (fun _ _ _ h => h) (Or.inl ⟨by rfl, fun w _ => by go_simp⟩) (by assumption) ?_
              (try simp only [Act.put, List.getElem_toArray, List.getElem_cons_succ, List.getElem_cons_zero, List.setIfInBounds_toArray, List.set_cons_succ, List.set_cons_zero])
              refine wpAnyH_take (i := 18) (v := undef) rfl (by kernel_rfl) (by kernel_rfl) (by kernel_rfl) (fun _ _ _ h => h) (Or.inr ⟨by rfl, rfl⟩) (by assumption) ?_
              (try simp only [Act.put, List.getElem_toArray, List.getElem_cons_succ, List.getElem_cons_zero, List.setIfInBounds_toArray, List.set_cons_succ, List.set_cons_zero])
              refine wpAnyH_take (i := 19) (v := undef) rfl (by kernel_rfl) (by kernel_rfl) (by kernel_rfl) (fun _ _ _ h => h) (Or.inr ⟨by rfl, rfl⟩) (by assumption) ?_
              (try simp only [Act.put, List.getElem_toArray, List.getElem_cons_succ, List.getElem_cons_zero, List.setIfInBounds_toArray, List.set_cons_succ, List.set_cons_zero])
              refine wpAnyH_take (i := 20) (v := undef) rfl (by kernel_rfl) (by kernel_rfl) (by kernel_rfl) (fun _ _ _ h => h) (Or.inr ⟨by rfl, rfl⟩) (by assumption) ?_
              (try simp only [Act.put, List.getElem_toArray, List.getElem_cons_succ, List.getElem_cons_zero, List.setIfInBounds_toArray, List.set_cons_succ, List.set_cons_zero])
              refine wpAnyH_take (i := 21) (v := undef) rfl (by kernel_rfl) (by kernel_rfl) (by kernel_rfl) (fun _ _ _ h => h) (Or.inr ⟨by rfl, rfl⟩) (by assumption) ?_
              (try simp only [Act.put, List.getElem_toArray, List.getElem_cons_succ, List.getElem_cons_zero, List.setIfInBounds_toArray, List.set_cons_succ, List.set_cons_zero])
              refine wpAnyH_take (i := 22) (v := undef) rfl (by kernel_rfl) (by kernel_rfl) (by kernel_rfl) (fun _ _ _ h => h) (Or.inr ⟨by rfl, rfl⟩) (by assumption) ?_
              (try simp only [Act.put, List.getElem_toArray, List.getElem_cons_succ, List.getElem_cons_zero, List.setIfInBounds_toArray, List.set_cons_succ, List.set_cons_zero])
              refine wpAnyH_take (i := 23) (v := undef) rfl (by kernel_rfl) (by kernel_rfl) (by kernel_rfl) (fun _ _ _ h => h) (Or.inr ⟨by rfl, rfl⟩) (by assumption) ?_
              (try simp only [Act.put, List.getElem_toArray, List.getElem_cons_succ, List.getElem_cons_zero, List.setIfInBounds_toArray, List.set_cons_succ, List.set_cons_zero])
              refine wpAnyH_take (i := 24) (v := undef) rfl (by kernel_rfl) (by kernel_rfl) (by kernel_rfl) (fun _ _ _ h => h) (Or.inr ⟨by rfl, rfl⟩) (by assumption) ?_
              (try simp only [Act.put, List.getElem_toArray, List.getElem_cons_succ, List.getElem_cons_zero, List.setIfInBounds_toArray, List.set_cons_succ, List.set_cons_zero])
              refine wpAnyH_take (i := 25) (v := undef) rfl (by kernel_rfl) (by kernel_rfl) (by kernel_rfl) (fun _ _ _ h => h) (Or.inr ⟨by rfl, rfl⟩) (by assumption) ?_
              (try simp only [Act.put, List.getElem_toArray, List.getElem_cons_succ, List.getElem_cons_zero, List.setIfInBounds_toArray, List.set_cons_succ, List.set_cons_zero])
              refine wpAnyH_take (i := 26) (v := .bool false) rfl (by kernel_rfl) (by kernel_rfl) (by kernel_rfl) (fun _ _ _ h => h) (Or.inl ⟨by rfl, fun w _ => by go_simp⟩) (by assumption) ?_
              (try simp only [Act.put, List.getElem_toArray, List.getElem_cons_succ, List.getElem_cons_zero, List.setIfInBounds_toArray, List.set_cons_succ, List.set_cons_zero])
              refine wpAnyH_take (i := 27) (v := .bool false) rfl (by kernel_rfl) (by kernel_rfl) (by kernel_rfl) (fun _ _ _ h => h) (Or.inl ⟨by rfl, fun w _ => by go_simp⟩) (by assumption) ?_
              (try simp only [Act.put, List.getElem_toArray, List.getElem_cons_succ, List.getElem_cons_zero, List.setIfInBounds_toArray, List.set_cons_succ, List.set_cons_zero])
              refine wpAnyH_done (by kernel_rfl) ?_ _
              go_wp2_with fail
              go_meet
              exact ⟨rfl, Lib.hid hHeld.2⟩
            · have hi : ins = false := by cases ins with | false => rfl | true => exact absurd (HINS.out.1 rfl) h
              subst hi e1
              rw [e2] at q0
              rw [e3, e4, e5] at q1
              clear h e2 e3 e4 e5 HINS
              have hS0 : C2 w6.heap.size 0 none 0 0 W10 ∧ JY w W10 [⟨w10.heap.size, Nt, At, mt, ct⟩, ⟨w9.heap.size, Nl, Al, ml, cl⟩, ⟨w8.heap.size, Nw, Aw, mw, cw⟩, ⟨w7.heap.size, No, Ao, mo, co⟩, ⟨w6.heap.size, Nn, An, mn, cn⟩, ⟨b9, N, A9, n1, c9⟩, ⟨w.heap.size, N, A, n1, c1⟩] [⟨At, mt, ct, yt⟩, ⟨Al, ml, cl, yl⟩, ⟨Aw, mw, cw, yw⟩, ⟨Ao, mo, co, yo⟩, ⟨An, mn, cn, yn⟩, ⟨A9, n1, c9, l⟩] [⟨A9, n1 + 12, c9, l ++ mksN 12⟩, ⟨A, n1, c1, l⟩] [⟨A10, nL, c10, L⟩, ⟨A10, nL + 12, c10, L ++ mksI 12⟩, ⟨AL, nL, cL, L⟩] w4.heap.size N A n1 c1 := ⟨⟨q0, q1⟩, Jw10.out⟩
              refine wp_region_held_drew (S := (fun w' => C2 w6.heap.size 0 none 0 0 w' ∧ JY w w' [⟨w10.heap.size, Nt, At, mt, ct⟩, ⟨w9.heap.size, Nl, Al, ml, cl⟩, ⟨w8.heap.size, Nw, Aw, mw, cw⟩, ⟨w7.heap.size, No, Ao, mo, co⟩, ⟨w6.heap.size, Nn, An, mn, cn⟩, ⟨b9, N, A9, n1, c9⟩, ⟨w.heap.size, N, A, n1, c1⟩] [⟨At, mt, ct, yt⟩, ⟨Al, ml, cl, yl⟩, ⟨Aw, mw, cw, yw⟩, ⟨Ao, mo, co, yo⟩, ⟨An, mn, cn, yn⟩, ⟨A9, n1, c9, l⟩] [⟨A9, n1 + 12, c9, l ++ mksN 12⟩, ⟨A, n1, c1, l⟩] [⟨A10, nL, c10, L⟩, ⟨A10, nL + 12, c10, L ++ mksI 12⟩, ⟨AL, nL, cL, L⟩] w4.heap.size N A n1 c1)) (by kernel_rfl) ?_ (fun hHeld => ?_)
              · exact keepZ0 hS0
              refine wpAnyH_take (i := 0) (v := .bool false) rfl (by kernel_rfl) (by kernel_rfl) (by kernel_rfl) (fun _ _ _ h => h) (Or.inl ⟨by rfl, fun w _ => by go_simp⟩) (by assumption) ?_
              (try simp only [Act.put, List.getElem_toArray, List.getElem_cons_succ, List.getElem_cons_zero, List.setIfInBounds_toArray, List.set_cons_succ, List.set_cons_zero])
              refine wpAnyH_take (i := 1) (v := .int .i64 2) rfl (by kernel_rfl) (by kernel_rfl) (by kernel_rfl) (fun _ _ _ h => h) (Or.inl ⟨by rfl, fun w _ => by go_simp⟩) (by assumption) ?_
              (try simp only [Act.put, List.getElem_toArray, List.getElem_cons_succ, List.getElem_cons_zero, List.setIfInBounds_toArray, List.set_cons_succ, List.set_cons_zero])
              refine wpAnyH_take (i := 2) (v := .bool false) rfl (by kernel_rfl) (by kernel_rfl) (by kernel_rfl) (fun _ _ _ h => h) (Or.inl ⟨by rfl, fun w _ => by go_simp⟩) (by assumption) ?_
              (try simp only [Act.put, List.getElem_toArray, List.getElem_cons_succ, List.getElem_cons_zero, List.setIfInBounds_toArray, List.set_cons_succ, List.set_cons_zero])
              refine wpAnyH_take (i := 3) (v := .bool false) rfl (by kernel_rfl) (by kernel_rfl) (by kernel_rfl) (fun _ _ _ h => h) (Or.inl ⟨by rfl, fun w _ => by go_simp⟩) (by assumption) ?_
              (try simp only [Act.put, List.getElem_toArray, List.getElem_cons_succ, List.getElem_cons_zero, List.setIfInBounds_toArray, List.set_cons_succ, List.set_cons_zero])
              refine wpAnyH_take (i := 4) (v := .bool false) rfl (by kernel_rfl) (by kernel_rfl) (by kernel_rfl) (fun _ _ _ h => h) (Or.inl ⟨by rfl, fun w _ => by go_simp⟩) (by assumption) ?_
              (try simp only [Act.put, List.getElem_toArray, List.getElem_cons_succ, List.getElem_cons_zero, List.setIfInBounds_toArray, List.set_cons_succ, List.set_cons_zero])
              refine wpAnyH_take (i := 5) (v := .bool false) rfl (by kernel_rfl) (by kernel_rfl) (by kernel_rfl) (fun _ _ _ h => h) (Or.inl ⟨by rfl, fun w _ => by go_simp⟩) (by assumption) ?_
              (try simp only [Act.put, List.getElem_toArray, List.getElem_cons_succ, List.getElem_cons_zero, List.setIfInBounds_toArray, List.set_cons_succ, List.set_cons_zero])
              refine wpAnyH_take (i := 6) (v := .bool false) rfl (by kernel_rfl) (by kernel_rfl) (by kernel_rfl) (fun _ _ _ h => h) (Or.inl ⟨by rfl, fun w _ => by go_simp⟩) (by assumption) ?_
              (try simp only [Act.put, List.getElem_toArray, List.getElem_cons_succ, List.getElem_cons_zero, List.setIfInBounds_toArray, List.set_cons_succ, List.set_cons_zero])
              refine wpAnyH_take (i := 7) (v := undef) rfl (by kernel_rfl) (by kernel_rfl) (by kernel_rfl) (fun _ _ _ h => h) (Or.inr ⟨by rfl, rfl⟩) (by assumption) ?_
              (try simp only [Act.put, List.getElem_toArray, List.getElem_cons_succ, List.getElem_cons_zero, List.setIfInBounds_toArray, List.set_cons_succ, List.set_cons_zero])
              refine wpAnyH_take (i := 8) (v := undef) rfl (by kernel_rfl) (by kernel_rfl) (by kernel_rfl) (fun _ _ _ h => h) (Or.inr ⟨by rfl, rfl⟩) (by assumption) ?_
              (try simp only [Act.put, List.getElem_toArray, List.getElem_cons_succ, List.getElem_cons_zero, List.setIfInBounds_toArray, List.set_cons_succ, List.set_cons_zero])
              refine wpAnyH_take (i := 9) (v := undef) rfl (by kernel_rfl) (by kernel_rfl) (by kernel_rfl) (fun _ _ _ h => h) (Or.inr ⟨by rfl, rfl⟩) (by assumption) ?_
              (try simp only [Act.put, List.getElem_toArray, List.getElem_cons_succ, List.getElem_cons_zero, List.setIfInBounds_toArray, List.set_cons_succ, List.set_cons_zero])
              refine wpAnyH_take (i := 10) (v := undef) rfl (by kernel_rfl) (by kernel_rfl) (by kernel_rfl) (fun _ _ _ h => h) (Or.inr ⟨by rfl, rfl⟩) (by assumption) ?_
              (try simp only [Act.put, List.getElem_toArray, List.getElem_cons_succ, List.getElem_cons_zero, List.setIfInBounds_toArray, List.set_cons_succ, List.set_cons_zero])
              refine wpAnyH_take (i := 11) (v := undef) rfl (by kernel_rfl) (by kernel_rfl) (by kernel_rfl) (fun _ _ _ h => h) (Or.inr ⟨by rfl, rfl⟩) (by assumption) ?_
              (try simp only [Act.put, List.getElem_toArray, List.getElem_cons_succ, List.getElem_cons_zero, List.setIfInBounds_toArray, List.set_cons_succ, List.set_cons_zero])
              refine wpAnyH_take (i := 12) (v := .bool false) rfl (by kernel_rfl) (by kernel_rfl) (by kernel_rfl) (fun _ _ _ h => h) (Or.inl ⟨by rfl, fun w _ => by go_simp⟩) (by assumption) ?_
              (try simp only [Act.put, List.getElem_toArray, List.getElem_cons_succ, List.getElem_cons_zero, List.setIfInBounds_toArray, List.set_cons_succ, List.set_cons_zero])
              refine wpAnyH_take (i := 13) (v := .bool false) rfl (by kernel_rfl) (by kernel_rfl) (by kernel_rfl) (fun _ _ _ h => h) (Or.inl ⟨by rfl, fun w _ => by go_simp⟩) (by assumption) ?_
              (try simp only [Act.put, List.getElem_toArray, List.getElem_cons_succ, List.getElem_cons_zero, List.setIfInBounds_toArray, List.set_cons_succ, List.set_cons_zero])
              refine wpAnyH_take (i := 14) (v := .bool false) rfl (by kernel_rfl) (by kernel_rfl) (by kernel_rfl) (fun _ _ _ h => h) (Or.inl ⟨by rfl, fun w _ => by go_simp⟩) (by assumption) ?_
              (try simp only [Act.put, List.getElem_toArray, List.getElem_cons_succ, List.getElem_cons_zero, List.setIfInBounds_toArray, List.set_cons_succ, List.set_cons_zero])
              refine wpAnyH_take (i := 15) (v := .bool false) rfl (by kernel_rfl) (by kernel_rfl) (by kernel_rfl) (fun _ _ _ h => h) (Or.inl ⟨by rfl, fun w _ => by go_simp⟩) (by assumption) ?_
              (try simp only [Act.put, List.getElem_toArray, List.getElem_cons_succ, List.getElem_cons_zero, List.setIfInBounds_toArray, List.set_cons_succ, List.set_cons_zero])
              refine wpAnyH_take (i := 16) (v := .bool true) rfl (by kernel_rfl) (by kernel_rfl) (by kernel_rfl) (fun _ _ _ h => h) (Or.inl ⟨by rfl, fun w _ => by go_simp⟩) (by assumption) ?_
              (try simp only [Act.put, List.getElem_toArray, List.getElem_cons_succ, List.getElem_cons_zero, List.setIfInBounds_toArray, List.set_cons_succ, List.set_cons_zero])
              refine wpAnyH_take (i := 17) (v := .bool true) rfl (by kernel_rfl) (by kernel_rfl) (by kernel_rfl) (fun _ _ _ h => h) (Or.inl ⟨by rfl, fun w _ => by go_simp⟩) (by assumption) ?_
              (try simp only [Act.put, List.getElem_toArray, List.getElem_cons_succ, List.getElem_cons_zero, List.setIfInBounds_toArray, List.set_cons_succ, List.set_cons_zero])
              refine wpAnyH_take (i := 18) (v := .int .i64 2) rfl (by kernel_rfl) (by kernel_rfl) (by kernel_rfl) (fun _ _ _ h => h) (Or.inl ⟨by rfl, fun w _ => by go_simp⟩) (by assumption) ?_
              (try simp only [Act.put, List.getElem_toArray, List.getElem_cons_succ, List.getElem_cons_zero, List.setIfInBounds_toArray, List.set_cons_succ, List.set_cons_zero])
              refine wpAnyH_take (i := 19) (v := .bool false) rfl (by kernel_rfl) (by kernel_rfl) (by kernel_rfl) (fun _ _ _ h => h) (Or.inl ⟨by rfl, fun w _ => by go_simp⟩) (by assumption) ?_
              (try simp only [Act.put, List.getElem_toArray, List.getElem_cons_succ, List.getElem_cons_zero, List.setIfInBounds_toArray, List.set_cons_succ, List.set_cons_zero])
              refine wpAnyH_take (i := 20) (v := .bool false) rfl (by kernel_rfl) (by kernel_rfl) (by kernel_rfl) (fun _ _ _ h => h) (Or.inl ⟨by rfl, fun w _ => by go_simp⟩) (by assumption) ?_
              (try simp only [Act.put, List.getElem_toArray, List.getElem_cons_succ, List.getElem_cons_zero, List.setIfInBounds_toArray, List.set_cons_succ, List.set_cons_zero])
              refine wpAnyH_take (i := 21) (v := .agg #[.int .i64 0, .slice none 0 0]) rfl (by kernel_rfl) (by kernel_rfl) (by kernel_rfl) (fun _ _ _ h => h) (Or.inl ⟨by rfl, fun w hSw => by obtain ⟨⟨hSx, hSy⟩, _⟩ := hSw; go_simp⟩) (by assumption) ?_
              (try simp only [Act.put, List.getElem_toArray, List.getElem_cons_succ, List.getElem_cons_zero, List.setIfInBounds_toArray, List.set_cons_succ, List.set_cons_zero])
              refine wpAnyH_take (i := 22) (v := .agg #[.int .i64 0, .slice none 0 0]) rfl (by kernel_rfl) (by kernel_rfl) (by kernel_rfl) (fun _ _ _ h => h) (Or.inl ⟨by rfl, fun w _ => by go_simp⟩) (by assumption) ?_
              (try simp only [Act.put, List.getElem_toArray, List.getElem_cons_succ, List.getElem_cons_zero, List.setIfInBounds_toArray, List.set_cons_succ, List.set_cons_zero])
              refine wpAnyH_ready (rs := [23]) (by kernel_rfl) (by simp) ?_
              refine AllReadyH.cons rfl (fun K hK => ?_) AllReadyH.nil
              go_simp
              go_at_call 41; refine (is_same 0 none _ 0 _ 0 _ [] _ (Sees.nil _ _ _ _ (Nat.zero_le _) (fun _ => rfl)) (Sees.nil _ _ _ _ (Nat.zero_le _) (fun _ => rfl))).mono ?_; rintro e w' ⟨rfl, kk⟩
              refine hK.out _ _ ?_ (fun hHeld2 => ?_)
              · exact keepZ (by assumption) (by assumption)
              clear hHeld hK K
              have hHeld := hHeld2
              clear hHeld2
              (try simp only [Act.put, List.getElem_toArray, List.getElem_cons_succ, List.getElem_cons_zero, List.setIfInBounds_toArray, List.set_cons_succ, List.set_cons_zero])
              refine wpAnyH_take (i := 24) (v := .bool false) rfl (by kernel_rfl) (by kernel_rfl) (by kernel_rfl) (fun _ _ _ h => h) (Or.inl ⟨by rfl, fun w _ => by go_simp⟩) (by assumption) ?_
              (try simp only [Act.put, List.getElem_toArray, List.getElem_cons_succ, List.getElem_cons_zero, List.setIfInBounds_toArray, List.set_cons_succ, List.set_cons_zero])
              refine wpAnyH_take (i := 25) (v := .bool false) rfl (by kernel_rfl) (by kernel_rfl) (by kernel_rfl) (fun _ _ _ h => h) (Or.inl ⟨by rfl, fun w _ => by go_simp⟩) (by assumption) ?_
              (try simp only [Act.put, List.getElem_toArray, List.getElem_cons_succ, List.getElem_cons_zero, List.setIfInBounds_toArray, List.set_cons_succ, List.set_cons_zero])
              refine wpAnyH_take (i := 26) (v := .bool false) rfl (by kernel_rfl) (by kernel_rfl) (by kernel_rfl) (fun _ _ _ h => h) (Or.inl ⟨by rfl, fun w _ => by go_simp⟩) (by assumption) ?_
              (try simp only [Act.put, List.getElem_toArray, List.getElem_cons_succ, List.getElem_cons_zero, List.setIfInBounds_toArray, List.set_cons_succ, List.set_cons_zero])
              refine wpAnyH_take (i := 27) (v := .bool false) rfl (by kernel_rfl) (by kernel_rfl) (by kernel_rfl) (fun _ _ _ h => h) (Or.inl ⟨by rfl, fun w _ => by go_simp⟩) (by assumption) ?_
              (try simp only [Act.put, List.getElem_toArray, List.getElem_cons_succ, List.getElem_cons_zero, List.setIfInBounds_toArray, List.set_cons_succ, List.set_cons_zero])
              refine wpAnyH_done (by kernel_rfl) ?_ _
              go_wp2_with fail
              go_meet
              exact ⟨rfl, Lib.hid hHeld.2⟩
          case rest =>
            obtain ⟨rfl, J12⟩ := hcut
            clear Jw10
            go_upto_region 15 with fail
            have hnl9 : (nL : Int) ≤ 100 := by have := HNL.out; omega
            go_loopw [22, 112] (fun bv iv wr => ∃ (j : Nat) (b : Bool), Hid (j ≤ nL) ∧ iv = .int .i64 (j : Int) ∧ bv = .bool b ∧ Hid (b = true ↔ ((0 ≤ n ∧ n ≤ 65536) ∧ okAll n.toNat (L.take j))) ∧ Hid (JY w wr [⟨w10.heap.size, Nt, At, mt, ct⟩, ⟨w9.heap.size, Nl, Al, ml, cl⟩, ⟨w8.heap.size, Nw, Aw, mw, cw⟩, ⟨w7.heap.size, No, Ao, mo, co⟩, ⟨w6.heap.size, Nn, An, mn, cn⟩, ⟨b9, N, A9, n1, c9⟩, ⟨w.heap.size, N, A, n1, c1⟩] [⟨At, mt, ct, yt⟩, ⟨Al, ml, cl, yl⟩, ⟨Aw, mw, cw, yw⟩, ⟨Ao, mo, co, yo⟩, ⟨An, mn, cn, yn⟩, ⟨A9, n1, c9, l⟩] [⟨A9, n1 + 12, c9, l ++ mksN 12⟩, ⟨A, n1, c1, l⟩] [⟨A10, nL, c10, L⟩, ⟨A10, nL + 12, c10, L ++ mksI 12⟩, ⟨AL, nL, cL, L⟩] w4.heap.size N A n1 c1)) (fun _ iv _ => nL - (intOf iv).toNat)
            case atStart => exact ⟨0, ins, Lib.hid (Nat.zero_le _), rfl, rfl, Lib.hid (HINS.out.trans ⟨fun h => ⟨h, by rw [List.take_zero]; exact okAll_nil _⟩, And.left⟩), J12⟩
            case round =>
              obtain ⟨j, b, HJ, rfl, rfl, HBB, JR⟩ := hrel
              by_cases hlt : j < nL
              · obtain ⟨ba, oa, rfl, g1⟩ := (JR.out.ii AL nL cL L (by simp)).int hlt
                obtain ⟨x, hx⟩ : ∃ x, L.getD j 0 = x := ⟨_, rfl⟩
                rw [hx] at g1
                have HXX := Lib.hid hx
                have HLT := Lib.hid hlt
                have d5 : decide ((j : Int) < (nL : Int)) = true := by simp; omega
                have HLJ := Lib.hid (show j < L.length by rw [HL2.out]; exact hlt)
                clear hx
                cases b with
                | false =>
                  go_wp2_with fail
                  go_roundw
                  case rel => exact ⟨j + 1, false, Lib.hid HLT.out, by go_num, rfl, Lib.hid (okb_next HLJ.out HXX.out HBB.out (by rfl)), JR⟩
                  case measure => have := HLT.out; simp [intOf]; omega
                | true =>
                  by_cases h0 : 0 ≤ x
                  · have e0 : decide (0 ≤ x) = true := decide_eq_true h0
                    by_cases h1 : x < n
                    · have e1 : decide (x < n) = true := decide_eq_true h1
                      go_wp2_with fail
                      go_roundw
                      case rel => exact ⟨j + 1, true, Lib.hid HLT.out, by go_num, rfl, Lib.hid (okb_next HLJ.out HXX.out HBB.out (by rw [e0, e1]; rfl)), JR⟩
                      case measure => have := HLT.out; simp [intOf]; omega
                    · have e1 : decide (x < n) = false := decide_eq_false h1
                      go_wp2_with fail
                      go_roundw
                      case rel => exact ⟨j + 1, false, Lib.hid HLT.out, by go_num, rfl, Lib.hid (okb_next HLJ.out HXX.out HBB.out (by rw [e1]; simp)), JR⟩
                      case measure => have := HLT.out; simp [intOf]; omega
                  · have e0 : decide (0 ≤ x) = false := decide_eq_false h0
                    go_wp2_with fail
                    go_roundw
                    case rel => exact ⟨j + 1, false, Lib.hid HLT.out, by go_num, rfl, Lib.hid (okb_next HLJ.out HXX.out HBB.out (by rw [e0]; simp)), JR⟩
                    case measure => have := HLT.out; simp [intOf]; omega
              · obtain rfl : nL = j := by have := HJ.out; omega
                have d5 : decide ((nL : Int) < (nL : Int)) = false := by simp
                have HB2 : Hid (b = true ↔ ((0 ≤ n ∧ n ≤ 65536) ∧ okAll n.toNat L)) := Lib.hid (by have h := HBB.out; rw [List.take_of_length_le (by rw [HL2.out]; exact Nat.le_refl _)] at h; exact h)
                clear hlt HBB HJ
                go_upto_region 19 with fail
                go_cut [153] from 127 to 153 (fun v wx => v = .bool false ∧ Hid (JY w wx [⟨w10.heap.size, Nt, At, mt, ct⟩, ⟨w9.heap.size, Nl, Al, ml, cl⟩, ⟨w8.heap.size, Nw, Aw, mw, cw⟩, ⟨w7.heap.size, No, Ao, mo, co⟩, ⟨w6.heap.size, Nn, An, mn, cn⟩, ⟨b9, N, A9, n1, c9⟩, ⟨w.heap.size, N, A, n1, c1⟩] [⟨At, mt, ct, yt⟩, ⟨Al, ml, cl, yl⟩, ⟨Aw, mw, cw, yw⟩, ⟨Ao, mo, co, yo⟩, ⟨An, mn, cn, yn⟩, ⟨A9, n1, c9, l⟩] [⟨A9, n1 + 12, c9, l ++ mksN 12⟩, ⟨A, n1, c1, l⟩] [⟨A10, nL, c10, L⟩, ⟨A10, nL + 12, c10, L ++ mksI 12⟩, ⟨AL, nL, cL, L⟩] w4.heap.size N A n1 c1))
                case first =>
                  have q0 := (JR.out.j.b w7.heap.size No Ao mo co (by simp)).c0
                  have q1 := (JR.out.j.b w7.heap.size No Ao mo co (by simp)).c1
                  rcases HFeo.out with ⟨h, e1, e2, e3⟩ | ⟨h, e1, e2, e3, e4, e5⟩
                  · have hi : b = true := HB2.out.2 h
                    subst hi e1
                    obtain ⟨k, hk⟩ : ∃ k : Nat, n = (k : Int) := ⟨n.toNat, by omega⟩
                    have hk6 : k ≤ 65536 := by omega
                    rw [hk, Int.toNat_natCast] at e3 h
                    rw [hk] at e2
                    rw [e2] at q0
                    have HK6 := Lib.hid hk6
                    have HY := Lib.hid e3
                    have HOK := Lib.hid h.2
                    clear h e2 e3 HINS hk6 HB2
                    subst hk
                    have hS0 : C2 w7.heap.size (k : Int) Ao mo co wr ∧ JY w wr [⟨w10.heap.size, Nt, At, mt, ct⟩, ⟨w9.heap.size, Nl, Al, ml, cl⟩, ⟨w8.heap.size, Nw, Aw, mw, cw⟩, ⟨w7.heap.size, No, Ao, mo, co⟩, ⟨w6.heap.size, Nn, An, mn, cn⟩, ⟨b9, N, A9, n1, c9⟩, ⟨w.heap.size, N, A, n1, c1⟩] [⟨At, mt, ct, yt⟩, ⟨Al, ml, cl, yl⟩, ⟨Aw, mw, cw, yw⟩, ⟨Ao, mo, co, yo⟩, ⟨An, mn, cn, yn⟩, ⟨A9, n1, c9, l⟩] [⟨A9, n1 + 12, c9, l ++ mksN 12⟩, ⟨A, n1, c1, l⟩] [⟨A10, nL, c10, L⟩, ⟨A10, nL + 12, c10, L ++ mksI 12⟩, ⟨AL, nL, cL, L⟩] w4.heap.size N A n1 c1 := ⟨⟨q0, q1⟩, JR.out⟩
                    refine wp_region_held_drew (S := (fun w' => C2 w7.heap.size (k : Int) Ao mo co w' ∧ JY w w' [⟨w10.heap.size, Nt, At, mt, ct⟩, ⟨w9.heap.size, Nl, Al, ml, cl⟩, ⟨w8.heap.size, Nw, Aw, mw, cw⟩, ⟨w7.heap.size, No, Ao, mo, co⟩, ⟨w6.heap.size, Nn, An, mn, cn⟩, ⟨b9, N, A9, n1, c9⟩, ⟨w.heap.size, N, A, n1, c1⟩] [⟨At, mt, ct, yt⟩, ⟨Al, ml, cl, yl⟩, ⟨Aw, mw, cw, yw⟩, ⟨Ao, mo, co, yo⟩, ⟨An, mn, cn, yn⟩, ⟨A9, n1, c9, l⟩] [⟨A9, n1 + 12, c9, l ++ mksN 12⟩, ⟨A, n1, c1, l⟩] [⟨A10, nL, c10, L⟩, ⟨A10, nL + 12, c10, L ++ mksI 12⟩, ⟨AL, nL, cL, L⟩] w4.heap.size N A n1 c1)) (by kernel_rfl) ?_ (fun hHeld => ?_)
                    · exact keepZ0 hS0
                    refine wpAnyH_take (i := 0) (v := .bool true) rfl (by kernel_rfl) (by kernel_rfl) (by kernel_rfl) (fun _ _ _ h => h) (Or.inl ⟨by rfl, fun w _ => by go_simp⟩) (by assumption) ?_
                    (try simp only [Act.put, List.getElem_toArray, List.getElem_cons_succ, List.getElem_cons_zero, List.setIfInBounds_toArray, List.set_cons_succ, List.set_cons_zero])
                    refine wpAnyH_take (i := 1) (v := .bool true) rfl (by kernel_rfl) (by kernel_rfl) (by kernel_rfl) (fun _ _ _ h => h) (Or.inl ⟨by rfl, fun w _ => by go_simp⟩) (by assumption) ?_
                    (try simp only [Act.put, List.getElem_toArray, List.getElem_cons_succ, List.getElem_cons_zero, List.setIfInBounds_toArray, List.set_cons_succ, List.set_cons_zero])
                    refine wpAnyH_take (i := 2) (v := .int .i64 0) rfl (by kernel_rfl) (by kernel_rfl) (by kernel_rfl) (fun _ _ _ h => h) (Or.inl ⟨by rfl, fun w _ => by go_simp⟩) (by assumption) ?_
                    (try simp only [Act.put, List.getElem_toArray, List.getElem_cons_succ, List.getElem_cons_zero, List.setIfInBounds_toArray, List.set_cons_succ, List.set_cons_zero])
                    refine wpAnyH_take (i := 3) (v := .bool false) rfl (by kernel_rfl) (by kernel_rfl) (by kernel_rfl) (fun _ _ _ h => h) (Or.inl ⟨by rfl, fun w _ => by go_simp⟩) (by assumption) ?_
                    (try simp only [Act.put, List.getElem_toArray, List.getElem_cons_succ, List.getElem_cons_zero, List.setIfInBounds_toArray, List.set_cons_succ, List.set_cons_zero])
                    refine wpAnyH_take (i := 4) (v := .bool false) rfl (by kernel_rfl) (by kernel_rfl) (by kernel_rfl) (fun _ _ _ h => h) (Or.inl ⟨by rfl, fun w _ => by go_simp⟩) (by assumption) ?_
                    (try simp only [Act.put, List.getElem_toArray, List.getElem_cons_succ, List.getElem_cons_zero, List.setIfInBounds_toArray, List.set_cons_succ, List.set_cons_zero])
                    refine wpAnyH_take (i := 5) (v := .agg #[.int .i64 (k : Int), .slice Ao mo co]) rfl (by kernel_rfl) (by kernel_rfl) (by kernel_rfl) (fun _ _ _ h => h) (Or.inl ⟨by rfl, fun w hSw => by obtain ⟨⟨hSx, hSy⟩, _⟩ := hSw; go_simp⟩) (by assumption) ?_
                    (try simp only [Act.put, List.getElem_toArray, List.getElem_cons_succ, List.getElem_cons_zero, List.setIfInBounds_toArray, List.set_cons_succ, List.set_cons_zero])
                    refine wpAnyH_take (i := 6) (v := .int .i64 (k : Int)) rfl (by kernel_rfl) (by kernel_rfl) (by kernel_rfl) (fun _ _ _ h => h) (Or.inl ⟨by rfl, fun w _ => by go_simp⟩) (by assumption) ?_
                    (try simp only [Act.put, List.getElem_toArray, List.getElem_cons_succ, List.getElem_cons_zero, List.setIfInBounds_toArray, List.set_cons_succ, List.set_cons_zero])
                    refine wpAnyH_take (i := 7) (v := .slice AL nL cL) rfl (by kernel_rfl) (by kernel_rfl) (by kernel_rfl) (fun _ _ _ h => h) (Or.inl ⟨by rfl, fun w _ => by go_simp⟩) (by assumption) ?_
                    (try simp only [Act.put, List.getElem_toArray, List.getElem_cons_succ, List.getElem_cons_zero, List.setIfInBounds_toArray, List.set_cons_succ, List.set_cons_zero])
                    refine wpAnyH_ready (rs := [8]) (by kernel_rfl) (by simp) ?_
                    refine AllReadyH.cons rfl (fun K hK => ?_) AllReadyH.nil
                    go_simp
                    go_at_call 35; refine (refOf_in k AL nL cL L _ HK6.out (JY.ii (w := w) (S := [⟨w10.heap.size, Nt, At, mt, ct⟩, ⟨w9.heap.size, Nl, Al, ml, cl⟩, ⟨w8.heap.size, Nw, Aw, mw, cw⟩, ⟨w7.heap.size, No, Ao, mo, co⟩, ⟨w6.heap.size, Nn, An, mn, cn⟩, ⟨b9, N, A9, n1, c9⟩, ⟨w.heap.size, N, A, n1, c1⟩]) (R := [⟨At, mt, ct, yt⟩, ⟨Al, ml, cl, yl⟩, ⟨Aw, mw, cw, yw⟩, ⟨Ao, mo, co, yo⟩, ⟨An, mn, cn, yn⟩, ⟨A9, n1, c9, l⟩]) (E := [⟨A9, n1 + 12, c9, l ++ mksN 12⟩, ⟨A, n1, c1, l⟩]) (I := [⟨A10, nL, c10, L⟩, ⟨A10, nL + 12, c10, L ++ mksI 12⟩, ⟨AL, nL, cL, L⟩]) (bq := w4.heap.size) (N := N) (A := A) (n := n1) (c := c1) (And.right hHeld) AL nL cL L (by simp)) HOK.out).mono ?_; rintro e w' ⟨v, rfl, ⟨Aj, nj, cj, rfl, oj⟩, kk⟩; have OJ := Lib.hid (sees_own oj); clear oj
                    refine hK.out _ _ ?_ (fun hHeld2 => ?_)
                    · exact keepZ (by assumption) (by assumption)
                    clear hHeld hK K
                    have hHeld := hHeld2
                    clear hHeld2
                    (try simp only [Act.put, List.getElem_toArray, List.getElem_cons_succ, List.getElem_cons_zero, List.setIfInBounds_toArray, List.set_cons_succ, List.set_cons_zero])
                    refine wpAnyH_ready (rs := [9]) (by kernel_rfl) (by simp) ?_
                    refine AllReadyH.cons rfl (fun K hK => ?_) AllReadyH.nil
                    go_simp
                    go_at_call 41; refine (is_same (k : Int) Ao _ mo _ co _ (ofW k L) _ (by rw [← HY.out]; exact (JX.s (w := w) (S := [⟨w10.heap.size, Nt, At, mt, ct⟩, ⟨w9.heap.size, Nl, Al, ml, cl⟩, ⟨w8.heap.size, Nw, Aw, mw, cw⟩, ⟨w7.heap.size, No, Ao, mo, co⟩, ⟨w6.heap.size, Nn, An, mn, cn⟩, ⟨b9, N, A9, n1, c9⟩, ⟨w.heap.size, N, A, n1, c1⟩]) (R := [⟨At, mt, ct, yt⟩, ⟨Al, ml, cl, yl⟩, ⟨Aw, mw, cw, yw⟩, ⟨Ao, mo, co, yo⟩, ⟨An, mn, cn, yn⟩, ⟨A9, n1, c9, l⟩]) (E := [⟨A9, n1 + 12, c9, l ++ mksN 12⟩, ⟨A, n1, c1, l⟩]) (JY.j (And.right hHeld)) Ao mo co yo (by simp))) OJ.out).mono ?_; rintro e w' ⟨rfl, kk⟩
                    refine hK.out _ _ ?_ (fun hHeld2 => ?_)
                    · exact keepZ (by assumption) (by assumption)
                    clear hHeld hK K
                    have hHeld := hHeld2
                    clear hHeld2
                    (try simp only [Act.put, List.getElem_toArray, List.getElem_cons_succ, List.getElem_cons_zero, List.setIfInBounds_toArray, List.set_cons_succ, List.set_cons_zero])
                    refine wpAnyH_take (i := 10) (v := .bool false) rfl (by kernel_rfl) (by kernel_rfl) (by kernel_rfl) (fun _ _ _ h => h) (Or.inl ⟨by rfl, fun w _ => by go_simp⟩) (by assumption) ?_
                    (try simp only [Act.put, List.getElem_toArray, List.getElem_cons_succ, List.getElem_cons_zero, List.setIfInBounds_toArray, List.set_cons_succ, List.set_cons_zero])
                    refine wpAnyH_take (i := 11) (v := .bool false) rfl (by kernel_rfl) (by kernel_rfl) (by kernel_rfl) (fun _ _ _ h => h) (Or.inl ⟨by rfl, fun w _ => by go_simp⟩) (by assumption) ?_
                    (try simp only [Act.put, List.getElem_toArray, List.getElem_cons_succ, List.getElem_cons_zero, List.setIfInBounds_toArray, List.set_cons_succ, List.set_cons_zero])
                    refine wpAnyH_take (i := 12) (v := .bool false) rfl (by kernel_rfl) (by kernel_rfl) (by kernel_rfl) (fun _ _ _ h => h) (Or.inl ⟨by rfl, fun w _ => by go_simp⟩) (by assumption) ?_
                    (try simp only [Act.put, List.getElem_toArray, List.getElem_cons_succ, List.getElem_cons_zero, List.setIfInBounds_toArray, List.set_cons_succ, List.set_cons_zero])
                    refine wpAnyH_take (i := 13) (v := .bool false) rfl (by kernel_rfl) (by kernel_rfl) (by kernel_rfl) (fun _ _ _ h => h) (Or.inl ⟨by rfl, fun w _ => by go_simp⟩) (by assumption) ?_
                    (try simp only [Act.put, List.getElem_toArray, List.getElem_cons_succ, List.getElem_cons_zero, List.setIfInBounds_toArray, List.set_cons_succ, List.set_cons_zero])
                    refine wpAnyH_take (i := 14) (v := .bool true) rfl (by kernel_rfl) (by kernel_rfl) (by kernel_rfl) (fun _ _ _ h => h) (Or.inl ⟨by rfl, fun w _ => by go_simp⟩) (by assumption) ?_
                    (try simp only [Act.put, List.getElem_toArray, List.getElem_cons_succ, List.getElem_cons_zero, List.setIfInBounds_toArray, List.set_cons_succ, List.set_cons_zero])
                    refine wpAnyH_take (i := 15) (v := .bool false) rfl (by kernel_rfl) (by kernel_rfl) (by kernel_rfl) (fun _ _ _ h => h) (Or.inl ⟨by rfl, fun w _ => by go_simp⟩) (by assumption) ?_
                    (try simp only [Act.put, List.getElem_toArray, List.getElem_cons_succ, List.getElem_cons_zero, List.setIfInBounds_toArray, List.set_cons_succ, List.set_cons_zero])
                    refine wpAnyH_take (i := 16) (v := .bool false) rfl (by kernel_rfl) (by kernel_rfl) (by kernel_rfl) (fun _ _ _ h => h) (Or.inl ⟨by rfl, fun w _ => by go_simp⟩) (by assumption) ?_
                    (try simp only [Act.put, List.getElem_toArray, List.getElem_cons_succ, List.getElem_cons_zero, List.setIfInBounds_toArray, List.set_cons_succ, List.set_cons_zero])
                    refine wpAnyH_take (i := 17) (v := undef) rfl (by kernel_rfl) (by kernel_rfl) (by kernel_rfl) (fun _ _ _ h => h) (Or.inr ⟨by rfl, rfl⟩) (by assumption) ?_
                    (try simp only [Act.put, List.getElem_toArray, List.getElem_cons_succ, List.getElem_cons_zero, List.setIfInBounds_toArray, List.set_cons_succ, List.set_cons_zero])
                    refine wpAnyH_take (i := 18) (v := undef) rfl (by kernel_rfl) (by kernel_rfl) (by kernel_rfl) (fun _ _ _ h => h) (Or.inr ⟨by rfl, rfl⟩) (by assumption) ?_
                    (try simp only [Act.put, List.getElem_toArray, List.getElem_cons_succ, List.getElem_cons_zero, List.setIfInBounds_toArray, List.set_cons_succ, List.set_cons_zero])
                    refine wpAnyH_take (i := 19) (v := undef) rfl (by kernel_rfl) (by kernel_rfl) (by kernel_rfl) (fun _ _ _ h => h) (Or.inr ⟨by rfl, rfl⟩) (by assumption) ?_
                    (try simp only [Act.put, List.getElem_toArray, List.getElem_cons_succ, List.getElem_cons_zero, List.setIfInBounds_toArray, List.set_cons_succ, List.set_cons_zero])
                    refine wpAnyH_take (i := 20) (v := undef) rfl (by kernel_rfl) (by kernel_rfl) (by kernel_rfl) (fun _ _ _ h => h) (Or.inr ⟨by rfl, rfl⟩) (by assumption) ?_
                    (try simp only [Act.put, List.getElem_toArray, List.getElem_cons_succ, List.getElem_cons_zero, List.setIfInBounds_toArray, List.set_cons_succ, List.set_cons_zero])
                    refine wpAnyH_take (i := 21) (v := undef) rfl (by kernel_rfl) (by kernel_rfl) (by kernel_rfl) (fun _ _ _ h => h) (Or.inr ⟨by rfl, rfl⟩) (by assumption) ?_
                    (try simp only [Act.put, List.getElem_toArray, List.getElem_cons_succ, List.getElem_cons_zero, List.setIfInBounds_toArray, List.set_cons_succ, List.set_cons_zero])
                    refine wpAnyH_take (i := 22) (v := undef) rfl (by kernel_rfl) (by kernel_rfl) (by kernel_rfl) (fun _ _ _ h => h) (Or.inr ⟨by rfl, rfl⟩) (by assumption) ?_
                    (try simp only [Act.put, List.getElem_toArray, List.getElem_cons_succ, List.getElem_cons_zero, List.setIfInBounds_toArray, List.set_cons_succ, List.set_cons_zero])
                    refine wpAnyH_take (i := 23) (v := undef) rfl (by kernel_rfl) (by kernel_rfl) (by kernel_rfl) (fun _ _ _ h => h) (Or.inr ⟨by rfl, rfl⟩) (by assumption) ?_
                    (try simp only [Act.put, List.getElem_toArray, List.getElem_cons_succ, List.getElem_cons_zero, List.setIfInBounds_toArray, List.set_cons_succ, List.set_cons_zero])
                    refine wpAnyH_take (i := 24) (v := undef) rfl (by kernel_rfl) (by kernel_rfl) (by kernel_rfl) (fun _ _ _ h => h) (Or.inr ⟨by rfl, rfl⟩) (by assumption) ?_
                    (try simp only [Act.put, List.getElem_toArray, List.getElem_cons_succ, List.getElem_cons_zero, List.setIfInBounds_toArray, List.set_cons_succ, List.set_cons_zero])
                    refine wpAnyH_take (i := 25) (v := .bool false) rfl (by kernel_rfl) (by kernel_rfl) (by kernel_rfl) (fun _ _ _ h => h) (Or.inl ⟨by rfl, fun w _ => by go_simp⟩) (by assumption) ?_
                    (try simp only [Act.put, List.getElem_toArray, List.getElem_cons_succ, List.getElem_cons_zero, List.setIfInBounds_toArray, List.set_cons_succ, List.set_cons_zero])
                    refine wpAnyH_take (i := 26) (v := .bool false) rfl (by kernel_rfl) (by kernel_rfl) (by kernel_rfl) (fun _ _ _ h => h) (Or.inl ⟨by rfl, fun w _ => by go_simp⟩) (by assumption) ?_
                    (try simp only [Act.put, List.getElem_toArray, List.getElem_cons_succ, List.getElem_cons_zero, List.setIfInBounds_toArray, List.set_cons_succ, List.set_cons_zero])
                    refine wpAnyH_done (by kernel_rfl) ?_ _
                    go_wp2_with fail
                    go_meet
                    exact ⟨rfl, Lib.hid hHeld.2⟩
                  · have hi : b = false := by cases b with | false => rfl | true => exact absurd (HB2.out.1 rfl) h
                    subst hi e1
                    rw [e2] at q0
                    rw [e3, e4, e5] at q1
                    clear h e2 e3 e4 e5 HINS HB2
                    have hS0 : C2 w7.heap.size 0 none 0 0 wr ∧ JY w wr [⟨w10.heap.size, Nt, At, mt, ct⟩, ⟨w9.heap.size, Nl, Al, ml, cl⟩, ⟨w8.heap.size, Nw, Aw, mw, cw⟩, ⟨w7.heap.size, No, Ao, mo, co⟩, ⟨w6.heap.size, Nn, An, mn, cn⟩, ⟨b9, N, A9, n1, c9⟩, ⟨w.heap.size, N, A, n1, c1⟩] [⟨At, mt, ct, yt⟩, ⟨Al, ml, cl, yl⟩, ⟨Aw, mw, cw, yw⟩, ⟨Ao, mo, co, yo⟩, ⟨An, mn, cn, yn⟩, ⟨A9, n1, c9, l⟩] [⟨A9, n1 + 12, c9, l ++ mksN 12⟩, ⟨A, n1, c1, l⟩] [⟨A10, nL, c10, L⟩, ⟨A10, nL + 12, c10, L ++ mksI 12⟩, ⟨AL, nL, cL, L⟩] w4.heap.size N A n1 c1 := ⟨⟨q0, q1⟩, JR.out⟩
                    refine wp_region_held_drew (S := (fun w' => C2 w7.heap.size 0 none 0 0 w' ∧ JY w w' [⟨w10.heap.size, Nt, At, mt, ct⟩, ⟨w9.heap.size, Nl, Al, ml, cl⟩, ⟨w8.heap.size, Nw, Aw, mw, cw⟩, ⟨w7.heap.size, No, Ao, mo, co⟩, ⟨w6.heap.size, Nn, An, mn, cn⟩, ⟨b9, N, A9, n1, c9⟩, ⟨w.heap.size, N, A, n1, c1⟩] [⟨At, mt, ct, yt⟩, ⟨Al, ml, cl, yl⟩, ⟨Aw, mw, cw, yw⟩, ⟨Ao, mo, co, yo⟩, ⟨An, mn, cn, yn⟩, ⟨A9, n1, c9, l⟩] [⟨A9, n1 + 12, c9, l ++ mksN 12⟩, ⟨A, n1, c1, l⟩] [⟨A10, nL, c10, L⟩, ⟨A10, nL + 12, c10, L ++ mksI 12⟩, ⟨AL, nL, cL, L⟩] w4.heap.size N A n1 c1)) (by kernel_rfl) ?_ (fun hHeld => ?_)
                    · exact keepZ0 hS0
                    refine wpAnyH_take (i := 0) (v := .bool false) rfl (by kernel_rfl) (by kernel_rfl) (by kernel_rfl) (fun _ _ _ h => h) (Or.inl ⟨by rfl, fun w _ => by go_simp⟩) (by assumption) ?_
                    (try simp only [Act.put, List.getElem_toArray, List.getElem_cons_succ, List.getElem_cons_zero, List.setIfInBounds_toArray, List.set_cons_succ, List.set_cons_zero])
                    refine wpAnyH_take (i := 1) (v := .bool false) rfl (by kernel_rfl) (by kernel_rfl) (by kernel_rfl) (fun _ _ _ h => h) (Or.inl ⟨by rfl, fun w _ => by go_simp⟩) (by assumption) ?_
                    (try simp only [Act.put, List.getElem_toArray, List.getElem_cons_succ, List.getElem_cons_zero, List.setIfInBounds_toArray, List.set_cons_succ, List.set_cons_zero])
                    refine wpAnyH_take (i := 2) (v := undef) rfl (by kernel_rfl) (by kernel_rfl) (by kernel_rfl) (fun _ _ _ h => h) (Or.inr ⟨by rfl, rfl⟩) (by assumption) ?_
                    (try simp only [Act.put, List.getElem_toArray, List.getElem_cons_succ, List.getElem_cons_zero, List.setIfInBounds_toArray, List.set_cons_succ, List.set_cons_zero])
                    refine wpAnyH_take (i := 3) (v := undef) rfl (by kernel_rfl) (by kernel_rfl) (by kernel_rfl) (fun _ _ _ h => h) (Or.inr ⟨by rfl, rfl⟩) (by assumption) ?_
                    (try simp only [Act.put, List.getElem_toArray, List.getElem_cons_succ, List.getElem_cons_zero, List.setIfInBounds_toArray, List.set_cons_succ, List.set_cons_zero])
                    refine wpAnyH_take (i := 4) (v := undef) rfl (by kernel_rfl) (by kernel_rfl) (by kernel_rfl) (fun _ _ _ h => h) (Or.inr ⟨by rfl, rfl⟩) (by assumption) ?_
                    (try simp only [Act.put, List.getElem_toArray, List.getElem_cons_succ, List.getElem_cons_zero, List.setIfInBounds_toArray, List.set_cons_succ, List.set_cons_zero])
                    refine wpAnyH_take (i := 5) (v := undef) rfl (by kernel_rfl) (by kernel_rfl) (by kernel_rfl) (fun _ _ _ h => h) (Or.inr ⟨by rfl, rfl⟩) (by assumption) ?_
                    (try simp only [Act.put, List.getElem_toArray, List.getElem_cons_succ, List.getElem_cons_zero, List.setIfInBounds_toArray, List.set_cons_succ, List.set_cons_zero])
                    refine wpAnyH_take (i := 6) (v := undef) rfl (by kernel_rfl) (by kernel_rfl) (by kernel_rfl) (fun _ _ _ h => h) (Or.inr ⟨by rfl, rfl⟩) (by assumption) ?_
                    (try simp only [Act.put, List.getElem_toArray, List.getElem_cons_succ, List.getElem_cons_zero, List.setIfInBounds_toArray, List.set_cons_succ, List.set_cons_zero])
                    refine wpAnyH_take (i := 7) (v := undef) rfl (by kernel_rfl) (by kernel_rfl) (by kernel_rfl) (fun _ _ _ h => h) (Or.inr ⟨by rfl, rfl⟩) (by assumption) ?_
                    (try simp only [Act.put, List.getElem_toArray, List.getElem_cons_succ, List.getElem_cons_zero, List.setIfInBounds_toArray, List.set_cons_succ, List.set_cons_zero])
                    refine wpAnyH_take (i := 8) (v := undef) rfl (by kernel_rfl) (by kernel_rfl) (by kernel_rfl) (fun _ _ _ h => h) (Or.inr ⟨by rfl, rfl⟩) (by assumption) ?_
                    (try simp only [Act.put, List.getElem_toArray, List.getElem_cons_succ, List.getElem_cons_zero, List.setIfInBounds_toArray, List.set_cons_succ, List.set_cons_zero])
                    refine wpAnyH_take (i := 9) (v := undef) rfl (by kernel_rfl) (by kernel_rfl) (by kernel_rfl) (fun _ _ _ h => h) (Or.inr ⟨by rfl, rfl⟩) (by assumption) ?_
                    (try simp only [Act.put, List.getElem_toArray, List.getElem_cons_succ, List.getElem_cons_zero, List.setIfInBounds_toArray, List.set_cons_succ, List.set_cons_zero])
                    refine wpAnyH_take (i := 10) (v := undef) rfl (by kernel_rfl) (by kernel_rfl) (by kernel_rfl) (fun _ _ _ h => h) (Or.inr ⟨by rfl, rfl⟩) (by assumption) ?_
                    (try simp only [Act.put, List.getElem_toArray, List.getElem_cons_succ, List.getElem_cons_zero, List.setIfInBounds_toArray, List.set_cons_succ, List.set_cons_zero])
                    refine wpAnyH_take (i := 11) (v := undef) rfl (by kernel_rfl) (by kernel_rfl) (by kernel_rfl) (fun _ _ _ h => h) (Or.inr ⟨by rfl, rfl⟩) (by assumption) ?_
                    (try simp only [Act.put, List.getElem_toArray, List.getElem_cons_succ, List.getElem_cons_zero, List.setIfInBounds_toArray, List.set_cons_succ, List.set_cons_zero])
                    refine wpAnyH_take (i := 12) (v := .bool false) rfl (by kernel_rfl) (by kernel_rfl) (by kernel_rfl) (fun _ _ _ h => h) (Or.inl ⟨by rfl, fun w _ => by go_simp⟩) (by assumption) ?_
                    (try simp only [Act.put, List.getElem_toArray, List.getElem_cons_succ, List.getElem_cons_zero, List.setIfInBounds_toArray, List.set_cons_succ, List.set_cons_zero])
                    refine wpAnyH_take (i := 13) (v := .bool false) rfl (by kernel_rfl) (by kernel_rfl) (by kernel_rfl) (fun _ _ _ h => h) (Or.inl ⟨by rfl, fun w _ => by go_simp⟩) (by assumption) ?_
                    (try simp only [Act.put, List.getElem_toArray, List.getElem_cons_succ, List.getElem_cons_zero, List.setIfInBounds_toArray, List.set_cons_succ, List.set_cons_zero])
                    refine wpAnyH_take (i := 14) (v := .bool false) rfl (by kernel_rfl) (by kernel_rfl) (by kernel_rfl) (fun _ _ _ h => h) (Or.inl ⟨by rfl, fun w _ => by go_simp⟩) (by assumption) ?_
                    (try simp only [Act.put, List.getElem_toArray, List.getElem_cons_succ, List.getElem_cons_zero, List.setIfInBounds_toArray, List.set_cons_succ, List.set_cons_zero])
                    refine wpAnyH_take (i := 15) (v := .bool true) rfl (by kernel_rfl) (by kernel_rfl) (by kernel_rfl) (fun _ _ _ h => h) (Or.inl ⟨by rfl, fun w _ => by go_simp⟩) (by assumption) ?_
                    (try simp only [Act.put, List.getElem_toArray, List.getElem_cons_succ, List.getElem_cons_zero, List.setIfInBounds_toArray, List.set_cons_succ, List.set_cons_zero])
                    refine wpAnyH_take (i := 16) (v := .bool true) rfl (by kernel_rfl) (by kernel_rfl) (by kernel_rfl) (fun _ _ _ h => h) (Or.inl ⟨by rfl, fun w _ => by go_simp⟩) (by assumption) ?_
                    (try simp only [Act.put, List.getElem_toArray, List.getElem_cons_succ, List.getElem_cons_zero, List.setIfInBounds_toArray, List.set_cons_succ, List.set_cons_zero])
                    refine wpAnyH_take (i := 17) (v := .int .i64 2) rfl (by kernel_rfl) (by kernel_rfl) (by kernel_rfl) (fun _ _ _ h => h) (Or.inl ⟨by rfl, fun w _ => by go_simp⟩) (by assumption) ?_
                    (try simp only [Act.put, List.getElem_toArray, List.getElem_cons_succ, List.getElem_cons_zero, List.setIfInBounds_toArray, List.set_cons_succ, List.set_cons_zero])
                    refine wpAnyH_take (i := 18) (v := .bool false) rfl (by kernel_rfl) (by kernel_rfl) (by kernel_rfl) (fun _ _ _ h => h) (Or.inl ⟨by rfl, fun w _ => by go_simp⟩) (by assumption) ?_
                    (try simp only [Act.put, List.getElem_toArray, List.getElem_cons_succ, List.getElem_cons_zero, List.setIfInBounds_toArray, List.set_cons_succ, List.set_cons_zero])
                    refine wpAnyH_take (i := 19) (v := .bool false) rfl (by kernel_rfl) (by kernel_rfl) (by kernel_rfl) (fun _ _ _ h => h) (Or.inl ⟨by rfl, fun w _ => by go_simp⟩) (by assumption) ?_
                    (try simp only [Act.put, List.getElem_toArray, List.getElem_cons_succ, List.getElem_cons_zero, List.setIfInBounds_toArray, List.set_cons_succ, List.set_cons_zero])
                    refine wpAnyH_take (i := 20) (v := .agg #[.int .i64 0, .slice none 0 0]) rfl (by kernel_rfl) (by kernel_rfl) (by kernel_rfl) (fun _ _ _ h => h) (Or.inl ⟨by rfl, fun w hSw => by obtain ⟨⟨hSx, hSy⟩, _⟩ := hSw; go_simp⟩) (by assumption) ?_
                    (try simp only [Act.put, List.getElem_toArray, List.getElem_cons_succ, List.getElem_cons_zero, List.setIfInBounds_toArray, List.set_cons_succ, List.set_cons_zero])
                    refine wpAnyH_take (i := 21) (v := .agg #[.int .i64 0, .slice none 0 0]) rfl (by kernel_rfl) (by kernel_rfl) (by kernel_rfl) (fun _ _ _ h => h) (Or.inl ⟨by rfl, fun w _ => by go_simp⟩) (by assumption) ?_
                    (try simp only [Act.put, List.getElem_toArray, List.getElem_cons_succ, List.getElem_cons_zero, List.setIfInBounds_toArray, List.set_cons_succ, List.set_cons_zero])
                    refine wpAnyH_ready (rs := [22]) (by kernel_rfl) (by simp) ?_
                    refine AllReadyH.cons rfl (fun K hK => ?_) AllReadyH.nil
                    go_simp
                    go_at_call 41; refine (is_same 0 none _ 0 _ 0 _ [] _ (Sees.nil _ _ _ _ (Nat.zero_le _) (fun _ => rfl)) (Sees.nil _ _ _ _ (Nat.zero_le _) (fun _ => rfl))).mono ?_; rintro e w' ⟨rfl, kk⟩
                    refine hK.out _ _ ?_ (fun hHeld2 => ?_)
                    · exact keepZ (by assumption) (by assumption)
                    clear hHeld hK K
                    have hHeld := hHeld2
                    clear hHeld2
                    (try simp only [Act.put, List.getElem_toArray, List.getElem_cons_succ, List.getElem_cons_zero, List.setIfInBounds_toArray, List.set_cons_succ, List.set_cons_zero])
                    refine wpAnyH_take (i := 23) (v := .bool false) rfl (by kernel_rfl) (by kernel_rfl) (by kernel_rfl) (fun _ _ _ h => h) (Or.inl ⟨by rfl, fun w _ => by go_simp⟩) (by assumption) ?_
                    (try simp only [Act.put, List.getElem_toArray, List.getElem_cons_succ, List.getElem_cons_zero, List.setIfInBounds_toArray, List.set_cons_succ, List.set_cons_zero])
                    refine wpAnyH_take (i := 24) (v := .bool false) rfl (by kernel_rfl) (by kernel_rfl) (by kernel_rfl) (fun _ _ _ h => h) (Or.inl ⟨by rfl, fun w _ => by go_simp⟩) (by assumption) ?_
                    (try simp only [Act.put, List.getElem_toArray, List.getElem_cons_succ, List.getElem_cons_zero, List.setIfInBounds_toArray, List.set_cons_succ, List.set_cons_zero])
                    refine wpAnyH_take (i := 25) (v := .bool false) rfl (by kernel_rfl) (by kernel_rfl) (by kernel_rfl) (fun _ _ _ h => h) (Or.inl ⟨by rfl, fun w _ => by go_simp⟩) (by assumption) ?_
                    (try simp only [Act.put, List.getElem_toArray, List.getElem_cons_succ, List.getElem_cons_zero, List.setIfInBounds_toArray, List.set_cons_succ, List.set_cons_zero])
                    refine wpAnyH_take (i := 26) (v := .bool false) rfl (by kernel_rfl) (by kernel_rfl) (by kernel_rfl) (fun _ _ _ h => h) (Or.inl ⟨by rfl, fun w _ => by go_simp⟩) (by assumption) ?_
                    (try simp only [Act.put, List.getElem_toArray, List.getElem_cons_succ, List.getElem_cons_zero, List.setIfInBounds_toArray, List.set_cons_succ, List.set_cons_zero])
                    refine wpAnyH_done (by kernel_rfl) ?_ _
                    go_wp2_with fail
                    go_meet
                    exact ⟨rfl, Lib.hid hHeld.2⟩
                case rest =>
                  obtain ⟨rfl, J19⟩ := hcut
                  clear JR J12 HINS HB2
                  have f0 := ((J19.out.j.b b9 N A9 n1 c9 (by simp))).c1
                  have f1 := ((J19.out.j.b w.heap.size N A n1 c1 (by simp))).c1
                  by_cases hR : RightW N l
                  · have RP := Lib.hid hR
                    obtain ⟨M, hM⟩ : ∃ M : Nat, N = (M : Int) := ⟨N.toNat, by have := hR.1; omega⟩
                    subst hM
                    obtain ⟨e1T, e2T, e3T⟩ : et = 0 ∧ Nt = (M : Int) ∧ yt = notW M l := by rcases HFet.out with ⟨h, e1, e2, e3⟩ | ⟨h, _⟩; exact ⟨e1, e2, by rw [Int.toNat_natCast] at e3; exact e3⟩; exact absurd RP.out h
                    subst e1T
                    have ZT := Lib.hid (And.intro e2T e3T)
                    have H65 := Lib.hid (right_le RP.out)
                    clear hR e2T e3T HFet
                    go_upto_region 25 with (first
                      | (go_at_call 40; have _q := J21; refine (refRight_any (M : Int) A n1 c1 l _ (J21.out.j.e A n1 c1 l (by simp)) hw).mono ?_; rw [show decide (RightW (M : Int) l) = true from decide_eq_true RP.out]; rintro e w22 ⟨rfl, k22⟩; have J22 := Lib.hid (J21.out.step k22); clear k22)
                      | (go_at_call 59; have _q := J20; refine (KeptInts_any A10 AL nL c10 cL L _ (J20.out.ii A10 (nL + 12) c10 (L ++ mksI 12) (by simp)) (J20.out.ii AL nL cL L (by simp)) (by have := HNL.out; omega)).mono ?_; rintro e w21 ⟨rfl, k21⟩; have J21 := Lib.hid (J20.out.step k21); have m0 := J21.out.q.c0; have m1 := J21.out.q.c1; clear k21)
                      | (go_at_call 39; refine (KeptNums_any A9 A n1 c9 c1 l _ (J19.out.j.e A9 (n1 + 12) c9 (l ++ mksN 12) (by simp)) (J19.out.j.e A n1 c1 l (by simp)) (by have := HN1.out; omega)).mono ?_; rintro e w20 ⟨rfl, k20⟩; have J20 := Lib.hid (J19.out.step k20); clear k20))
                    have t0 := (J22.out.j.b w10.heap.size Nt At mt ct (by simp)).c0
                    have t1 := (J22.out.j.b w10.heap.size Nt At mt ct (by simp)).c1
                    rw [ZT.out.1] at t0
                    have HJN := Lib.hid (join_not hw RP.out)
                    have HYT := Lib.hid ZT.out.2
                    have hS0 : (C2 w10.heap.size (M : Int) At mt ct w22 ∧ C2 w.heap.size (M : Int) A n1 c1 w22 ∧ C2 b9 (M : Int) A9 n1 c9 w22) ∧ JY w w22 [⟨w10.heap.size, Nt, At, mt, ct⟩, ⟨w9.heap.size, Nl, Al, ml, cl⟩, ⟨w8.heap.size, Nw, Aw, mw, cw⟩, ⟨w7.heap.size, No, Ao, mo, co⟩, ⟨w6.heap.size, Nn, An, mn, cn⟩, ⟨b9, (M : Int), A9, n1, c9⟩, ⟨w.heap.size, (M : Int), A, n1, c1⟩] [⟨At, mt, ct, yt⟩, ⟨Al, ml, cl, yl⟩, ⟨Aw, mw, cw, yw⟩, ⟨Ao, mo, co, yo⟩, ⟨An, mn, cn, yn⟩, ⟨A9, n1, c9, l⟩] [⟨A9, n1 + 12, c9, l ++ mksN 12⟩, ⟨A, n1, c1, l⟩] [⟨A10, nL, c10, L⟩, ⟨A10, nL + 12, c10, L ++ mksI 12⟩, ⟨AL, nL, cL, L⟩] w4.heap.size (M : Int) A n1 c1 := ⟨⟨⟨t0, t1⟩, C2.of (J22.out.j.b w.heap.size (M : Int) A n1 c1 (by simp)), C2.of (J22.out.j.b b9 (M : Int) A9 n1 c9 (by simp))⟩, J22.out⟩
                    go_region_held3 (fun w' => (C2 w10.heap.size (M : Int) At mt ct w' ∧ C2 w.heap.size (M : Int) A n1 c1 w' ∧ C2 b9 (M : Int) A9 n1 c9 w') ∧ JY w w' [⟨w10.heap.size, Nt, At, mt, ct⟩, ⟨w9.heap.size, Nl, Al, ml, cl⟩, ⟨w8.heap.size, Nw, Aw, mw, cw⟩, ⟨w7.heap.size, No, Ao, mo, co⟩, ⟨w6.heap.size, Nn, An, mn, cn⟩, ⟨b9, (M : Int), A9, n1, c9⟩, ⟨w.heap.size, (M : Int), A, n1, c1⟩] [⟨At, mt, ct, yt⟩, ⟨Al, ml, cl, yl⟩, ⟨Aw, mw, cw, yw⟩, ⟨Ao, mo, co, yo⟩, ⟨An, mn, cn, yn⟩, ⟨A9, n1, c9, l⟩] [⟨A9, n1 + 12, c9, l ++ mksN 12⟩, ⟨A, n1, c1, l⟩] [⟨A10, nL, c10, L⟩, ⟨A10, nL + 12, c10, L ++ mksI 12⟩, ⟨AL, nL, cL, L⟩] w4.heap.size (M : Int) A n1 c1) (first | exact keepY0 hS0 | exact keepY (by assumption) (by assumption) | assumption) (first
                      | (go_at_call 41; refine (is_same (M : Int) At _ mt _ ct _ (notW M l) _ (by rw [← HYT.out]; exact (JX.s (w := w) (S := [⟨w10.heap.size, Nt, At, mt, ct⟩, ⟨w9.heap.size, Nl, Al, ml, cl⟩, ⟨w8.heap.size, Nw, Aw, mw, cw⟩, ⟨w7.heap.size, No, Ao, mo, co⟩, ⟨w6.heap.size, Nn, An, mn, cn⟩, ⟨b9, (M : Int), A9, n1, c9⟩, ⟨w.heap.size, (M : Int), A, n1, c1⟩]) (R := [⟨At, mt, ct, yt⟩, ⟨Al, ml, cl, yl⟩, ⟨Aw, mw, cw, yw⟩, ⟨Ao, mo, co, yo⟩, ⟨An, mn, cn, yn⟩, ⟨A9, n1, c9, l⟩]) (E := [⟨A9, n1 + 12, c9, l ++ mksN 12⟩, ⟨A, n1, c1, l⟩]) (JY.j (And.right (by assumption : _ ∧ JY w _ [⟨w10.heap.size, Nt, At, mt, ct⟩, ⟨w9.heap.size, Nl, Al, ml, cl⟩, ⟨w8.heap.size, Nw, Aw, mw, cw⟩, ⟨w7.heap.size, No, Ao, mo, co⟩, ⟨w6.heap.size, Nn, An, mn, cn⟩, ⟨b9, (M : Int), A9, n1, c9⟩, ⟨w.heap.size, (M : Int), A, n1, c1⟩] [⟨At, mt, ct, yt⟩, ⟨Al, ml, cl, yl⟩, ⟨Aw, mw, cw, yw⟩, ⟨Ao, mo, co, yo⟩, ⟨An, mn, cn, yn⟩, ⟨A9, n1, c9, l⟩] [⟨A9, n1 + 12, c9, l ++ mksN 12⟩, ⟨A, n1, c1, l⟩] [⟨A10, nL, c10, L⟩, ⟨A10, nL + 12, c10, L ++ mksI 12⟩, ⟨AL, nL, cL, L⟩] w4.heap.size (M : Int) A n1 c1))) At mt ct yt (by simp))) (by rw [← HJN.out]; exact OJ.out)).mono ?_; rintro e w' ⟨rfl, kk⟩)
                      | (go_at_call 36; refine (refJoin_any M A none n1 c1 0 0 l [] _ _ _ _ _ H65.out (JX.e (w := w) (S := [⟨w10.heap.size, Nt, At, mt, ct⟩, ⟨w9.heap.size, Nl, Al, ml, cl⟩, ⟨w8.heap.size, Nw, Aw, mw, cw⟩, ⟨w7.heap.size, No, Ao, mo, co⟩, ⟨w6.heap.size, Nn, An, mn, cn⟩, ⟨b9, (M : Int), A9, n1, c9⟩, ⟨w.heap.size, (M : Int), A, n1, c1⟩]) (R := [⟨At, mt, ct, yt⟩, ⟨Al, ml, cl, yl⟩, ⟨Aw, mw, cw, yw⟩, ⟨Ao, mo, co, yo⟩, ⟨An, mn, cn, yn⟩, ⟨A9, n1, c9, l⟩]) (E := [⟨A9, n1 + 12, c9, l ++ mksN 12⟩, ⟨A, n1, c1, l⟩]) (JY.j (And.right (by assumption : _ ∧ JY w _ [⟨w10.heap.size, Nt, At, mt, ct⟩, ⟨w9.heap.size, Nl, Al, ml, cl⟩, ⟨w8.heap.size, Nw, Aw, mw, cw⟩, ⟨w7.heap.size, No, Ao, mo, co⟩, ⟨w6.heap.size, Nn, An, mn, cn⟩, ⟨b9, (M : Int), A9, n1, c9⟩, ⟨w.heap.size, (M : Int), A, n1, c1⟩] [⟨At, mt, ct, yt⟩, ⟨Al, ml, cl, yl⟩, ⟨Aw, mw, cw, yw⟩, ⟨Ao, mo, co, yo⟩, ⟨An, mn, cn, yn⟩, ⟨A9, n1, c9, l⟩] [⟨A9, n1 + 12, c9, l ++ mksN 12⟩, ⟨A, n1, c1, l⟩] [⟨A10, nL, c10, L⟩, ⟨A10, nL + 12, c10, L ++ mksI 12⟩, ⟨AL, nL, cL, L⟩] w4.heap.size (M : Int) A n1 c1))) A n1 c1 l (by simp)) (Sees.nil _ _ _ _ (Nat.zero_le _) (fun _ => rfl)) hw (fun x hx => by cases hx)).mono ?_; rintro e w' ⟨v, rfl, ⟨Aj, nj, cj, rfl, oj⟩, kk⟩; have OJ := Lib.hid (sees_own oj); clear oj))
                    rename_i hH
                    have J25 := Lib.hid hH.2
                    clear hH hS0 t0 t1
                    have g0 := (J25.out.j.b w.heap.size (M : Int) A n1 c1 (by simp)).c0
                    by_cases hi : 0 ≤ i ∧ i < (M : Int)
                    · obtain ⟨ik, hik⟩ : ∃ ik : Nat, i = (ik : Int) := ⟨i.toNat, by omega⟩
                      subst hik
                      have hik2 : ik < M := by omega
                      have d8 : decide ((ik : Int) < 0) = false := by simp
                      have d9 : decide ((M : Int) ≤ (ik : Int)) = false := by simp; omega
                      have d9b : decide (M ≤ ik) = false := by simp; omega
                      have HIK := Lib.hid hik2
                      obtain ⟨e1W, e2W, e3W⟩ : ew = 0 ∧ Nw = (M : Int) ∧ yw = inB l ik := by rcases HFew.out with ⟨h, e1, e2, e3⟩ | ⟨h, _⟩; exact ⟨e1, e2, by rw [Int.toNat_natCast] at e3; exact e3⟩; exact absurd ⟨RP.out, hi⟩ h
                      obtain ⟨e1L, e2L, e3L⟩ : el = 0 ∧ Nl = (M : Int) ∧ yl = offB l ik := by rcases HFel.out with ⟨h, e1, e2, e3⟩ | ⟨h, _⟩; exact ⟨e1, e2, by rw [Int.toNat_natCast] at e3; exact e3⟩; exact absurd ⟨RP.out, hi⟩ h
                      subst e1W e1L
                      have ZW := Lib.hid (And.intro e2W e3W)
                      have ZL := Lib.hid (And.intro e2L e3L)
                      clear hi hik2 e2W e3W e2L e3L HFew HFel
                      have HOK1 : Hid (okAll M [(ik : Int)]) := Lib.hid (fun x hx => by rw [List.mem_singleton.1 hx]; have := HIK.out; omega)
                      have hfd : ∀ (w : World) (A : Option Addr) (n c : Nat), (Instr.field 55 (.agg #[.int .i64 (M : Int), .slice A n c]) 1).run Try.prog w = .ok (.slice A n c) w := fun _ _ _ _ => by kernel_rfl
                      go_upto_region 30 with (go_at_call 35; refine (refOf_in M _ 1 1 [(ik : Int)] _ H65.out (sees_block (heap_alloc_new _ _) rfl (Nat.le_refl _) (by decide) ⟨[], rfl⟩) HOK1.out).mono ?_; rintro e w29 ⟨v, rfl, ⟨A25, n25, c25, rfl, o25⟩, k29⟩; have J29 := Lib.hid (((J25.out.step ((Below.refl _ _).alloc (Nat.le_refl _) _)).step k29).newSee (sees_own o25)); clear k29 o25)
                      have t0 := (J29.out.j.b w8.heap.size Nw Aw mw cw (by simp)).c0
                      have t1 := (J29.out.j.b w8.heap.size Nw Aw mw cw (by simp)).c1
                      have r0 := (J29.out.j.b w9.heap.size Nl Al ml cl (by simp)).c0
                      have r1 := (J29.out.j.b w9.heap.size Nl Al ml cl (by simp)).c1
                      rw [ZW.out.1] at t0
                      rw [ZL.out.1] at r0
                      have HYW := Lib.hid ZW.out.2
                      have HYL := Lib.hid ZL.out.2
                      have HJW := Lib.hid (join_with HIK.out hw RP.out)
                      have HJL := Lib.hid (join_less HIK.out hw RP.out)
                      have hS0 : (C2 w8.heap.size (M : Int) Aw mw cw w29 ∧ C2 w9.heap.size (M : Int) Al ml cl w29 ∧ C2 w.heap.size (M : Int) A n1 c1 w29) ∧ JY w w29 [⟨w10.heap.size, Nt, At, mt, ct⟩, ⟨w9.heap.size, Nl, Al, ml, cl⟩, ⟨w8.heap.size, Nw, Aw, mw, cw⟩, ⟨w7.heap.size, No, Ao, mo, co⟩, ⟨w6.heap.size, Nn, An, mn, cn⟩, ⟨b9, (M : Int), A9, n1, c9⟩, ⟨w.heap.size, (M : Int), A, n1, c1⟩] [⟨At, mt, ct, yt⟩, ⟨Al, ml, cl, yl⟩, ⟨Aw, mw, cw, yw⟩, ⟨Ao, mo, co, yo⟩, ⟨An, mn, cn, yn⟩, ⟨A9, n1, c9, l⟩] [⟨A25, n25, c25, ofW M [(ik : Int)]⟩, ⟨A9, n1 + 12, c9, l ++ mksN 12⟩, ⟨A, n1, c1, l⟩] [⟨A10, nL, c10, L⟩, ⟨A10, nL + 12, c10, L ++ mksI 12⟩, ⟨AL, nL, cL, L⟩] w4.heap.size (M : Int) A n1 c1 := ⟨⟨⟨t0, t1⟩, ⟨r0, r1⟩, C2.of (J29.out.j.b w.heap.size (M : Int) A n1 c1 (by simp))⟩, J29.out⟩
                      go_region_held3 (fun w' => (C2 w8.heap.size (M : Int) Aw mw cw w' ∧ C2 w9.heap.size (M : Int) Al ml cl w' ∧ C2 w.heap.size (M : Int) A n1 c1 w') ∧ JY w w' [⟨w10.heap.size, Nt, At, mt, ct⟩, ⟨w9.heap.size, Nl, Al, ml, cl⟩, ⟨w8.heap.size, Nw, Aw, mw, cw⟩, ⟨w7.heap.size, No, Ao, mo, co⟩, ⟨w6.heap.size, Nn, An, mn, cn⟩, ⟨b9, (M : Int), A9, n1, c9⟩, ⟨w.heap.size, (M : Int), A, n1, c1⟩] [⟨At, mt, ct, yt⟩, ⟨Al, ml, cl, yl⟩, ⟨Aw, mw, cw, yw⟩, ⟨Ao, mo, co, yo⟩, ⟨An, mn, cn, yn⟩, ⟨A9, n1, c9, l⟩] [⟨A25, n25, c25, ofW M [(ik : Int)]⟩, ⟨A9, n1 + 12, c9, l ++ mksN 12⟩, ⟨A, n1, c1, l⟩] [⟨A10, nL, c10, L⟩, ⟨A10, nL + 12, c10, L ++ mksI 12⟩, ⟨AL, nL, cL, L⟩] w4.heap.size (M : Int) A n1 c1) (first | exact keepY0 hS0 | exact keepY (by assumption) (by assumption) | assumption) (first
                        | (go_at_call_of 41 (Value.agg #[Value.int .i64 (M : Int), Value.slice Aw mw cw]); refine (is_same (M : Int) Aw _ mw _ cw _ (inB l ik) _ (by rw [← HYW.out]; exact (JX.s (w := w) (S := [⟨w10.heap.size, Nt, At, mt, ct⟩, ⟨w9.heap.size, Nl, Al, ml, cl⟩, ⟨w8.heap.size, Nw, Aw, mw, cw⟩, ⟨w7.heap.size, No, Ao, mo, co⟩, ⟨w6.heap.size, Nn, An, mn, cn⟩, ⟨b9, (M : Int), A9, n1, c9⟩, ⟨w.heap.size, (M : Int), A, n1, c1⟩]) (R := [⟨At, mt, ct, yt⟩, ⟨Al, ml, cl, yl⟩, ⟨Aw, mw, cw, yw⟩, ⟨Ao, mo, co, yo⟩, ⟨An, mn, cn, yn⟩, ⟨A9, n1, c9, l⟩]) (E := [⟨A25, n25, c25, ofW M [(ik : Int)]⟩, ⟨A9, n1 + 12, c9, l ++ mksN 12⟩, ⟨A, n1, c1, l⟩]) (JY.j (And.right (by assumption : _ ∧ JY w _ [⟨w10.heap.size, Nt, At, mt, ct⟩, ⟨w9.heap.size, Nl, Al, ml, cl⟩, ⟨w8.heap.size, Nw, Aw, mw, cw⟩, ⟨w7.heap.size, No, Ao, mo, co⟩, ⟨w6.heap.size, Nn, An, mn, cn⟩, ⟨b9, (M : Int), A9, n1, c9⟩, ⟨w.heap.size, (M : Int), A, n1, c1⟩] [⟨At, mt, ct, yt⟩, ⟨Al, ml, cl, yl⟩, ⟨Aw, mw, cw, yw⟩, ⟨Ao, mo, co, yo⟩, ⟨An, mn, cn, yn⟩, ⟨A9, n1, c9, l⟩] [⟨A25, n25, c25, ofW M [(ik : Int)]⟩, ⟨A9, n1 + 12, c9, l ++ mksN 12⟩, ⟨A, n1, c1, l⟩] [⟨A10, nL, c10, L⟩, ⟨A10, nL + 12, c10, L ++ mksI 12⟩, ⟨AL, nL, cL, L⟩] w4.heap.size (M : Int) A n1 c1))) Aw mw cw yw (by simp))) (by rw [← HJW.out]; exact OJ.out)).mono ?_; rintro e w' ⟨rfl, kk⟩)
                        | (go_at_call_of 41 (Value.agg #[Value.int .i64 (M : Int), Value.slice Al ml cl]); refine (is_same (M : Int) Al _ ml _ cl _ (offB l ik) _ (by rw [← HYL.out]; exact (JX.s (w := w) (S := [⟨w10.heap.size, Nt, At, mt, ct⟩, ⟨w9.heap.size, Nl, Al, ml, cl⟩, ⟨w8.heap.size, Nw, Aw, mw, cw⟩, ⟨w7.heap.size, No, Ao, mo, co⟩, ⟨w6.heap.size, Nn, An, mn, cn⟩, ⟨b9, (M : Int), A9, n1, c9⟩, ⟨w.heap.size, (M : Int), A, n1, c1⟩]) (R := [⟨At, mt, ct, yt⟩, ⟨Al, ml, cl, yl⟩, ⟨Aw, mw, cw, yw⟩, ⟨Ao, mo, co, yo⟩, ⟨An, mn, cn, yn⟩, ⟨A9, n1, c9, l⟩]) (E := [⟨A25, n25, c25, ofW M [(ik : Int)]⟩, ⟨A9, n1 + 12, c9, l ++ mksN 12⟩, ⟨A, n1, c1, l⟩]) (JY.j (And.right (by assumption : _ ∧ JY w _ [⟨w10.heap.size, Nt, At, mt, ct⟩, ⟨w9.heap.size, Nl, Al, ml, cl⟩, ⟨w8.heap.size, Nw, Aw, mw, cw⟩, ⟨w7.heap.size, No, Ao, mo, co⟩, ⟨w6.heap.size, Nn, An, mn, cn⟩, ⟨b9, (M : Int), A9, n1, c9⟩, ⟨w.heap.size, (M : Int), A, n1, c1⟩] [⟨At, mt, ct, yt⟩, ⟨Al, ml, cl, yl⟩, ⟨Aw, mw, cw, yw⟩, ⟨Ao, mo, co, yo⟩, ⟨An, mn, cn, yn⟩, ⟨A9, n1, c9, l⟩] [⟨A25, n25, c25, ofW M [(ik : Int)]⟩, ⟨A9, n1 + 12, c9, l ++ mksN 12⟩, ⟨A, n1, c1, l⟩] [⟨A10, nL, c10, L⟩, ⟨A10, nL + 12, c10, L ++ mksI 12⟩, ⟨AL, nL, cL, L⟩] w4.heap.size (M : Int) A n1 c1))) Al ml cl yl (by simp))) (by rw [← HJL.out]; exact OJ.out)).mono ?_; rintro e w' ⟨rfl, kk⟩)
                        | (go_at_call 36; refine (refJoin_any M A A25 n1 c1 n25 c25 l (ofW M [(ik : Int)]) _ _ _ _ _ H65.out (JX.e (w := w) (S := [⟨w10.heap.size, Nt, At, mt, ct⟩, ⟨w9.heap.size, Nl, Al, ml, cl⟩, ⟨w8.heap.size, Nw, Aw, mw, cw⟩, ⟨w7.heap.size, No, Ao, mo, co⟩, ⟨w6.heap.size, Nn, An, mn, cn⟩, ⟨b9, (M : Int), A9, n1, c9⟩, ⟨w.heap.size, (M : Int), A, n1, c1⟩]) (R := [⟨At, mt, ct, yt⟩, ⟨Al, ml, cl, yl⟩, ⟨Aw, mw, cw, yw⟩, ⟨Ao, mo, co, yo⟩, ⟨An, mn, cn, yn⟩, ⟨A9, n1, c9, l⟩]) (E := [⟨A25, n25, c25, ofW M [(ik : Int)]⟩, ⟨A9, n1 + 12, c9, l ++ mksN 12⟩, ⟨A, n1, c1, l⟩]) (JY.j (And.right (by assumption : _ ∧ JY w _ [⟨w10.heap.size, Nt, At, mt, ct⟩, ⟨w9.heap.size, Nl, Al, ml, cl⟩, ⟨w8.heap.size, Nw, Aw, mw, cw⟩, ⟨w7.heap.size, No, Ao, mo, co⟩, ⟨w6.heap.size, Nn, An, mn, cn⟩, ⟨b9, (M : Int), A9, n1, c9⟩, ⟨w.heap.size, (M : Int), A, n1, c1⟩] [⟨At, mt, ct, yt⟩, ⟨Al, ml, cl, yl⟩, ⟨Aw, mw, cw, yw⟩, ⟨Ao, mo, co, yo⟩, ⟨An, mn, cn, yn⟩, ⟨A9, n1, c9, l⟩] [⟨A25, n25, c25, ofW M [(ik : Int)]⟩, ⟨A9, n1 + 12, c9, l ++ mksN 12⟩, ⟨A, n1, c1, l⟩] [⟨A10, nL, c10, L⟩, ⟨A10, nL + 12, c10, L ++ mksI 12⟩, ⟨AL, nL, cL, L⟩] w4.heap.size (M : Int) A n1 c1))) A n1 c1 l (by simp)) (JX.e (w := w) (S := [⟨w10.heap.size, Nt, At, mt, ct⟩, ⟨w9.heap.size, Nl, Al, ml, cl⟩, ⟨w8.heap.size, Nw, Aw, mw, cw⟩, ⟨w7.heap.size, No, Ao, mo, co⟩, ⟨w6.heap.size, Nn, An, mn, cn⟩, ⟨b9, (M : Int), A9, n1, c9⟩, ⟨w.heap.size, (M : Int), A, n1, c1⟩]) (R := [⟨At, mt, ct, yt⟩, ⟨Al, ml, cl, yl⟩, ⟨Aw, mw, cw, yw⟩, ⟨Ao, mo, co, yo⟩, ⟨An, mn, cn, yn⟩, ⟨A9, n1, c9, l⟩]) (E := [⟨A25, n25, c25, ofW M [(ik : Int)]⟩, ⟨A9, n1 + 12, c9, l ++ mksN 12⟩, ⟨A, n1, c1, l⟩]) (JY.j (And.right (by assumption : _ ∧ JY w _ [⟨w10.heap.size, Nt, At, mt, ct⟩, ⟨w9.heap.size, Nl, Al, ml, cl⟩, ⟨w8.heap.size, Nw, Aw, mw, cw⟩, ⟨w7.heap.size, No, Ao, mo, co⟩, ⟨w6.heap.size, Nn, An, mn, cn⟩, ⟨b9, (M : Int), A9, n1, c9⟩, ⟨w.heap.size, (M : Int), A, n1, c1⟩] [⟨At, mt, ct, yt⟩, ⟨Al, ml, cl, yl⟩, ⟨Aw, mw, cw, yw⟩, ⟨Ao, mo, co, yo⟩, ⟨An, mn, cn, yn⟩, ⟨A9, n1, c9, l⟩] [⟨A25, n25, c25, ofW M [(ik : Int)]⟩, ⟨A9, n1 + 12, c9, l ++ mksN 12⟩, ⟨A, n1, c1, l⟩] [⟨A10, nL, c10, L⟩, ⟨A10, nL + 12, c10, L ++ mksI 12⟩, ⟨AL, nL, cL, L⟩] w4.heap.size (M : Int) A n1 c1))) A25 n25 c25 (ofW M [(ik : Int)]) (by simp)) hw (ofW_w _ _)).mono ?_; rintro e w' ⟨v, rfl, ⟨Aj, nj, cj, rfl, oj⟩, kk⟩; have OJ := Lib.hid (sees_own oj); clear oj))
                      rename_i hH
                      have JF := Lib.hid hH.2
                      clear hH hS0 t0 t1 r0 r1
                      have v0 := (JF.out.j.b b9 (M : Int) A9 n1 c9 (by simp)).c1
                      have v1 := (JF.out.j.b w8.heap.size Nw Aw mw cw (by simp)).c1
                      have v2 := (JF.out.j.b w9.heap.size Nl Al ml cl (by simp)).c1
                      have v3 := (JF.out.j.b w10.heap.size Nt At mt ct (by simp)).c1
                      have v4 := (JF.out.j.b w6.heap.size Nn An mn cn (by simp)).c1
                      have v5 := (JF.out.j.b w7.heap.size No Ao mo co (by simp)).c1
                      have HRN : Hid (∀ r ∈ ([⟨At, mt, ct, yt⟩, ⟨Al, ml, cl, yl⟩, ⟨Aw, mw, cw, yw⟩, ⟨Ao, mo, co, yo⟩, ⟨An, mn, cn, yn⟩, ⟨A9, n1, c9, l⟩] : List Rx), r.n ≤ 100000) := Lib.hid (by
                        intro r hr
                        simp only [List.mem_cons, List.not_mem_nil, or_false] at hr
                        rcases hr with rfl | rfl | rfl | rfl | rfl | rfl
                        · exact HMet.out
                        · exact HMel.out
                        · exact HMew.out
                        · exact HMeo.out
                        · exact HMen.out
                        · have := HN1.out; show n1 ≤ 100000; omega)
                      go_wp2_with (go_at_call 42; refine (JX.apart (JF.out.j.step ((Below.refl _ _).alloc (Nat.le_refl _) (.cells #[.slice A9 n1 c9, .slice Aw mw cw, .slice Al ml cl, .slice At mt ct, .slice An mn cn, .slice Ao mo co] 22))) [5, 2, 1, 0, 4, 3] _ 6 6 rfl (by decide) (by decide) HRN.out (by simp) (by decide) (by exact (sees_block (heap_alloc_new _ _) rfl (Nat.le_refl _) (by decide) ⟨[], rfl⟩ : Sees _ 1 _ 6 6 [Value.slice A9 n1 c9, Value.slice Aw mw cw, Value.slice Al ml cl, Value.slice At mt ct, Value.slice An mn cn, Value.slice Ao mo co]))).mono ?_; rintro e wz ⟨rfl, kz⟩; have BZ := Lib.hid (((JF.out.j.bel.alloc JF.out.j.bel.size (.cells #[.slice A9 n1 c9, .slice Aw mw cw, .slice Al ml cl, .slice At mt ct, .slice An mn cn, .slice Ao mo co] 22))).trans kz); clear kz)
                      go_ret
                      exact ⟨rfl, BZ.out⟩
                    · have HI := Lib.hid hi
                      obtain ⟨e1W, e2W, e3W, e4W, e5W⟩ : ew = 2 ∧ _ ∧ _ ∧ _ ∧ _ := by rcases HFew.out with ⟨h, _⟩ | ⟨h, e1, e2, e3, e4, e5⟩; exact absurd h.2 HI.out; exact ⟨by rw [if_pos RP.out] at e1; exact e1, e2, e3, e4, e5⟩
                      obtain ⟨e1L, e2L, e3L, e4L, e5L⟩ : el = 2 ∧ _ ∧ _ ∧ _ ∧ _ := by rcases HFel.out with ⟨h, _⟩ | ⟨h, e1, e2, e3, e4, e5⟩; exact absurd h.2 HI.out; exact ⟨by rw [if_pos RP.out] at e1; exact e1, e2, e3, e4, e5⟩
                      subst e1W e1L
                      have ZW := Lib.hid (And.intro e2W (And.intro e3W (And.intro e4W e5W)))
                      have ZL := Lib.hid (And.intro e2L (And.intro e3L (And.intro e4L e5L)))
                      clear HFew HFel e2W e3W e4W e5W e2L e3L e4L e5L
                      have zwa := (J25.out.j.b w8.heap.size Nw Aw mw cw (by simp)).c0
                      rw [ZW.out.1] at zwa
                      have zwb := (J25.out.j.b w8.heap.size Nw Aw mw cw (by simp)).c1
                      rw [ZW.out.2.1, ZW.out.2.2.1, ZW.out.2.2.2] at zwb
                      have zla := (J25.out.j.b w9.heap.size Nl Al ml cl (by simp)).c0
                      rw [ZL.out.1] at zla
                      have zlb := (J25.out.j.b w9.heap.size Nl Al ml cl (by simp)).c1
                      rw [ZL.out.2.1, ZL.out.2.2.1, ZL.out.2.2.2] at zlb
                      by_cases h0 : i < 0
                      · have d8 : decide (i < 0) = true := decide_eq_true h0
                        clear hi h0
                        go_wp2_with fail
                        go_ret
                        exact ⟨rfl, J25.out.j.bel⟩
                      · have d8 : decide (i < 0) = false := decide_eq_false h0
                        have d9 : decide ((M : Int) ≤ i) = true := decide_eq_true (by omega)
                        clear hi
                        go_wp2_with fail
                        go_ret
                        exact ⟨rfl, J25.out.j.bel⟩
                  · have RN := Lib.hid hR
                    obtain ⟨e1W, e2W, e3W, e4W, e5W⟩ : ew = 50 ∧ _ ∧ _ ∧ _ ∧ _ := by rcases HFew.out with ⟨h, _⟩ | ⟨h, e1, e2, e3, e4, e5⟩; exact absurd h.1 RN.out; exact ⟨by rw [if_neg RN.out] at e1; exact e1, e2, e3, e4, e5⟩
                    obtain ⟨e1L, e2L, e3L, e4L, e5L⟩ : el = 50 ∧ _ ∧ _ ∧ _ ∧ _ := by rcases HFel.out with ⟨h, _⟩ | ⟨h, e1, e2, e3, e4, e5⟩; exact absurd h.1 RN.out; exact ⟨by rw [if_neg RN.out] at e1; exact e1, e2, e3, e4, e5⟩
                    obtain ⟨e1T, e2T, e3T, e4T, e5T⟩ : et = 50 ∧ _ ∧ _ ∧ _ ∧ _ := by rcases HFet.out with ⟨h, _⟩ | ⟨h, e1, e2, e3, e4, e5⟩; exact absurd h RN.out; exact ⟨e1, e2, e3, e4, e5⟩
                    clear hR HFew HFel HFet
                    subst e1W e1L e1T
                    have ZW := Lib.hid (And.intro e2W (And.intro e3W (And.intro e4W e5W)))
                    have ZL := Lib.hid (And.intro e2L (And.intro e3L (And.intro e4L e5L)))
                    have ZT := Lib.hid (And.intro e2T (And.intro e3T (And.intro e4T e5T)))
                    clear e2W e3W e4W e5W e2L e3L e4L e5L e2T e3T e4T e5T
                    go_wp2_with (first
                      | (go_at_call 40; have _q := J21; refine (refRight_any N A n1 c1 l _ (J21.out.j.e A n1 c1 l (by simp)) hw).mono ?_; rw [show decide (RightW N l) = false from decide_eq_false RN.out]; rintro e w22 ⟨rfl, k22⟩; have J22 := Lib.hid (J21.out.step k22); clear k22; have zwa := (J22.out.j.b w8.heap.size Nw Aw mw cw (by simp)).c0; rw [ZW.out.1] at zwa; have zwb := (J22.out.j.b w8.heap.size Nw Aw mw cw (by simp)).c1; rw [ZW.out.2.1, ZW.out.2.2.1, ZW.out.2.2.2] at zwb; have zla := (J22.out.j.b w9.heap.size Nl Al ml cl (by simp)).c0; rw [ZL.out.1] at zla; have zlb := (J22.out.j.b w9.heap.size Nl Al ml cl (by simp)).c1; rw [ZL.out.2.1, ZL.out.2.2.1, ZL.out.2.2.2] at zlb; have zta := (J22.out.j.b w10.heap.size Nt At mt ct (by simp)).c0; rw [ZT.out.1] at zta; have ztb := (J22.out.j.b w10.heap.size Nt At mt ct (by simp)).c1; rw [ZT.out.2.1, ZT.out.2.2.1, ZT.out.2.2.2] at ztb)
                      | (go_at_call 59; have _q := J20; refine (KeptInts_any A10 AL nL c10 cL L _ (J20.out.ii A10 (nL + 12) c10 (L ++ mksI 12) (by simp)) (J20.out.ii AL nL cL L (by simp)) (by have := HNL.out; omega)).mono ?_; rintro e w21 ⟨rfl, k21⟩; have J21 := Lib.hid (J20.out.step k21); have m0 := J21.out.q.c0; have m1 := J21.out.q.c1; clear k21)
                      | (go_at_call 39; refine (KeptNums_any A9 A n1 c9 c1 l _ (J19.out.j.e A9 (n1 + 12) c9 (l ++ mksN 12) (by simp)) (J19.out.j.e A n1 c1 l (by simp)) (by have := HN1.out; omega)).mono ?_; rintro e w20 ⟨rfl, k20⟩; have J20 := Lib.hid (J19.out.step k20); clear k20))
                    go_ret
                    exact ⟨rfl, J22.out.j.bel⟩
end Go.Proofs.Ytemhoaleeefhhaa
