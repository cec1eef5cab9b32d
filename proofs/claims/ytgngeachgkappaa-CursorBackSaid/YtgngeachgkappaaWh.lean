/- Walks: what writers write. -/
import Derived.Test.YtgngeachgkappaaProg
import Derived.Test.YtgngeachgkappaaWg
import Derived.Test.YtgngeachgkappaaQ7
namespace Go.Proofs.Ytgngeachgkappaa
open Go.RowKit
set_option linter.unusedVariables false

theorem Wtr.drewN {w : World} {base p n c lim : Nat} {A : Option Addr} {bs : List Int} (h : Wtr w base p A n c bs lim) (d : Nat) : Wtr (w.drewN d) base p A n c bs lim := h.below (below_drewN (Below.refl _ _) _)
theorem off_own {w : World} {base e s n c p : Nat} {A : Option Addr} {xs : List Value} (h : w.ownsRow base e s (.slice A n c) n xs) (ho : Off p A) : (Value.slice A n c).ownBlock ≠ some p := by
  intro e
  cases A with
  | none => simp [Value.ownBlock] at e
  | some a =>
    have := ho a rfl
    simp [Value.ownBlock] at e
    omega
theorem off_lies {w w' : World} {base e s n c n' c' p : Nat} {A A' : Option Addr} {xs : List Value} (h : w'.ownsRow base e s (.slice A' n' c') n' xs) (hl : Lies w (.slice A n c) (.slice A' n' c')) (hp : p < w.heap.size) (h0 : (Value.slice A n c).ownBlock ≠ some p) : Off p A' := by
  intro b hb
  subst hb
  have hq : (Value.slice (some b) n' c').ownBlock = some b.block := rfl
  intro e
  subst e
  rcases hl with e | hl
  · exact h0 (by rw [← e, hq])
  · have := hl _ hq; omega
theorem grown_block {w w' : World} {r : Option Nat} {p : Nat} {o : Obj} (hg : w.grownBy w' r) (h : w.heap[p]? = some o) (hr : r ≠ some p) : w'.heap[p]? = some o :=
  (hg.block p (lt_of_heap h) (fun e => hr e.symm)).trans h

set_option maxRecDepth 20000 in
set_option maxHeartbeats 1600000 in
theorem BytesW_ok (base p n c lim m cx : Nat) (A X : Option Addr) (bs xs : List Int) (w : World) (h : Wtr w base p A n c bs lim) (hx : Sees w 1 X m cx (xs.map (Value.int .u8))) (hm : n + m ≤ lim) (hB : base ≤ w.heap.size) :
    Calls Try.prog 26 #[.pointer (some ⟨p, 0, none⟩), .slice X m cx] w fun e w' => ∃ A' c', e = .returned (.int .i64 0) ∧ Wtr w' base p A' (n + m) c' (bs ++ xs) lim ∧ Both p (Value.slice A n c).ownBlock w w' ∧ Lies w (.slice A n c) (.slice A' (n + m) c') := by
  have d1 : decide (((lim - n : Nat) : Int) < (m : Int)) = false := by simp; omega
  have d1' : decide (lim - n < m) = false := by simp; omega
  have HW := Lib.hid h
  have HX := Lib.hid hx
  have HM := Lib.hid hm
  have HB := Lib.hid hB
  clear h hx hm hB
  go_enter Try.func26, Try.ntmps26
  go_wp2_with (first
    | (at_builtin; refine wpList_app3 E_u8 rfl _ _ rfl rfl h2.own rfl HX2.out (ints1 _ _) (by have := HM.out; have := HW.out.lm; simp [maxLen]; omega) (by have := HM.out; have := HW.out.lm; omega) HB.out ?_; intro A2 c2 w2 o2 gr2 b2 l2; have hp2 := grown_block gr2 h2.obj (off_own h2.own h2.off); have q0 : w2.cell? ⟨p, 0, none⟩ = some (.slice A n c) := (by simp [World.cell?, hp2]); have q1 : w2.frozen? ⟨p, 0, none⟩ = false := (by simp [World.frozen?, hp2]); have HO := Lib.hid (off_lies o2 l2 h2.plt (off_own h2.own h2.off)); have O2 := Lib.hid o2; have G2 := Lib.hid gr2; have L2 := Lib.hid l2; have HP2 := Lib.hid hp2; clear o2 gr2 b2 l2 hp2)
    | (go_at_call 40; refine (roomW_any _ _ _ _ _ _ _ _ HW.out).mono ?_; rintro e w1 ⟨rfl, d, rfl⟩; have h2 := HW.out.drewN d; have HX2 := Lib.hid (HX.out.below (below_drewN (Below.refl _ _) d) (Nat.le_refl _)); have g0 := h2.c0)
    | (go_at_call 37; refine (isW_any _ _ _ _ _ _ _ _ HW.out).mono ?_; rintro e w1 ⟨rfl, rfl⟩))
  go_ret
  have hne := off_own HW.out.own HW.out.off
  refine ⟨A2, c2, rfl, ⟨?_, ?_, HO.out, HW.out.bp, HM.out, HW.out.lm⟩, ?_, L2.out⟩
  · have := heap_setCell_same w2 p 0 _ _ (.slice A2 (n + m) c2) HP2.out
    simpa using this
  · rw [List.map_append]
    refine ownsRow_setCell_other O2.out ?_ _
    intro e
    rcases L2.out with e2 | hl
    · rw [e2] at e; exact hne e
    · have := hl _ e; have := HW.out.plt; exact absurd this (by simp at *; omega)
  · have h1 : Both p (Value.slice A n c).ownBlock w (w.drewN d) := Both.of_below (below_drewN (Below.refl _ _) d)
    exact (h1.trans (Both.of_grown G2.out)).trans (Both.of_keeps (Keeps.set p 0 w2 _))

set_option maxRecDepth 20000 in
theorem BytesW_full (base p n c lim m cx : Nat) (A X : Option Addr) (bs : List Int) (w : World) (h : Wtr w base p A n c bs lim) (hm : lim < n + m) :
    Calls Try.prog 26 #[.pointer (some ⟨p, 0, none⟩), .slice X m cx] w fun e w' => e = .returned (.int .i64 4) ∧ Below w.heap.size w w' := by
  have d1 : decide (((lim - n : Nat) : Int) < (m : Int)) = true := by have := h.le; simp; omega
  have d1' : decide (lim - n < m) = true := by have := h.le; simp; omega
  have HW := Lib.hid h
  clear h hm
  go_enter Try.func26, Try.ntmps26
  go_wp2_with (first
    | (go_at_call 40; refine (roomW_any _ _ _ _ _ _ _ _ HW.out).mono ?_; rintro e w1 ⟨rfl, d, rfl⟩)
    | (go_at_call 37; refine (isW_any _ _ _ _ _ _ _ _ HW.out).mono ?_; rintro e w1 ⟨rfl, rfl⟩))
  go_ret
  exact ⟨rfl, below_drewN (Below.refl _ _) d⟩

/-- What a writer does with bytes. -/
theorem lies_drop {w w1 : World} {v v' : Value} (h : Lies w1 v v') (hs : w.heap.size ≤ w1.heap.size) : Lies w v v' := lies_mono h hs

set_option maxRecDepth 20000 in
theorem ByteW_ok (base p n c lim : Nat) (x : Int) (A : Option Addr) (bs : List Int) (w : World) (h : Wtr w base p A n c bs lim) (hm : n + 1 ≤ lim) (hB : base ≤ w.heap.size) :
    Calls Try.prog 27 #[.pointer (some ⟨p, 0, none⟩), .int .u8 x] w fun e w' => ∃ A' c', e = .returned (.int .i64 0) ∧ Wtr w' base p A' (n + 1) c' (bs ++ [x]) lim ∧ Both p (Value.slice A n c).ownBlock w w' ∧ Lies w (.slice A n c) (.slice A' (n + 1) c') := by
  have HB1 := Lib.hid ((Below.refl w.heap.size w).alloc (Nat.le_refl _) (.cells #[.int .u8 x] 5))
  have HW := Lib.hid (h.below HB1.out)
  have HM := Lib.hid hm
  have HB := Lib.hid hB
  clear h hm hB
  go_enter Try.func27, Try.ntmps27
  go_wp2_with (go_at_call 26; refine (BytesW_ok base p n c lim 1 _ A _ bs [x] _ HW.out (Sees.one _ _ _) HM.out (by have := HB.out; simp; omega)).mono ?_; rintro e w2 ⟨A2, c2, rfl, h2, k2, l2⟩; have H2 := Lib.hid (And.intro h2 (And.intro k2 l2)); clear h2 k2 l2)
  go_ret
  exact ⟨A2, c2, rfl, H2.out.1, (Both.of_below HB1.out).trans H2.out.2.1, lies_mono H2.out.2.2 (by simp)⟩

set_option maxRecDepth 20000 in
theorem ByteW_full (base p n c lim : Nat) (x : Int) (A : Option Addr) (bs : List Int) (w : World) (h : Wtr w base p A n c bs lim) (hm : lim < n + 1) :
    Calls Try.prog 27 #[.pointer (some ⟨p, 0, none⟩), .int .u8 x] w fun e w' => e = .returned (.int .i64 4) ∧ Below w.heap.size w w' := by
  have HB1 := Lib.hid ((Below.refl w.heap.size w).alloc (Nat.le_refl _) (.cells #[.int .u8 x] 5))
  have HW := Lib.hid (h.below HB1.out)
  have HM := Lib.hid hm
  clear h hm
  go_enter Try.func27, Try.ntmps27
  go_wp2_with (go_at_call 26; refine (BytesW_full base p n c lim 1 _ A _ bs _ HW.out HM.out).mono ?_; rintro e w2 ⟨rfl, h2⟩)
  go_ret
  exact ⟨rfl, below_step HB1.out h2⟩

set_option maxRecDepth 20000 in
theorem NumberW_ok (base p n c lim x : Nat) (A : Option Addr) (bs : List Int) (w : World) (h : Wtr w base p A n c bs lim) (hx : x < 18446744073709551616) (hm : n + (enc x).length ≤ lim) (hB : base ≤ w.heap.size) :
    Calls Try.prog 34 #[.pointer (some ⟨p, 0, none⟩), .int .u64 (x : Int)] w fun e w' => ∃ A' c', e = .returned (.int .i64 0) ∧ Wtr w' base p A' (n + (enc x).length) c' (bs ++ enc x) lim ∧ Both p (Value.slice A n c).ownBlock w w' ∧ Lies w (.slice A n c) (.slice A' (n + (enc x).length) c') := by
  have HW := Lib.hid h
  have HM := Lib.hid hm
  have HB := Lib.hid hB
  have HX := Lib.hid hx
  clear h hm hB hx
  go_enter Try.func34, Try.ntmps34
  go_wp2_with (first
    | (go_at_call 26; refine (BytesW_ok base p n c lim _ _ A _ bs (enc x) _ (HW.out.below b1.out) (sees_own o1.out) HM.out (by have := HB.out; have := b1.out.size; omega)).mono ?_; rintro e w2 ⟨A2, c2, rfl, h2, k2, l2⟩; have H2 := Lib.hid (And.intro h2 (And.intro k2 l2)); clear h2 k2 l2)
    | (go_at_call 22; refine (Write_any x HX.out _).mono ?_; rintro e w1 ⟨v1, rfl, o1, b1⟩; obtain ⟨X, cx, rfl⟩ := own_form o1; have o1 := Lib.hid o1; have b1 := Lib.hid b1))
  go_ret
  exact ⟨A2, c2, rfl, H2.out.1, (Both.of_below b1.out).trans H2.out.2.1, lies_mono H2.out.2.2 b1.out.size⟩

set_option maxRecDepth 20000 in
theorem NumberW_full (base p n c lim x : Nat) (A : Option Addr) (bs : List Int) (w : World) (h : Wtr w base p A n c bs lim) (hx : x < 18446744073709551616) (hm : lim < n + (enc x).length) :
    Calls Try.prog 34 #[.pointer (some ⟨p, 0, none⟩), .int .u64 (x : Int)] w fun e w' => e = .returned (.int .i64 4) ∧ Below w.heap.size w w' := by
  have HW := Lib.hid h
  have HM := Lib.hid hm
  have HX := Lib.hid hx
  clear h hm hx
  go_enter Try.func34, Try.ntmps34
  go_wp2_with (first
    | (go_at_call 26; refine (BytesW_full base p n c lim _ _ A _ bs _ (HW.out.below b1.out) HM.out).mono ?_; rintro e w2 ⟨rfl, h2⟩)
    | (go_at_call 22; refine (Write_any x HX.out _).mono ?_; rintro e w1 ⟨v1, rfl, o1, b1⟩; obtain ⟨X, cx, rfl⟩ := own_form o1; have b1 := Lib.hid b1))
  go_ret
  exact ⟨rfl, below_step b1.out h2⟩
end Go.Proofs.Ytgngeachgkappaa
