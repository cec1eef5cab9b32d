/- What a ring tells: none, Len, Capacity, Open, Accepted, Refused, All, First; New. -/
import Derived.Test.YtgomnifcgaigkaaProg
import Derived.Test.YtgomnifcgaigkaaGc
namespace Go.Proofs.Ytgomnifcgaigkaa
open Go.RowKit Go.Shelf
set_option linter.unusedVariables false

set_option maxRecDepth 20000 in
theorem noneI_any (B p g : Nat) (A : Option Addr) (n c f : Nat) (o ac rf cap : Int) (L : List (Int × Int)) (w : World) (h : RingI w B p g A n c f o ac rf cap L) :
    Calls Try.prog 36 #[.pointer (some ⟨p, 0, none⟩)] w fun e w' => e = .returned (.bool false) ∧ w = w' := by
  have h6 := h.c6
  have d : (cap == 0) = false := by have := h.cap1; simp; omega
  clear h
  go_enter Try.func36, Try.ntmps36
  go_wp2
  go_ret
  exact ⟨rfl, rfl⟩

set_option maxRecDepth 20000 in
theorem LenI_any (B p g : Nat) (A : Option Addr) (n c f : Nat) (o ac rf cap : Int) (L : List (Int × Int)) (w : World) (h : RingI w B p g A n c f o ac rf cap L) :
    Calls Try.prog 19 #[.pointer (some ⟨p, 0, none⟩)] w fun e w' => e = .returned (.int .i64 (L.length : Int)) ∧ w = w' := by
  have h6 := h.c2
  have H := Lib.hid h
  clear h
  go_enter Try.func19, Try.ntmps19
  go_wp2_with (go_at_call 36; refine (noneI_any _ _ _ _ _ _ _ _ _ _ _ _ _ H.out).mono ?_; rintro e w' ⟨rfl, rfl⟩)
  go_ret
  exact ⟨rfl, rfl⟩
set_option maxRecDepth 20000 in
theorem OpenI_any (B p g : Nat) (A : Option Addr) (n c f : Nat) (o ac rf cap : Int) (L : List (Int × Int)) (w : World) (h : RingI w B p g A n c f o ac rf cap L) :
    Calls Try.prog 20 #[.pointer (some ⟨p, 0, none⟩)] w fun e w' => e = .returned (.int .i64 o) ∧ w = w' := by
  have h6 := h.c3
  have H := Lib.hid h
  clear h
  go_enter Try.func20, Try.ntmps20
  go_wp2_with (go_at_call 36; refine (noneI_any _ _ _ _ _ _ _ _ _ _ _ _ _ H.out).mono ?_; rintro e w' ⟨rfl, rfl⟩)
  go_ret
  exact ⟨rfl, rfl⟩
set_option maxRecDepth 20000 in
theorem AcceptedI_any (B p g : Nat) (A : Option Addr) (n c f : Nat) (o ac rf cap : Int) (L : List (Int × Int)) (w : World) (h : RingI w B p g A n c f o ac rf cap L) :
    Calls Try.prog 17 #[.pointer (some ⟨p, 0, none⟩)] w fun e w' => e = .returned (.int .i64 ac) ∧ w = w' := by
  have h6 := h.c4
  have H := Lib.hid h
  clear h
  go_enter Try.func17, Try.ntmps17
  go_wp2_with (go_at_call 36; refine (noneI_any _ _ _ _ _ _ _ _ _ _ _ _ _ H.out).mono ?_; rintro e w' ⟨rfl, rfl⟩)
  go_ret
  exact ⟨rfl, rfl⟩
set_option maxRecDepth 20000 in
theorem RefusedI_any (B p g : Nat) (A : Option Addr) (n c f : Nat) (o ac rf cap : Int) (L : List (Int × Int)) (w : World) (h : RingI w B p g A n c f o ac rf cap L) :
    Calls Try.prog 18 #[.pointer (some ⟨p, 0, none⟩)] w fun e w' => e = .returned (.int .i64 rf) ∧ w = w' := by
  have h6 := h.c5
  have H := Lib.hid h
  clear h
  go_enter Try.func18, Try.ntmps18
  go_wp2_with (go_at_call 36; refine (noneI_any _ _ _ _ _ _ _ _ _ _ _ _ _ H.out).mono ?_; rintro e w' ⟨rfl, rfl⟩)
  go_ret
  exact ⟨rfl, rfl⟩
set_option maxRecDepth 20000 in
theorem CapacityI_any (B p g : Nat) (A : Option Addr) (n c f : Nat) (o ac rf cap : Int) (L : List (Int × Int)) (w : World) (h : RingI w B p g A n c f o ac rf cap L) :
    Calls Try.prog 48 #[.pointer (some ⟨p, 0, none⟩)] w fun e w' => e = .returned (.int .i64 cap) ∧ w = w' := by
  have h6 := h.c6
  have H := Lib.hid h
  clear h
  go_enter Try.func48, Try.ntmps48
  go_wp2_with (go_at_call 36; refine (noneI_any _ _ _ _ _ _ _ _ _ _ _ _ _ H.out).mono ?_; rintro e w' ⟨rfl, rfl⟩)
  go_ret
  exact ⟨rfl, rfl⟩

set_option maxRecDepth 20000 in
theorem AllI_any (B p g : Nat) (A : Option Addr) (n c f : Nat) (o ac rf cap : Int) (L : List (Int × Int)) (w : World) (h : RingI w B p g A n c f o ac rf cap L) :
    Calls Try.prog 26 #[.pointer (some ⟨p, 0, none⟩)] w fun e w' => ∃ A c, e = .returned (.slice A L.length c) ∧ w'.ownsRow w.heap.size 29 2 (.slice A L.length c) L.length (L.flatMap ceI) ∧ Below w.heap.size w w' := by
  have H := Lib.hid h
  have hb : Below w.heap.size w (w.alloc (.cells #[.pointer (some ⟨p, 0, none⟩)] 24)) := (Below.refl _ _).alloc (Nat.le_refl _) _
  have HB := Lib.hid hb
  have HC := Lib.hid (h.below hb h.plt h.glt)
  have HX := Lib.hid (Boxed.new w 24 (.pointer (some ⟨p, 0, none⟩))).cell
  clear h hb
  go_enter Try.func26, Try.ntmps26
  go_wp2_with (first
    | (go_at_call 36; refine (noneI_any _ _ _ _ _ _ _ _ _ _ _ _ _ H.out).mono ?_; rintro e w' ⟨rfl, rfl⟩)
    | (go_at_call 39; refine (eachI_any _ _).mono ?_; rintro e w' ⟨rfl, rfl⟩)
    | (go_at_call 38; refine (CollectI_any w.heap.size w.heap.size _ p g _ _ _ _ _ _ _ _ L _ H.out.plt H.out.glt (by simp) (by simp) HX.out HC.out).mono ?_; rintro e w' ⟨A2, c2, rfl, o2, b2⟩))
  go_ret
  exact ⟨A2, c2, rfl, own_base o2 (by simp), HB.out.trans (b2.mono (by simp))⟩

set_option maxRecDepth 20000 in
theorem FirstI_none (B p g : Nat) (A : Option Addr) (n c f : Nat) (o ac rf cap : Int) (w : World) (h : RingI w B p g A n c f o ac rf cap []) :
    Calls Try.prog 47 #[.pointer (some ⟨p, 0, none⟩)] w fun e w' => e = .returned (.tuple #[.agg #[.int .i64 0, .int .i64 0], .bool false]) ∧ Below w.heap.size w w' := by
  have H := Lib.hid (h.below ((Below.refl _ _).alloc (Nat.le_refl _) (.cells #[.int .i64 0, .int .i64 0] 29)) h.plt h.glt)
  clear h
  go_enter Try.func47, Try.ntmps47
  go_wp2_with (go_at_call 19; refine (LenI_any _ _ _ _ _ _ _ _ _ _ _ _ _ H.out).mono ?_; rintro e w' ⟨rfl, rfl⟩)
  exact bodyPost_ret (v := .tuple #[.agg #[.int .i64 0, .int .i64 0], .bool false]) (by simp [results, Try.results47, go_sem]) rfl ⟨rfl, (Below.refl _ _).alloc (Nat.le_refl _) _⟩

theorem RingAt.head {α : Type} {TR TS s : Nat} {ce : α → List Value} {w : World} {B p g : Nat} {A : Option Addr} {n c f : Nat} {o ac rf cap : Int} {x : α} {L : List α} (h : RingAt TR TS s ce w B p g A n c f o ac rf cap (x :: L)) {j : Nat} {u : Value} (hu : (ce x)[j]? = some u) :
    A = some ⟨g, 0, none⟩ ∧ w.cell? ⟨g, f * s + j, none⟩ = some u := by
  have := h.slot (i := 0) rfl hu
  have hf := h.first
  have hl := h.le
  rw [List.length_cons] at hl
  rw [Nat.add_zero, Nat.mod_eq_of_lt (by omega)] at this
  exact this

set_option maxRecDepth 20000 in
set_option maxHeartbeats 800000 in
theorem FirstI_some (B p g : Nat) (A : Option Addr) (n c f : Nat) (o ac rf cap : Int) (x : Int × Int) (L : List (Int × Int)) (w : World) (h : RingI w B p g A n c f o ac rf cap (x :: L)) :
    Calls Try.prog 47 #[.pointer (some ⟨p, 0, none⟩)] w fun e w' => e = .returned (.tuple #[.agg #[.int .i64 x.1, .int .i64 x.2], .bool true]) ∧ Below w.heap.size w w' := by
  obtain ⟨x1, x2⟩ := x
  have hb : Below w.heap.size w (w.alloc (.cells #[.int .i64 0, .int .i64 0] 29)) := (Below.refl _ _).alloc (Nat.le_refl _) _
  have h2 := h.below hb h.plt h.glt
  obtain ⟨hA, s0⟩ := h2.head (j := 0) (u := .int .i64 x1) rfl
  obtain ⟨_, s1⟩ := h2.head (j := 1) (u := .int .i64 x2) rfl
  rw [Nat.add_zero] at s0
  have q0 := h2.c0
  have q1 := h2.c1
  have hf := h.first
  have hle := h.le
  rw [List.length_cons] at hle
  have hg := h.glt
  have hp := h.plt
  have hfn : f < n := by omega
  have d1 : ((((x1, x2) :: L).length : Int) == 0) = false := by rw [List.length_cons]; simp; omega
  have H := Lib.hid h2
  have HB := Lib.hid hb
  subst hA
  clear h hb h2 hf hle
  go_enter Try.func47, Try.ntmps47
  go_wp2_with (go_at_call 19; refine (LenI_any _ _ _ _ _ _ _ _ _ _ _ _ _ H.out).mono ?_; rintro e w' ⟨rfl, rfl⟩)
  refine wpD_region_still_tail 10 (by kernel_rfl) (by kernel_rfl) ?_
  simp only [List.take_succ_cons, List.take_zero, List.drop_succ_cons, List.drop_zero]
  repeat still_step
  refine wpStill_nil ?_
  go_wp2
  exact bodyPost_ret (v := .tuple #[.agg #[.int .i64 x1, .int .i64 x2], .bool true]) (by simp [results, Try.results47, go_sem]) rfl ⟨rfl, ((Below.refl _ _).alloc (Nat.le_refl _) _).drew⟩

set_option maxRecDepth 20000 in
theorem NewI_bad (n : Int) (w : World) (h : n < 1 ∨ 65536 < n) :
    Calls Try.prog 25 #[.int .i64 n] w fun e w' => e = .returned (.tuple #[.pointer none, .int .i64 2]) ∧ w = w' := by
  rcases h with h | h
  · go_enter Try.func25, Try.ntmps25
    go_wp2
    go_ret2
    exact ⟨rfl, rfl⟩
  · have h' : ¬ n < 1 := by omega
    go_enter Try.func25, Try.ntmps25
    go_wp2
    go_ret2
    exact ⟨rfl, rfl⟩

set_option maxRecDepth 20000 in
theorem NewI_any (n : Int) (w : World) (h : 1 ≤ n ∧ n ≤ 65536) :
    Calls Try.prog 25 #[.int .i64 n] w fun e w' => ∃ p, e = .returned (.tuple #[.pointer (some ⟨p, 0, none⟩), .int .i64 0]) ∧ RingI w' w.heap.size p p none 0 0 0 0 0 0 n [] ∧ Below w.heap.size w w' := by
  have h1 : ¬ n < 1 := by omega
  have h2 : ¬ 65536 < n := by omega
  have HN := Lib.hid h
  clear h
  go_enter Try.func25, Try.ntmps25
  go_wp2
  go_ret2
  exact ⟨w.heap.size, rfl, ⟨Nat.le_refl _, Nat.le_refl _, by simp, heap_alloc_new w _, ⟨[], World.ownsRow_nil _ _ _ _, fun i x hx => by simp at hx⟩, .inl rfl, Nat.le_refl _, by have := HN.out; simp; omega, HN.out, .inr ⟨rfl, rfl⟩⟩, (Below.refl _ _).alloc (Nat.le_refl _) _⟩
end Go.Proofs.Ytgomnifcgaigkaa
