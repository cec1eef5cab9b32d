/- Walks: a reader's count. -/
import Derived.Test.YtgngeachgkappaaProg
import Derived.Test.YtgngeachgkappaaWe
namespace Go.Proofs.Ytgngeachgkappaa
open Go.RowKit
set_option linter.unusedVariables false

set_option maxRecDepth 20000 in
theorem undo_any (p bp br n c at_ q : Nat) (er : Int) (A : Option Addr) (bs : List Int) (w : World) (h : Rdr w p A n c bs at_) (hp : w.cell? ⟨bp, 0, none⟩ = some (.int .i64 (q : Int))) (hr : w.cell? ⟨br, 0, none⟩ = some (.pointer (some ⟨p, 0, none⟩))) (hq : q ≤ n) :
    Calls Try.prog 52 #[.int .i64 er, .pointer (some ⟨bp, 0, none⟩), .pointer (some ⟨br, 0, none⟩)] w fun e w' => e = .returned (.tuple #[.int .i64 0, .int .i64 er]) ∧ Did p n c q A bs w w' := by
  have h1 := h.c1
  have f1 := h.f1
  have HM := Lib.hid (h.move q hq)
  clear h hq
  go_enter Try.func52, Try.ntmps52
  go_wp2
  go_ret2
  exact ⟨rfl, HM.out, Keeps.set _ _ _ _⟩

set_option maxRecDepth 20000 in
theorem Count_bad (p n c at_ : Nat) (most size : Int) (A : Option Addr) (bs : List Int) (w : World) (h : Rdr w p A n c bs at_) (hb : most < 0 ∨ size < 1) :
    Calls Try.prog 32 #[.pointer (some ⟨p, 0, none⟩), .int .i64 most, .int .i64 size] w fun e w' => e = .returned (.tuple #[.int .i64 0, .int .i64 2]) ∧ Did p n c at_ A bs w w' := by
  have HB1 := Lib.hid ((Below.refl w.heap.size w).alloc (Nat.le_refl _) (.cells #[.pointer (some ⟨p, 0, none⟩)] 38))
  have HR1 := Lib.hid (h.below HB1.out)
  clear h
  rcases hb with hb | hb
  · have d1 : decide (most < 0) = true := by simpa using hb
    clear hb
    go_enter Try.func32, Try.ntmps32
    go_wp2_with ((go_at_call 39; refine (isR_any _ _ _ _ _ _ _ HR1.out).mono ?_; rintro e w1 ⟨rfl, rfl⟩))
    go_ret2
    exact ⟨rfl, HR1.out, Keeps.of_below HB1.out⟩
  · have d2 : decide (size < 1) = true := by simpa using hb
    by_cases hm : most < 0
    · have d1 : decide (most < 0) = true := by simpa using hm
      clear hb hm
      go_enter Try.func32, Try.ntmps32
      go_wp2_with ((go_at_call 39; refine (isR_any _ _ _ _ _ _ _ HR1.out).mono ?_; rintro e w1 ⟨rfl, rfl⟩))
      go_ret2
      exact ⟨rfl, HR1.out, Keeps.of_below HB1.out⟩
    · have d1 : decide (most < 0) = false := by simpa using hm
      clear hb hm
      go_enter Try.func32, Try.ntmps32
      go_wp2_with ((go_at_call 39; refine (isR_any _ _ _ _ _ _ _ HR1.out).mono ?_; rintro e w1 ⟨rfl, rfl⟩))
      go_ret2
      exact ⟨rfl, HR1.out, Keeps.of_below HB1.out⟩

theorem Keeps.cell {G : Nat} {w w' : World} (h : Keeps G w w') {a : Addr} (hs : a.block < w.heap.size) (hg : a.block ≠ G) : w'.cell? a = w.cell? a := World.cell?_of_block (h.block _ hs hg)

set_option maxRecDepth 20000 in
set_option maxHeartbeats 1600000 in
theorem Count_fail (p n c at_ : Nat) (most size er : Int) (A : Option Addr) (bs : List Int) (w : World) (h : Rdr w p A n c bs at_) (hm : 0 ≤ most) (hm2 : most ≤ 9223372036854775807) (hs : 1 ≤ size) (he : er ≠ 0)
    (hnum : ∀ w1, Rdr w1 p A n c bs at_ → Calls Try.prog 23 #[.pointer (some ⟨p, 0, none⟩), .int .u64 most] w1 fun e w' => e = .returned (.tuple #[.int .u64 0, .int .i64 er]) ∧ Did p n c at_ A bs w1 w') :
    Calls Try.prog 32 #[.pointer (some ⟨p, 0, none⟩), .int .i64 most, .int .i64 size] w fun e w' => e = .returned (.tuple #[.int .i64 0, .int .i64 er]) ∧ Did p n c at_ A bs w w' := by
  have hmf : ∀ (fn : Fn) (first cap : Array Value) (w : World), (Instr.makeFunc fn first cap).run Try.prog w = .ok (.func fn first cap) w := fun _ _ _ _ => rfl
  have HP := Lib.hid h.plt
  have HLE := Lib.hid h.le
  have hB1 := (Below.refl w.heap.size w).alloc (Nat.le_refl _) (.cells #[.pointer (some ⟨p, 0, none⟩)] 38)
  have HR1 := Lib.hid (h.below hB1)
  have hB3 := hB1.alloc (hB1.size) (.cells #[.int .i64 (at_ : Int)] 3)
  have HR3 := Lib.hid (h.below hB3)
  have HB3 := Lib.hid hB3
  obtain ⟨W, HW⟩ : ∃ W, Hid (W = (w.alloc (.cells #[.pointer (some ⟨p, 0, none⟩)] 38)).alloc (.cells #[.int .i64 (at_ : Int)] 3)) := ⟨_, Lib.hid rfl⟩
  have q0 : Hid (W.cell? ⟨w.heap.size, 0, none⟩ = some (.pointer (some ⟨p, 0, none⟩))) := Lib.hid (by rw [HW.out]; simp)
  have q1 : Hid (W.cell? ⟨w.heap.size + 1, 0, none⟩ = some (.int .i64 (at_ : Int))) := Lib.hid (by rw [HW.out]; simp)
  have HSZ : Hid (W.heap.size = w.heap.size + 2) := Lib.hid (by rw [HW.out]; simp)
  rw [← HW.out] at HR3 HB3
  have d1 : decide (most < 0) = false := by simpa using hm
  have d2 : decide (size < 1) = false := by simp; omega
  have d3 : (er != 0) = true := by simpa using he
  have g1 := HR1.out.c1
  have HNUM := Lib.hid (hnum W HR3.out)
  clear h hs hB1 hB3 he hnum
  go_enter Try.func32, Try.ntmps32
  go_wp2_with (first
    | (go_at_call 52; refine (undo_any p _ _ n c at_ at_ er A bs w4 h4.out.1 q1' q0' HLE.out).mono ?_; rintro e w5 ⟨rfl, hr5, hk5⟩; have HF := Lib.hid (And.intro hr5 (((Keeps.of_below HB3.out).trans h4.out.2).trans hk5)); clear hr5 hk5)
    | (go_at_call 23; rw [← HW.out]; refine HNUM.out.mono ?_; rintro e w4 ⟨rfl, h4⟩; have h4 := Lib.hid h4; have q0' := (h4.out.2.cell (a := ⟨w.heap.size, 0, none⟩) (by rw [HSZ.out]; show w.heap.size < _; omega) (by have := HP.out; show w.heap.size ≠ p; omega)).trans q0.out; have q1' := (h4.out.2.cell (a := ⟨w.heap.size + 1, 0, none⟩) (by rw [HSZ.out]; show w.heap.size + 1 < _; omega) (by have := HP.out; show w.heap.size + 1 ≠ p; omega)).trans q1.out)
    | (go_at_call 39; refine (isR_any _ _ _ _ _ _ _ HR1.out).mono ?_; rintro e w1 ⟨rfl, rfl⟩))
  go_ret2
  exact ⟨rfl, HF.out⟩

set_option maxRecDepth 20000 in
set_option maxHeartbeats 1600000 in
theorem Count_in (p n c at_ q : Nat) (most size x : Int) (A : Option Addr) (bs : List Int) (w : World) (h : Rdr w p A n c bs at_) (hn : n ≤ 100000000) (hm : 0 ≤ most) (hm2 : most ≤ 9223372036854775807) (hs : 1 ≤ size) (hs2 : size ≤ 9223372036854775807) (hx0 : 0 ≤ x) (hx : x ≤ most)
    (hnum : ∀ w1, Rdr w1 p A n c bs at_ → Calls Try.prog 23 #[.pointer (some ⟨p, 0, none⟩), .int .u64 most] w1 fun e w' => e = .returned (.tuple #[.int .u64 x, .int .i64 0]) ∧ Did p n c q A bs w1 w') :
    Calls Try.prog 32 #[.pointer (some ⟨p, 0, none⟩), .int .i64 most, .int .i64 size] w fun e w' => ((((n - q : Nat) : Int) / size < x ∧ e = .returned (.tuple #[.int .i64 0, .int .i64 20]) ∧ Did p n c at_ A bs w w') ∨ (x ≤ ((n - q : Nat) : Int) / size ∧ e = .returned (.tuple #[.int .i64 x, .int .i64 0]) ∧ Did p n c q A bs w w')) := by
  have hmf : ∀ (fn : Fn) (first cap : Array Value) (w : World), (Instr.makeFunc fn first cap).run Try.prog w = .ok (.func fn first cap) w := fun _ _ _ _ => rfl
  have HP := Lib.hid h.plt
  have HLE := Lib.hid h.le
  have HN := Lib.hid hn
  have hB1 := (Below.refl w.heap.size w).alloc (Nat.le_refl _) (.cells #[.pointer (some ⟨p, 0, none⟩)] 38)
  have HR1 := Lib.hid (h.below hB1)
  have hB3 := hB1.alloc (hB1.size) (.cells #[.int .i64 (at_ : Int)] 3)
  have HR3 := Lib.hid (h.below hB3)
  have HB3 := Lib.hid hB3
  obtain ⟨W, HW⟩ : ∃ W, Hid (W = (w.alloc (.cells #[.pointer (some ⟨p, 0, none⟩)] 38)).alloc (.cells #[.int .i64 (at_ : Int)] 3)) := ⟨_, Lib.hid rfl⟩
  have q0 : Hid (W.cell? ⟨w.heap.size, 0, none⟩ = some (.pointer (some ⟨p, 0, none⟩))) := Lib.hid (by rw [HW.out]; simp)
  have q1 : Hid (W.cell? ⟨w.heap.size + 1, 0, none⟩ = some (.int .i64 (at_ : Int))) := Lib.hid (by rw [HW.out]; simp)
  have HSZ : Hid (W.heap.size = w.heap.size + 2) := Lib.hid (by rw [HW.out]; simp)
  rw [← HW.out] at HR3 HB3
  have d1 : decide (most < 0) = false := by simpa using hm
  have d2 : decide (size < 1) = false := by simp; omega
  have g1 := HR1.out.c1
  have HNUM := Lib.hid (hnum W HR3.out)
  have hq1 : (((n - q : Nat) : Int).tdiv size) = ((n - q : Nat) : Int) / size := Int.tdiv_eq_ediv_of_nonneg (by omega)
  have hq0 : 0 ≤ ((n - q : Nat) : Int) / size := Int.ediv_nonneg (by omega) (by omega)
  have hq2 : ((n - q : Nat) : Int) / size ≤ 100000000 := Int.le_trans (Int.ediv_le_self _ (by omega)) (by omega)
  have hx9 : x ≤ 9223372036854775807 := by omega
  have HX := Lib.hid hx
  have hsz0 : ¬ size = 0 := by omega
  have hszm : ¬ size = -1 := by omega
  clear h hs hB1 hB3 hnum hn hx
  by_cases hlt : ((n - q : Nat) : Int) / size < x
  · have d5 : decide (((n - q : Nat) : Int) / size < x) = true := by simpa using hlt
    have HLT := Lib.hid hlt
    clear hlt
    go_enter Try.func32, Try.ntmps32
    go_wp2_with (first
      | (go_at_call 52; refine (undo_any p _ _ n c q at_ 20 A bs w5 (h4.out.1.below b5.out) ((b5.out.cell (p := ⟨w.heap.size + 1, 0, none⟩) hs1.out).trans q1') ((b5.out.cell (p := ⟨w.heap.size, 0, none⟩) hs0.out).trans q0') HLE.out).mono ?_; rintro e w6 ⟨rfl, hr6, hk6⟩; have HF := Lib.hid (And.intro hr6 ((((Keeps.of_below HB3.out).trans h4.out.2).trans (Keeps.of_below b5.out)).trans hk6)); clear hr6 hk6)
      | (go_at_call 40; refine (roomR_any _ _ _ _ _ _ _ h4.out.1 HN.out).mono ?_; rintro e w5 ⟨rfl, b5⟩; have b5 := Lib.hid b5)
      | (go_at_call 23; rw [← HW.out]; refine HNUM.out.mono ?_; rintro e w4 ⟨rfl, h4⟩; have h4 := Lib.hid h4; have q0' := (h4.out.2.cell (a := ⟨w.heap.size, 0, none⟩) (by rw [HSZ.out]; show w.heap.size < _; omega) (by have := HP.out; show w.heap.size ≠ p; omega)).trans q0.out; have q1' := (h4.out.2.cell (a := ⟨w.heap.size + 1, 0, none⟩) (by rw [HSZ.out]; show w.heap.size + 1 < _; omega) (by have := HP.out; show w.heap.size + 1 ≠ p; omega)).trans q1.out; have hs0 : Hid (w.heap.size < w4.heap.size) := Lib.hid (by have := h4.out.2.size; rw [HSZ.out] at this; omega); have hs1 : Hid (w.heap.size + 1 < w4.heap.size) := Lib.hid (by have := h4.out.2.size; rw [HSZ.out] at this; omega))
      | (go_at_call 39; refine (isR_any _ _ _ _ _ _ _ HR1.out).mono ?_; rintro e w1 ⟨rfl, rfl⟩))
    go_ret2
    exact Or.inl ⟨HLT.out, rfl, HF.out⟩
  · have d5 : decide (((n - q : Nat) : Int) / size < x) = false := by simpa using hlt
    have HLT := Lib.hid (Int.not_lt.1 hlt)
    clear hlt
    go_enter Try.func32, Try.ntmps32
    go_wp2_with (first
      | (go_at_call 40; refine (roomR_any _ _ _ _ _ _ _ h4.out.1 HN.out).mono ?_; rintro e w5 ⟨rfl, b5⟩; have b5 := Lib.hid b5)
      | (go_at_call 23; rw [← HW.out]; refine HNUM.out.mono ?_; rintro e w4 ⟨rfl, h4⟩; have h4 := Lib.hid h4; have q0' := (h4.out.2.cell (a := ⟨w.heap.size, 0, none⟩) (by rw [HSZ.out]; show w.heap.size < _; omega) (by have := HP.out; show w.heap.size ≠ p; omega)).trans q0.out)
      | (go_at_call 39; refine (isR_any _ _ _ _ _ _ _ HR1.out).mono ?_; rintro e w1 ⟨rfl, rfl⟩))
    go_ret2
    exact Or.inr ⟨HLT.out, rfl, h4.out.1.below b5.out, ((Keeps.of_below HB3.out).trans h4.out.2).trans (Keeps.of_below b5.out)⟩
end Go.Proofs.Ytgngeachgkappaa
