/- Walks: Clone, Load, New, is, All, Now, Tick, Until. -/
import Derived.Test.YtllbcohfelgamaaProg
import Derived.Test.YtllbcohfelgamaaCa
import Derived.Deep.RegionWith
import Derived.WalkLawsBesides
import Derived.LaidEqlPtr
namespace Go.Proofs.Ytllbcohfelgamaa
open Go.RowKit
set_option linter.unusedVariables false

theorem eql_nil (w : World) (A : Option Addr) (n c : Nat) : (binOp .eql 29 (.slice A n c) (.slice none 0 0)).run Try.prog w = .ok (.bool A.isNone) w := Lib.run_eql_slice_nil w 29 3 A n c 0 0 Try.underlying29
theorem eql_self (w : World) (a : Addr) : (binOp .eql 25 (.pointer (some a)) (.pointer (some a))).run Try.prog w = .ok (.bool true) w := by
  obtain ⟨j, hj⟩ := Option.isSome_iff_exists.1 (show (Try.prog.info? 61).isSome = true by kernel_rfl)
  exact run_eql_ptr_same w a Try.underlying25 hj

set_option maxRecDepth 20000 in
theorem Clone_any (A : Option Addr) (n c : Nat) (l : List Int) (w : World) (h : Sees w 1 A n c (l.map (Value.int .i64))) (hn : n ≤ 100000) :
    Calls Try.prog 29 #[.slice A n c] w fun e w' => ∃ A' c', e = .returned (.slice A' n c') ∧ w'.ownsRow w.heap.size 3 1 (.slice A' n c') n (l.map (Value.int .i64)) ∧ Below w.heap.size w w' := by
  have hE := eql_nil
  cases A with
  | none =>
    have hc := h.nil_ rfl
    have hn0 : n = 0 := by have := h.cap; omega
    subst hn0 hc
    obtain rfl : l = [] := by have := h.length; exact List.eq_nil_of_length_eq_zero this
    go_enter Try.func29, Try.ntmps29
    go_wp2
    go_ret
    exact ⟨none, 0, rfl, World.ownsRow_nil _ _ _ _, Below.refl _ _⟩
  | some a =>
    go_enter Try.func29, Try.ntmps29
    go_wp2_with (at_builtin; refine wpList_app E_int rfl _ _ rfl rfl (World.ownsRow_lit (base := w.heap.size) (e := 3) (size := 1) w #[] 0 (Nat.le_refl _) (by decide) rfl) rfl (h.below ((Below.refl _ _).alloc (Nat.le_refl _) _) (Nat.le_refl _)) (ints1 _ _) (by simp [maxLen]; omega) (by omega) (by simp) ?_; intro A2 c2 w2 hown2 hg2 hb2)
    go_ret
    have hb := ((Below.refl w.heap.size w).alloc (Nat.le_refl _) (.cells #[] 3)).trans hb2
    rw [Nat.zero_add] at hown2
    exact ⟨A2, c2, by simp, by simpa using hown2, hb⟩

set_option maxRecDepth 20000 in
theorem is_any (B p g c n : Nat) (xs : List Int) (w : World) (h : Clk w B p g c n xs) :
    Calls Try.prog 28 #[.pointer (some ⟨p, 0, none⟩)] w fun e w' => e = .returned (.bool true) ∧ w = w' := by
  have h1 := h.self
  have hE := eql_self
  go_enter Try.func28, Try.ntmps28
  go_wp2
  go_ret
  exact ⟨rfl, rfl⟩

set_option maxRecDepth 20000 in
theorem All_any (B p g c n : Nat) (xs : List Int) (w : World) (h : Clk w B p g c n xs) (hn : n ≤ 100000) :
    Calls Try.prog 15 #[.pointer (some ⟨p, 0, none⟩)] w fun e w' => ∃ A' c', e = .returned (.slice A' n c') ∧ w'.ownsRow w.heap.size 3 1 (.slice A' n c') n (xs.map (Value.int .i64)) ∧ Below w.heap.size w w' := by
  have h1 := h.times
  go_enter Try.func15, Try.ntmps15
  go_wp2_with (first
    | (go_at_call 28; refine (is_any _ _ _ _ _ _ _ h).mono ?_; rintro e w1 ⟨rfl, rfl⟩)
    | (go_at_call 29; refine (Clone_any _ _ _ xs _ h.sees hn).mono ?_; rintro e w2 ⟨A2, c2, rfl, o2, b2⟩))
  go_ret
  exact ⟨A2, c2, rfl, o2, b2⟩

set_option maxRecDepth 20000 in
theorem Now_ok (B p g c n k : Nat) (xs : List Int) (w : World) (h : Clk w B p g c n xs) (hk : k < n) (hn : n ≤ 100000) :
    Calls Try.prog 25 #[.pointer (some ⟨p, 0, none⟩), .int .i64 (k : Int)] w fun e w' => e = .returned (.tuple #[.int .i64 (xs.getD k 0), .int .i64 0]) ∧ w = w' := by
  have h1 := h.times
  have h2 := h.at_ hk
  generalize xs.getD k 0 = x at h2
  have HC := Lib.hid h
  have d0 : decide ((k : Int) < 0) = false := by simp
  have d1 : decide ((n : Int) ≤ (k : Int)) = false := by simp; omega
  have d1' : decide (n ≤ k) = false := by simp; omega
  have d2 : decide ((k : Int) < (n : Int)) = true := by simp; omega
  have hk2 : (k : Int) < (n : Int) := by omega
  clear h
  go_enter Try.func25, Try.ntmps25
  go_wp2_with (go_at_call 28; refine (is_any _ _ _ _ _ _ _ HC.out).mono ?_; rintro e w1 ⟨rfl, rfl⟩)
  go_ret2
  exact ⟨rfl, rfl⟩

set_option maxRecDepth 20000 in
theorem Now_bad (B p g c n : Nat) (k : Int) (xs : List Int) (w : World) (h : Clk w B p g c n xs) (hk : k < 0 ∨ (n : Int) ≤ k) :
    Calls Try.prog 25 #[.pointer (some ⟨p, 0, none⟩), .int .i64 k] w fun e w' => e = .returned (.tuple #[.int .i64 0, .int .i64 290]) ∧ w = w' := by
  have h1 := h.times
  have HC := Lib.hid h
  clear h
  by_cases h0 : k < 0
  · go_enter Try.func25, Try.ntmps25
    go_wp2_with (go_at_call 28; refine (is_any _ _ _ _ _ _ _ HC.out).mono ?_; rintro e w1 ⟨rfl, rfl⟩)
    go_ret2
    exact ⟨rfl, rfl⟩
  · have d0 : decide (k < 0) = false := by simp; omega
    have d1 : decide ((n : Int) ≤ k) = true := by simp; omega
    clear hk h0
    go_enter Try.func25, Try.ntmps25
    go_wp2_with (go_at_call 28; refine (is_any _ _ _ _ _ _ _ HC.out).mono ?_; rintro e w1 ⟨rfl, rfl⟩)
    go_ret2
    exact ⟨rfl, rfl⟩

set_option maxRecDepth 20000 in
set_option maxHeartbeats 800000 in
theorem Tick_ok (B p g c n k : Nat) (d x : Int) (xs : List Int) (w : World) (h : Clk w B p g c n xs) (hk : k < n) (hn : n ≤ 100000) (hx : xs.getD k 0 = x) (hx2 : 0 ≤ x ∧ x ≤ 281474976710656) (hd : 0 ≤ d ∧ d ≤ 281474976710656 - x) :
    Calls Try.prog 14 #[.pointer (some ⟨p, 0, none⟩), .int .i64 (k : Int), .int .i64 d] w fun e w' => e = .returned (.tuple #[.int .i64 (x + d), .int .i64 0]) ∧ w' = w.setCell ⟨g, k, none⟩ (.int .i64 (x + d)) := by
  have h1 := h.times
  have h2 := h.at_ hk
  have h3 := h.free hk
  have HX := Lib.hid hx
  rw [hx] at h2
  have HC := Lib.hid h
  have HK := Lib.hid hk
  have HN := Lib.hid hn
  have d2 : decide ((k : Int) < (n : Int)) = true := by simp; omega
  have hk2 : (k : Int) < (n : Int) := by omega
  clear h hk hx hn
  go_enter Try.func14, Try.ntmps14
  go_wp2_with (go_at_call 25; refine (Now_ok _ _ _ _ _ _ _ _ HC.out HK.out HN.out).mono ?_; rw [HX.out]; rintro e w1 ⟨rfl, rfl⟩)
  go_ret2
  exact ⟨rfl, rfl⟩

set_option maxRecDepth 20000 in
theorem Tick_cpu (B p g c n : Nat) (k d : Int) (xs : List Int) (w : World) (h : Clk w B p g c n xs) (hk : k < 0 ∨ (n : Int) ≤ k) :
    Calls Try.prog 14 #[.pointer (some ⟨p, 0, none⟩), .int .i64 k, .int .i64 d] w fun e w' => e = .returned (.tuple #[.int .i64 0, .int .i64 290]) ∧ w = w' := by
  have HC := Lib.hid h
  have HK := Lib.hid hk
  clear h hk
  go_enter Try.func14, Try.ntmps14
  go_wp2_with (go_at_call 25; refine (Now_bad _ _ _ _ _ _ _ _ HC.out HK.out).mono ?_; rintro e w1 ⟨rfl, rfl⟩)
  go_ret2
  exact ⟨rfl, rfl⟩
set_option maxRecDepth 20000 in
theorem Until_cpu (B p g c n : Nat) (k d : Int) (xs : List Int) (w : World) (h : Clk w B p g c n xs) (hk : k < 0 ∨ (n : Int) ≤ k) :
    Calls Try.prog 17 #[.pointer (some ⟨p, 0, none⟩), .int .i64 k, .int .i64 d] w fun e w' => e = .returned (.tuple #[.int .i64 0, .int .i64 290]) ∧ w = w' := by
  have HC := Lib.hid h
  have HK := Lib.hid hk
  clear h hk
  go_enter Try.func17, Try.ntmps17
  go_wp2_with (go_at_call 25; refine (Now_bad _ _ _ _ _ _ _ _ HC.out HK.out).mono ?_; rintro e w1 ⟨rfl, rfl⟩)
  go_ret2
  exact ⟨rfl, rfl⟩

set_option maxRecDepth 20000 in
theorem Tick_neg (B p g c n k : Nat) (d : Int) (xs : List Int) (w : World) (h : Clk w B p g c n xs) (hk : k < n) (hn : n ≤ 100000) (hd : d < 0) :
    Calls Try.prog 14 #[.pointer (some ⟨p, 0, none⟩), .int .i64 (k : Int), .int .i64 d] w fun e w' => e = .returned (.tuple #[.int .i64 0, .int .i64 2]) ∧ w = w' := by
  have HC := Lib.hid h
  have HK := Lib.hid hk
  have HN := Lib.hid hn
  obtain ⟨x, hx⟩ : ∃ x, xs.getD k 0 = x := ⟨_, rfl⟩
  have HX := Lib.hid hx
  clear h hk hn hx
  go_enter Try.func14, Try.ntmps14
  go_wp2_with (go_at_call 25; refine (Now_ok _ _ _ _ _ _ _ _ HC.out HK.out HN.out).mono ?_; rw [HX.out]; rintro e w1 ⟨rfl, rfl⟩)
  go_ret2
  exact ⟨rfl, rfl⟩

set_option maxRecDepth 20000 in
theorem Tick_full (B p g c n k : Nat) (d x : Int) (xs : List Int) (w : World) (h : Clk w B p g c n xs) (hk : k < n) (hn : n ≤ 100000) (hx : xs.getD k 0 = x) (hx2 : 0 ≤ x ∧ x ≤ 281474976710656) (hd : 281474976710656 - x < d) :
    Calls Try.prog 14 #[.pointer (some ⟨p, 0, none⟩), .int .i64 (k : Int), .int .i64 d] w fun e w' => e = .returned (.tuple #[.int .i64 0, .int .i64 4]) ∧ w = w' := by
  have HC := Lib.hid h
  have HK := Lib.hid hk
  have HN := Lib.hid hn
  have HX := Lib.hid hx
  have hd0 : ¬ d < 0 := by omega
  clear h hk hn hx
  go_enter Try.func14, Try.ntmps14
  go_wp2_with (go_at_call 25; refine (Now_ok _ _ _ _ _ _ _ _ HC.out HK.out HN.out).mono ?_; rw [HX.out]; rintro e w1 ⟨rfl, rfl⟩)
  go_ret2
  exact ⟨rfl, rfl⟩

set_option maxRecDepth 20000 in
set_option maxHeartbeats 800000 in
theorem Until_ok (B p g c n k : Nat) (t x : Int) (xs : List Int) (w : World) (h : Clk w B p g c n xs) (hk : k < n) (hn : n ≤ 100000) (hx : xs.getD k 0 = x) (hx2 : 0 ≤ x ∧ x ≤ 281474976710656) (ht : x ≤ t ∧ t ≤ 281474976710656) :
    Calls Try.prog 17 #[.pointer (some ⟨p, 0, none⟩), .int .i64 (k : Int), .int .i64 t] w fun e w' => e = .returned (.tuple #[.int .i64 (t - x), .int .i64 0]) ∧ w' = w.setCell ⟨g, k, none⟩ (.int .i64 t) := by
  have h1 := h.times
  have h2 := h.at_ hk
  have h3 := h.free hk
  have HX := Lib.hid hx
  rw [hx] at h2
  have HC := Lib.hid h
  have HK := Lib.hid hk
  have HN := Lib.hid hn
  have d2 : decide ((k : Int) < (n : Int)) = true := by simp; omega
  have hk2 : (k : Int) < (n : Int) := by omega
  have ht0 : 0 ≤ t := by omega
  clear h hk hx hn
  go_enter Try.func17, Try.ntmps17
  go_wp2_with (go_at_call 25; refine (Now_ok _ _ _ _ _ _ _ _ HC.out HK.out HN.out).mono ?_; rw [HX.out]; rintro e w1 ⟨rfl, rfl⟩)
  go_ret2
  exact ⟨rfl, rfl⟩

set_option maxRecDepth 20000 in
theorem Until_arg (B p g c n k : Nat) (t : Int) (xs : List Int) (w : World) (h : Clk w B p g c n xs) (hk : k < n) (hn : n ≤ 100000) (ht : t < 0 ∨ 281474976710656 < t) :
    Calls Try.prog 17 #[.pointer (some ⟨p, 0, none⟩), .int .i64 (k : Int), .int .i64 t] w fun e w' => e = .returned (.tuple #[.int .i64 0, .int .i64 2]) ∧ w = w' := by
  have HC := Lib.hid h
  have HK := Lib.hid hk
  have HN := Lib.hid hn
  obtain ⟨x, hx⟩ : ∃ x, xs.getD k 0 = x := ⟨_, rfl⟩
  have HX := Lib.hid hx
  clear h hk hn hx
  rcases ht with ht | ht
  · go_enter Try.func17, Try.ntmps17
    go_wp2_with (go_at_call 25; refine (Now_ok _ _ _ _ _ _ _ _ HC.out HK.out HN.out).mono ?_; rw [HX.out]; rintro e w1 ⟨rfl, rfl⟩)
    go_ret2
    exact ⟨rfl, rfl⟩
  · have ht0 : ¬ t < 0 := by omega
    go_enter Try.func17, Try.ntmps17
    go_wp2_with (go_at_call 25; refine (Now_ok _ _ _ _ _ _ _ _ HC.out HK.out HN.out).mono ?_; rw [HX.out]; rintro e w1 ⟨rfl, rfl⟩)
    go_ret2
    exact ⟨rfl, rfl⟩

set_option maxRecDepth 20000 in
theorem Until_back (B p g c n k : Nat) (t x : Int) (xs : List Int) (w : World) (h : Clk w B p g c n xs) (hk : k < n) (hn : n ≤ 100000) (hx : xs.getD k 0 = x) (ht : 0 ≤ t ∧ t ≤ 281474976710656 ∧ t < x) :
    Calls Try.prog 17 #[.pointer (some ⟨p, 0, none⟩), .int .i64 (k : Int), .int .i64 t] w fun e w' => e = .returned (.tuple #[.int .i64 0, .int .i64 291]) ∧ w = w' := by
  have HC := Lib.hid h
  have HK := Lib.hid hk
  have HN := Lib.hid hn
  have HX := Lib.hid hx
  obtain ⟨t1, t2, t3⟩ := ht
  have t4 : ¬ t < 0 := by omega
  have t5 : ¬ 281474976710656 < t := by omega
  clear h hk hn hx
  go_enter Try.func17, Try.ntmps17
  go_wp2_with (go_at_call 25; refine (Now_ok _ _ _ _ _ _ _ _ HC.out HK.out HN.out).mono ?_; rw [HX.out]; rintro e w1 ⟨rfl, rfl⟩)
  go_ret2
  exact ⟨rfl, rfl⟩
end Go.Proofs.Ytllbcohfelgamaa
