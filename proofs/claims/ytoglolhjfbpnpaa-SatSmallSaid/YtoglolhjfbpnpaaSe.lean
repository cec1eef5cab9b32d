/- Walks: the law's awake. -/
import Derived.Test.YtoglolhjfbpnpaaProg
import Derived.Test.YtoglolhjfbpnpaaSd
namespace Go.Proofs.Ytoglolhjfbpnpaa
open Go.RowKit
set_option linter.unusedVariables false

theorem Wide_lit {A B HI LO : Int} (a b hi lo : Nat) (hA : A = (a : Int)) (hB : B = (b : Int)) (ha : a < 18446744073709551616) (hb : b < 18446744073709551616) (h1 : a * b / 18446744073709551616 = hi) (h2 : a * b % 18446744073709551616 = lo) (h3 : HI = (hi : Int)) (h4 : LO = (lo : Int)) (w : World) :
    Calls Try.prog 15 #[.int .u64 A, .int .u64 B] w fun e w' => e = .returned (.tuple #[.int .u64 HI, .int .u64 LO]) ∧ Below w.heap.size w w' := by
  subst hA hB h1 h2 h3 h4
  exact Wide_any a b w ha hb
theorem Over_lit {A B D Q R E : Int} (a b d q r c : Nat) (hA : A = (a : Int)) (hB : B = (b : Int)) (hD : D = (d : Int)) (ha : a < 18446744073709551616) (hb : b < 18446744073709551616) (hd : d < 18446744073709551616) (h1 : over a b d = (q, r, c)) (h2 : Q = (q : Int)) (h3 : R = (r : Int)) (h4 : E = (c : Int)) (w : World) :
    Calls Try.prog 17 #[.int .u64 A, .int .u64 B, .int .u64 D] w fun e w' => e = .returned (.tuple #[.int .u64 Q, .int .u64 R, .int .i64 E]) ∧ w = w' := by
  subst hA hB hD h2 h3 h4
  have := Over_any a b d w ha hb hd
  rw [h1] at this
  exact this
theorem Scale_lit {A B D Q R E : Int} (a b d q r c : Nat) (hA : A = (a : Int)) (hB : B = (b : Int)) (hD : D = (d : Int)) (ha : a < 18446744073709551616) (hb : b < 18446744073709551616) (hd : d < 18446744073709551616) (h1 : scale a b d = (q, r, c)) (h2 : Q = (q : Int)) (h3 : R = (r : Int)) (h4 : E = (c : Int)) (w : World) :
    Calls Try.prog 16 #[.int .u64 A, .int .u64 B, .int .u64 D] w fun e w' => e = .returned (.tuple #[.int .u64 Q, .int .u64 R, .int .i64 E]) ∧ Below w.heap.size w w' := by
  subst hA hB hD h2 h3 h4
  have := Scale_any a b d w ha hb hd
  rw [h1] at this
  exact this
theorem Add_lit {A B C : Int} (a b c : Nat) (hA : A = (a : Int)) (hB : B = (b : Int)) (ha : a < 18446744073709551616) (hb : b < 18446744073709551616) (h1 : sAdd a b = c) (h2 : C = (c : Int)) (w : World) :
    Calls Try.prog 19 #[.int .u64 A, .int .u64 B] w fun e w' => e = .returned (.int .u64 C) ∧ w = w' := by
  subst hA hB h1 h2
  exact Add_any a b w ha hb
theorem Sub_lit {A B C : Int} (a b c : Nat) (hA : A = (a : Int)) (hB : B = (b : Int)) (ha : a < 18446744073709551616) (hb : b < 18446744073709551616) (h1 : sSub a b = c) (h2 : C = (c : Int)) (w : World) :
    Calls Try.prog 20 #[.int .u64 A, .int .u64 B] w fun e w' => e = .returned (.int .u64 C) ∧ w = w' := by
  subst hA hB h1 h2
  exact Sub_any a b w ha hb
theorem Mul_lit {A B C : Int} (a b c : Nat) (hA : A = (a : Int)) (hB : B = (b : Int)) (ha : a < 18446744073709551616) (hb : b < 18446744073709551616) (h1 : sMul a b = c) (h2 : C = (c : Int)) (w : World) :
    Calls Try.prog 23 #[.int .u64 A, .int .u64 B] w fun e w' => e = .returned (.int .u64 C) ∧ Below w.heap.size w w' := by
  subst hA hB h1 h2
  exact Mul_any a b w ha hb
theorem Shift_lit {A B D C : Int} (a b d c : Nat) (hA : A = (a : Int)) (hB : B = (b : Int)) (hD : D = (d : Int)) (ha : a < 18446744073709551616) (hb : b < 18446744073709551616) (hd : d < 18446744073709551616) (h1 : sShift a b d = c) (h2 : C = (c : Int)) (w : World) :
    Calls Try.prog 18 #[.int .u64 A, .int .u64 B, .int .u64 D] w fun e w' => e = .returned (.int .u64 C) ∧ w = w' := by
  subst hA hB hD h1 h2
  exact Shift_any a b d w ha hb hd

set_option maxRecDepth 20000 in
set_option maxHeartbeats 800000 in
theorem awake_any (w : World) : Calls Try.prog 13 #[] w fun e w' => e = .returned (.bool true) ∧ Below w.heap.size w w' := by
  go_enter Try.func13, Try.ntmps13
  go_wp2_with (first
    | (go_at_call 15; refine (Wide_lit (HI := 18446744073709551614) (LO := 1) 18446744073709551615 18446744073709551615 18446744073709551614 1 (by rfl) (by rfl) (by decide) (by decide) (by decide) (by decide) rfl rfl _).mono ?_; rintro e w1 ⟨rfl, hb1⟩)
    | (go_at_call 15; refine (Wide_lit (HI := 1) (LO := 0) 4294967296 4294967296 1 0 (by rfl) (by rfl) (by decide) (by decide) (by decide) (by decide) rfl rfl _).mono ?_; rintro e w2 ⟨rfl, hb2⟩)
    | (go_at_call 17; refine (Over_lit (Q := 6148914691236517205) (R := 1) (E := 0) 1 0 3 6148914691236517205 1 0 (by rfl) (by rfl) (by rfl) (by decide) (by decide) (by decide) (by decide) rfl rfl rfl _).mono ?_; rintro e w3 ⟨rfl, rfl⟩)
    | (go_at_call 17; refine (Over_lit (Q := 0) (R := 0) (E := 150) 3 0 3 0 0 150 (by rfl) (by rfl) (by rfl) (by decide) (by decide) (by decide) (by decide) rfl rfl rfl _).mono ?_; rintro e w3 ⟨rfl, rfl⟩)
    | (go_at_call 16; refine (Scale_lit (Q := 7) (R := 2) (E := 0) 10 3 4 7 2 0 (by rfl) (by rfl) (by rfl) (by decide) (by decide) (by decide) (by decide) rfl rfl rfl _).mono ?_; rintro e w4 ⟨rfl, hb4⟩)
    | (go_at_call 16; refine (Scale_lit (Q := 18446744073709551615) (R := 0) (E := 0) 18446744073709551615 18446744073709551615 2 18446744073709551615 0 0 (by rfl) (by rfl) (by rfl) (by decide) (by decide) (by decide) (by decide) rfl rfl rfl _).mono ?_; rintro e w5 ⟨rfl, hb5⟩)
    | (go_at_call 19; refine (Add_lit (C := 18446744073709551615) 18446744073709551615 1 18446744073709551615 (by rfl) (by rfl) (by decide) (by decide) (by decide) rfl _).mono ?_; rintro e w3 ⟨rfl, rfl⟩)
    | (go_at_call 20; refine (Sub_lit (C := 0) 3 5 0 (by rfl) (by rfl) (by decide) (by decide) (by decide) rfl _).mono ?_; rintro e w3 ⟨rfl, rfl⟩)
    | (go_at_call 23; refine (Mul_lit (C := 18446744073709551615) 4294967296 4294967296 18446744073709551615 (by rfl) (by rfl) (by decide) (by decide) (by decide) rfl _).mono ?_; rintro e w6 ⟨rfl, hb6⟩)
    | (go_at_call 18; refine (Shift_lit (C := 103) 10 7 100 103 (by rfl) (by rfl) (by rfl) (by decide) (by decide) (by decide) (by decide) rfl _).mono ?_; rintro e w3 ⟨rfl, rfl⟩)
    | (go_at_call 18; refine (Shift_lit (C := 0) 4 7 2 0 (by rfl) (by rfl) (by rfl) (by decide) (by decide) (by decide) (by decide) rfl _).mono ?_; rintro e w3 ⟨rfl, rfl⟩)
    | (go_at_call 18; refine (Shift_lit (C := 18446744073709551615) 18446744073709551615 0 1 18446744073709551615 (by rfl) (by rfl) (by rfl) (by decide) (by decide) (by decide) (by decide) rfl _).mono ?_; rintro e w3 ⟨rfl, rfl⟩))
  go_ret
  exact ⟨rfl, below_step (below_step (below_step (below_step hb1 hb2) hb4) hb5) hb6⟩
end Go.Proofs.Ytoglolhjfbpnpaa
