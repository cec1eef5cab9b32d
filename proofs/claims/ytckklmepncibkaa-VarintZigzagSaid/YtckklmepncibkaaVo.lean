/- Walks: VarintZigzag, VarintOne. -/
import Derived.Test.YtckklmepncibkaaProg
import Derived.Test.YtckklmepncibkaaVl
import Derived.Test.YtckklmepncibkaaVn
namespace Go.Proofs.Ytckklmepncibkaa
open Go.RowKit
set_option linter.unusedVariables false

theorem zz_nat (n : Int) (h0 : -9223372036854775808 ≤ n) (h1 : n ≤ 9223372036854775807) : ∃ p : Nat, zz n = (p : Int) ∧ p < 18446744073709551616 ∧ uz p = n := by
  refine ⟨(zz n).toNat, ?_, ?_, ?_⟩ <;> unfold zz
  · split <;> omega
  · split <;> omega
  · unfold uz
    by_cases h : 0 ≤ n
    · simp only [if_pos h]; rw [if_pos (by omega)]; omega
    · simp only [if_neg h]; rw [if_neg (by omega)]; omega
theorem uz_in (x : Nat) (h : x < 18446744073709551616) : -9223372036854775808 ≤ uz x ∧ uz x ≤ 9223372036854775807 ∧ zz (uz x) = (x : Int) := by
  unfold uz zz
  split <;> refine ⟨by omega, by omega, ?_⟩ <;> split <;> omega

theorem neg_wrap (a : Int) (h0 : -9223372036854775808 ≤ a) (h : a < 0) : IntKind.u64.wrap (-IntKind.u64.wrap a) = -a := by
  simp [IntKind.wrap, IntKind.signed, IntKind.bits]; omega
def amt (a : Int) : Int := if a < 0 then IntKind.u64.wrap (-IntKind.u64.wrap a) else IntKind.u64.wrap a
theorem amt_is (a : Int) (h0 : -9223372036854775808 ≤ a) (h1 : a ≤ 9223372036854775807) : (a < 0 ∧ amt a = -a) ∨ (0 ≤ a ∧ amt a = a) := by
  unfold amt
  by_cases h : a < 0
  · rw [if_pos h]; exact .inl ⟨h, neg_wrap a h0 h⟩
  · rw [if_neg h]; exact .inr ⟨by omega, IntWalk.u64_in _ (by omega)⟩
theorem zig_fin (a b : Int) (p q : Nat) (ha0 : -9223372036854775808 ≤ a) (ha1 : a ≤ 9223372036854775807) (hb0 : -9223372036854775808 ≤ b) (hb1 : b ≤ 9223372036854775807)
    (f3 : ∀ m n : Nat, ((a < 0 ∧ a = -(m : Int)) ∨ (0 ≤ a ∧ a = (m : Int))) → ((b < 0 ∧ b = -(n : Int)) ∨ (0 ≤ b ∧ b = (n : Int))) → m ≠ n → (m < n ↔ p < q)) :
    amt a = amt b ∨ (amt a < amt b ↔ p < q) := by
  have h1 := amt_is a ha0 ha1
  have h2 := amt_is b hb0 hb1
  by_cases e : amt a = amt b
  · exact .inl e
  · refine .inr ?_
    have := f3 (amt a).toNat (amt b).toNat (by omega) (by omega) (by omega)
    omega

set_option maxRecDepth 20000 in
set_option maxHeartbeats 800000 in
theorem VarintZigzag_any (x : Nat) (a b : Int) (w : World) (hx : x < 18446744073709551616) (ha0 : -9223372036854775808 ≤ a) (ha1 : a ≤ 9223372036854775807) (hb0 : -9223372036854775808 ≤ b) (hb1 : b ≤ 9223372036854775807) :
    Calls Try.prog 4 #[.int .u64 (x : Int), .int .i64 a, .int .i64 b] w fun e w' => e = .returned (.bool true) ∧ Below w.heap.size w w' := by
  obtain ⟨p, hp, hp2, hp3⟩ := zz_nat a ha0 ha1
  obtain ⟨q, hq, hq2, hq3⟩ := zz_nat b hb0 hb1
  obtain ⟨hu1, hu2, hu3⟩ := uz_in x hx
  obtain ⟨eqv, f1, f1'⟩ : ∃ eqv : Bool, ((p : Int) == (q : Int)) = eqv ∧ (a == b) = eqv := by
    refine ⟨_, ?_, rfl⟩
    have : p = q ↔ a = b := ⟨fun h => by rw [← hp3, ← hq3, h], fun h => by subst h; omega⟩
    rw [Bool.eq_iff_iff]; simp; omega
  obtain ⟨sa, f2, f2'⟩ : ∃ sa : Bool, (((p : Int)) % 2 == 1) = sa ∧ decide (a < 0) = sa := by
    refine ⟨_, ?_, rfl⟩
    rw [Bool.eq_iff_iff]; simp
    unfold zz at hp; split at hp <;> omega
  have f3 : ∀ m n : Nat, ((a < 0 ∧ a = -(m : Int)) ∨ (0 ≤ a ∧ a = (m : Int))) → ((b < 0 ∧ b = -(n : Int)) ∨ (0 ≤ b ∧ b = (n : Int))) → m ≠ n → (m < n ↔ p < q) := by
    intro m n h1 h2 h3
    unfold zz at hp hq
    split at hp <;> split at hq <;> omega
  have H := Lib.hid (And.intro hp (And.intro hq (And.intro hp3 (And.intro hu3 f3))))
  have HF := Lib.hid (zig_fin a b p q ha0 ha1 hb0 hb1 f3)
  have HS := Lib.hid f2'
  have HA := Lib.hid (amt_is a ha0 ha1)
  have HB := Lib.hid (amt_is b hb0 hb1)
  clear hp hq hp3 hq3 hu3 f3
  go_enter Try.func4, Try.ntmps4
  go_wp2_with (first
    | (go_at_call 12; refine (awake_any _).mono ?_; rintro e w2 ⟨rfl, hb2⟩)
    | (go_at_call 17; refine (Unzigzag_any _ _ (by first | exact hx | exact hp2)).mono ?_; (first | rw [H.out.2.2.1] | skip); rintro e w8 ⟨rfl, rfl⟩)
    | (go_at_call 16; refine (Zigzag_any _ _ (by first | exact ha0 | exact hb0 | exact hu1) (by first | exact ha1 | exact hb1 | exact hu2)).mono ?_; (first | rw [H.out.1] | rw [H.out.2.1] | rw [H.out.2.2.2.1]); rintro e w8 ⟨rfl, rfl⟩))
  all_goals (go_ret; refine ⟨ret_bool ?_, hb2⟩)
  all_goals first
    | rfl
    | (have hs := HS.out
       have hf := HF.out
       have hwb : 0 ≤ b → IntKind.u64.wrap b = b := fun h => IntWalk.u64_in _ (by omega)
       clear HS HF HA HB H
       unfold amt at hf
       rw [Bool.or_eq_true, beq_iff_eq, beq_iff_eq, decide_eq_decide]
       by_cases hA : a < 0 <;> by_cases hB : b < 0 <;> simp only [hA, hB, if_true, if_false, decide_true, decide_false] at hs hf <;> first | omega | (exfalso; simp_all; done))
end Go.Proofs.Ytckklmepncibkaa
