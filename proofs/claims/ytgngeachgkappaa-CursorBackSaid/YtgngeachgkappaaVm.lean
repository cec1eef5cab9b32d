/- The plain mathematics of varint: forms, their reading, zigzag numbers. No program is named here. -/
import Derived.Below
import Derived.Laws.BitsAllLaws
import Derived.IntWalk
namespace Go.Proofs.Ytgngeachgkappaa
open Go.RowKit

/-- The groups of a number, with whether more follow; at most f of them. -/
def glF : Nat → Nat → List (Nat × Bool)
  | 0, _ => []
  | f + 1, x => if x < 128 then [(x, false)] else (x % 128, true) :: glF f (x / 128)

/-- A group's byte. -/
def gb (p : Nat × Bool) : Int := if p.2 then ((p.1 + 128 : Nat) : Int) else ((p.1 : Nat) : Int)

/-- The form of a number that has at most f groups. -/
def encF : Nat → Nat → List Int
  | 0, _ => []
  | f + 1, x => if x < 128 then [(x : Int)] else ((x % 128 + 128 : Nat) : Int) :: encF f (x / 128)

def enc (x : Nat) : List Int := encF 10 x

theorem glF_gb (f x : Nat) : (glF f x).map gb = encF f x := by
  induction f generalizing x with
  | zero => rfl
  | succ f ih =>
    unfold glF encF
    split
    · simp [gb]
    · simp [gb, ih]

theorem encF_len (f x : Nat) : (encF f x).length ≤ f := by
  induction f generalizing x with
  | zero => simp [encF]
  | succ f ih =>
    unfold encF
    split
    · simp
    · have := ih (x / 128); simp; omega

theorem glF_len (f x : Nat) : (glF f x).length = (encF f x).length := by rw [← glF_gb]; simp

theorem enc_len (x : Nat) : (enc x).length ≤ 10 := encF_len 10 x

theorem glF_lt {f x : Nat} (h : x < 128) : glF (f + 1) x = [(x, false)] := by rw [glF, if_pos h]
theorem glF_ge {f x : Nat} (h : ¬ x < 128) : glF (f + 1) x = (x % 128, true) :: glF f (x / 128) := by rw [glF, if_neg h]
theorem encF_lt {f x : Nat} (h : x < 128) : encF (f + 1) x = [(x : Int)] := by rw [encF, if_pos h]
theorem encF_ge {f x : Nat} (h : ¬ x < 128) : encF (f + 1) x = ((x % 128 + 128 : Nat) : Int) :: encF f (x / 128) := by rw [encF, if_neg h]

theorem pow_step {f x : Nat} (h : x < 128 ^ (f + 1)) (hx : ¬ x < 128) : x / 128 < 128 ^ f ∧ 1 ≤ f := by
  have h1 : x / 128 < 128 ^ f := by rw [Nat.div_lt_iff_lt_mul (by omega)]; rw [Nat.pow_succ] at h; exact h
  refine ⟨h1, ?_⟩
  rcases f with _ | f
  · simp at h1; omega
  · omega

theorem lt_pow10 {x : Nat} (h : x < 18446744073709551616) : x < 128 ^ 10 := Nat.lt_of_lt_of_le h (by decide)

theorem and127 (x : Nat) (h : x < 18446744073709551616) : bits .and .u64 (x : Int) 127 = ((x % 128 : Nat) : Int) := by
  have h1 := u64_and_nat x 127 h (by omega)
  have h2 : x &&& 127 = x % 128 := Nat.and_two_pow_sub_one_eq_mod x 7
  rw [h2] at h1
  exact h1

theorem or128 (g : Nat) (h : g < 128) : bits .or .u8 (g : Int) 128 = ((g + 128 : Nat) : Int) := by
  have h1 := u8_or_nat g 128 (by omega) (by omega)
  have h2 : g ||| 128 = g + 128 := by
    have := Nat.two_pow_add_eq_or_of_lt (i := 7) (b := g) h 1
    rw [Nat.or_comm]; simpa [Nat.add_comm] using this.symm
  rw [h2] at h1
  exact h1

theorem glF_small (f x : Nat) : ∀ p ∈ glF f x, p.1 < 128 := by
  induction f generalizing x with
  | zero => simp [glF]
  | succ f ih =>
    intro p hp
    unfold glF at hp
    split at hp
    · simp at hp; subst hp; assumption
    · simp at hp
      rcases hp with rfl | hp
      · simp; omega
      · exact ih _ _ hp

theorem encF_pos (f x : Nat) : 1 ≤ (encF (f + 1) x).length := by
  unfold encF
  split <;> simp

/-- The zigzag number of an integer, and the integer of a zigzag number. -/
def zz (n : Int) : Int := if 0 ≤ n then 2 * n else -2 * n - 1
def uz (x : Nat) : Int := if x % 2 = 0 then ((x / 2 : Nat) : Int) else -((x / 2 : Nat) : Int) - 1

theorem xor_ones (a : Nat) (h : a < 18446744073709551616) : a ^^^ 18446744073709551615 = 18446744073709551615 - a := by
  apply Nat.eq_of_testBit_eq
  intro i
  have h1 : (18446744073709551615 : Nat).testBit i = decide (i < 64) := Nat.testBit_two_pow_sub_one 64 i
  have h2 : (18446744073709551615 - a).testBit i = (decide (i < 64) && !a.testBit i) := by
    have := Nat.testBit_two_pow_sub_succ (n := 64) (x := a) h i
    rwa [show 2 ^ 64 - (a + 1) = 18446744073709551615 - a from by omega] at this
  rw [Nat.testBit_xor, h1, h2]
  by_cases hi : i < 64
  · simp [hi]
  · have : a.testBit i = false := Nat.testBit_lt_two_pow (Nat.lt_of_lt_of_le (show a < 2 ^ 64 from h) (Nat.pow_le_pow_right (by decide) (Nat.le_of_not_lt hi)))
    simp [hi, this]

theorem zz_bits (n : Int) (h0 : -9223372036854775808 ≤ n) (h1 : n ≤ 9223372036854775807) :
    bits .xor .u64 (IntKind.u64.wrap (IntKind.u64.wrap n * 2)) (IntKind.u64.wrap (n / 9223372036854775808)) = zz n := by
  rw [IntKind.wrap_u64, IntKind.wrap_u64, IntKind.wrap_u64]
  unfold zz
  split
  · rename_i h
    have e1 : n % 18446744073709551616 * 2 % 18446744073709551616 = ((2 * n).toNat : Int) := by omega
    have e2 : n / 9223372036854775808 % 18446744073709551616 = ((0 : Nat) : Int) := by omega
    rw [e1, e2, u64_xor_nat _ _ (by omega) (by omega)]
    simp
    omega
  · rename_i h
    have e1 : n % 18446744073709551616 * 2 % 18446744073709551616 = ((2 * n + 18446744073709551616).toNat : Int) := by omega
    have e2 : n / 9223372036854775808 % 18446744073709551616 = ((18446744073709551615 : Nat) : Int) := by omega
    rw [e1, e2, u64_xor_nat _ _ (by omega) (by omega), xor_ones _ (by omega)]
    omega

theorem uz_bits (x : Nat) (h : x < 18446744073709551616) : bits .xor .i64 ((x : Int) / 2) (wrap64 (-wrap64 (bits .and .u64 (x : Int) 1))) = uz x := by
  have h1 : bits .and .u64 (x : Int) 1 = ((x % 2 : Nat) : Int) := by
    have := u64_and_nat x 1 h (by omega)
    rwa [Nat.and_one_is_mod] at this
  rw [h1]
  unfold uz
  have hq : x / 2 < 9223372036854775808 := by omega
  have e0 : (x : Int) / 2 = ((x / 2 : Nat) : Int) := by omega
  rw [e0]
  generalize x / 2 = q at hq
  split
  · rename_i h0
    rw [h0, show wrap64 (-wrap64 ((0 : Nat) : Int)) = 0 from by simp [wrap64]]
    show IntKind.i64.wrap ((BitVec.ofInt 64 (q : Int) ^^^ BitVec.ofInt 64 0).toNat : Int) = _
    have : BitVec.ofInt 64 0 = (0#64) := rfl
    rw [this, BitVec.xor_zero, BitVec.ofInt_natCast, BitVec.toNat_ofNat, IntKind.wrap_i64]
    omega
  · rename_i h0
    have h1 : x % 2 = 1 := by omega
    rw [h1, show wrap64 (-wrap64 ((1 : Nat) : Int)) = -1 from by simp [wrap64]]
    show IntKind.i64.wrap ((BitVec.ofInt 64 (q : Int) ^^^ BitVec.ofInt 64 (-1)).toNat : Int) = _
    have : BitVec.ofInt 64 (-1) = BitVec.allOnes 64 := by decide
    rw [this, BitVec.xor_allOnes, BitVec.toNat_not, BitVec.ofInt_natCast, BitVec.toNat_ofNat, IntKind.wrap_i64]
    omega

theorem acc_nat (a y k : Nat) (ha : a < 128 ^ k) (hy : y < 256) (hk : k ≤ 9) (h9 : k = 9 → y ≤ 1) :
    bits .or .u64 (a : Int) (IntKind.u64.wrap (IntKind.u64.wrap (bits .and .u8 (y : Int) 127) * 2 ^ (7 * k))) = ((a + (y % 128) * 128 ^ k : Nat) : Int) := by
  have h1 : bits .and .u8 (y : Int) 127 = ((y % 128 : Nat) : Int) := by
    have := u8_and_nat y 127 hy (by omega)
    rwa [show y &&& 127 = y % 128 from Nat.and_two_pow_sub_one_eq_mod y 7] at this
  have hp : (128 : Nat) ^ k = 2 ^ (7 * k) := by rw [Nat.pow_mul]
  have hm : y % 128 < 128 := Nat.mod_lt _ (by decide)
  have hle : (y % 128) * 128 ^ k < 18446744073709551616 ∧ 128 ^ k ≤ 9223372036854775808 := by
    have h2 : 128 ^ k ≤ 128 ^ 9 := Nat.pow_le_pow_right (by decide) hk
    have e9 : (128 : Nat) ^ 9 = 9223372036854775808 := by decide
    rw [e9] at h2
    refine ⟨?_, h2⟩
    by_cases hk9 : k = 9
    · subst hk9
      rw [e9]
      have := h9 rfl
      have : y % 128 ≤ 1 := by omega
      omega
    · have h3 : 128 ^ k ≤ 128 ^ 8 := Nat.pow_le_pow_right (by decide) (by omega)
      have e8 : (128 : Nat) ^ 8 = 72057594037927936 := by decide
      rw [e8] at h3
      calc (y % 128) * 128 ^ k ≤ 127 * 72057594037927936 := Nat.mul_le_mul (by omega) h3
        _ < 18446744073709551616 := by decide
  rw [h1, IntWalk.u64_in ((y % 128 : Nat) : Int) (by omega)]
  have e2 : ((y % 128 : Nat) : Int) * 2 ^ (7 * k) = (((y % 128) * 128 ^ k : Nat) : Int) := by rw [hp]; simp
  rw [e2, IntWalk.u64_in _ (by omega), u64_or_nat _ _ (by omega) hle.1]
  congr 1
  rw [hp] at ha ⊢
  rw [Nat.mul_comm, Nat.or_comm, ← Nat.two_pow_add_eq_or_of_lt ha]
  omega

theorem acc_int (a x : Int) (k : Nat) (h0 : 0 ≤ a) (ha : a < 128 ^ k) (hx0 : 0 ≤ x) (hx : x ≤ 255) (hk : k ≤ 9) (h9 : k = 9 → x ≤ 1) :
    bits .or .u64 a (IntKind.u64.wrap (IntKind.u64.wrap (bits .and .u8 x 127) * 2 ^ (7 * k))) = a + (x % 128) * 128 ^ k := by
  obtain ⟨a, rfl⟩ := Int.eq_ofNat_of_zero_le h0
  obtain ⟨y, rfl⟩ := Int.eq_ofNat_of_zero_le hx0
  rw [acc_nat a y k (by exact_mod_cast ha) (by omega) hk (fun e => by have := h9 e; omega)]
  simp

theorem acc_lt (a x : Int) (k : Nat) (ha : a < 128 ^ k) (hx : x < 128) : a + x * 128 ^ k < 128 ^ (k + 1) := by
  have hp : (0 : Int) < 128 ^ k := Int.pow_pos (by decide)
  have : x * 128 ^ k ≤ 127 * 128 ^ k := Int.mul_le_mul_of_nonneg_right (by omega) (Int.le_of_lt hp)
  rw [Int.pow_succ]
  omega

theorem acc_pos (a x : Int) (k : Nat) (h0 : 0 ≤ a) (hx : 0 ≤ x) : 0 ≤ a + x * 128 ^ k := by
  have hp : (0 : Int) < 128 ^ k := Int.pow_pos (by decide)
  have := Int.mul_nonneg hx (Int.le_of_lt hp)
  omega
end Go.Proofs.Ytgngeachgkappaa
