/- Walks: the number of fixed bytes. -/
import Derived.Test.YtgngeachgkappaaProg
import Derived.Test.YtgngeachgkappaaWc
namespace Go.Proofs.Ytgngeachgkappaa
open Go.RowKit
set_option linter.unusedVariables false

/-- The number that some bytes are, the lowest first. -/
def le : List Int → Int
  | [] => 0
  | b :: r => b + 256 * le r
theorem le_bd (l : List Int) (h : Bytes l) : 0 ≤ le l ∧ le l < 256 ^ l.length := by
  induction l with
  | nil => simp [le]
  | cons b r ih =>
    have h1 := h b (by simp)
    have h2 := ih (fun x hx => h x (by simp [hx]))
    rw [List.length_cons, Int.pow_succ]
    show 0 ≤ b + 256 * le r ∧ b + 256 * le r < _
    omega
theorem le_snoc (l : List Int) (b : Int) : le (l ++ [b]) = le l + b * 256 ^ l.length := by
  induction l with
  | nil => simp [le]
  | cons x r ih =>
    show x + 256 * le (r ++ [b]) = x + 256 * le r + b * 256 ^ (r.length + 1)
    rw [ih, Int.pow_succ]
    simp only [Int.mul_add]
    rw [Int.add_assoc, Int.mul_comm 256 (b * _), Int.mul_assoc]
theorem take_snoc (l : List Int) (k : Nat) (h : k < l.length) : l.take (k + 1) = l.take k ++ [l.getD k 0] := by
  rw [List.take_add_one, List.getElem?_eq_getElem h]
  simp [List.getD, h]

theorem le_acc_nat (a y k : Nat) (ha : a < 256 ^ k) (hy : y < 256) (hk : k ≤ 7) :
    bits .or .u64 (a : Int) (IntKind.u64.wrap ((y : Int) * 2 ^ (8 * k))) = ((a + y * 256 ^ k : Nat) : Int) := by
  have hp : (256 : Nat) ^ k = 2 ^ (8 * k) := by rw [Nat.pow_mul]
  have h2 : 256 ^ k ≤ 256 ^ 7 := Nat.pow_le_pow_right (by decide) hk
  have h2 : 256 ^ k ≤ 72057594037927936 := Nat.le_trans h2 (by decide)
  have hle : y * 256 ^ k < 18446744073709551616 := by
    calc y * 256 ^ k ≤ 255 * 72057594037927936 := Nat.mul_le_mul (by omega) h2
      _ < 18446744073709551616 := by decide
  have e2 : (y : Int) * 2 ^ (8 * k) = ((y * 256 ^ k : Nat) : Int) := by rw [hp, Int.natCast_mul, Int.natCast_pow]; rfl
  rw [e2, IntWalk.u64_in _ (by omega), u64_or_nat _ _ (by omega) hle]
  congr 1
  rw [hp] at ha ⊢
  rw [Nat.mul_comm, Nat.or_comm, ← Nat.two_pow_add_eq_or_of_lt ha]
  omega
theorem le_acc (a y : Int) (k : Nat) (h0 : 0 ≤ a) (ha : a < 256 ^ k) (hy0 : 0 ≤ y) (hy : y ≤ 255) (hk : k ≤ 7) :
    bits .or .u64 a (IntKind.u64.wrap (y * 2 ^ (8 * k))) = a + y * 256 ^ k := by
  obtain ⟨a, rfl⟩ := Int.eq_ofNat_of_zero_le h0
  obtain ⟨y, rfl⟩ := Int.eq_ofNat_of_zero_le hy0
  have e0 : ((256 ^ k : Nat) : Int) = 256 ^ k := by rw [Int.natCast_pow]; rfl
  rw [le_acc_nat a y k (by omega) (by omega) hk]
  simp

set_option maxRecDepth 20000 in
set_option maxHeartbeats 800000 in
theorem Fixed_ok (p n c at_ k : Nat) (A : Option Addr) (bs : List Int) (w : World) (h : Rdr w p A n c bs at_) (hb : Bytes bs) (hn : n ≤ 100000000) (h1 : 1 ≤ k) (h8 : k ≤ 8) (hk : at_ + k ≤ n) :
    Calls Try.prog 28 #[.pointer (some ⟨p, 0, none⟩), .int .i64 (k : Int)] w fun e w' => e = .returned (.tuple #[.int .u64 (le ((bs.drop at_).take k)), .int .i64 0]) ∧ Did p n c (at_ + k) A bs w w' := by
  have HR := Lib.hid h
  have HN := Lib.hid hn
  have HK := Lib.hid hk
  have d1 : decide ((k : Int) < 1) = false := by simp; omega
  have d2 : decide ((8 : Int) < (k : Int)) = false := by simp; omega
  have H8 := Lib.hid h8
  have HB : Hid (Bytes ((bs.drop at_).take k)) := Lib.hid (fun x hx => hb x (List.mem_of_mem_drop (List.mem_of_mem_take hx)))
  clear h hn hk h1 hb
  go_enter Try.func28, Try.ntmps28
  go_wp2_with (first | (go_at_call 39; refine (isR_any _ _ _ _ _ _ _ HR.out).mono ?_; rintro e w1 ⟨rfl, rfl⟩) | (go_at_call 49; refine (take_ok p n c at_ k A bs w HR.out HN.out HK.out).mono ?_; rintro e w1 ⟨A1, c1, rfl, o1, hr, hk⟩; have HD := Lib.hid (And.intro hr hk); have HO := Lib.hid (sees_own o1); clear o1 hr hk))
  have HL : Hid (((bs.drop at_).take k).length = k) := Lib.hid HO.out.length
  have HSZ := Lib.hid HD.out.2
  clear d1 d2
  have HW := Lib.hid HD.out.1
  clear HR
  generalize hl : (bs.drop at_).take k = l at HB HO HL ⊢
  go_loop [8, 30] (fun x i => ∃ (j : Nat) (acc : Int), i = .int .i64 j ∧ j ≤ k ∧ x = .int .u64 acc ∧ acc = le (l.take j)) (fun _ i => k - (intOf i).toNat)
  case atStart => exact ⟨0, 0, rfl, by omega, rfl, by simp [le]⟩
  case round =>
    obtain ⟨j, acc, rfl, hjk, rfl, HA⟩ := hrel
    by_cases hlt : j < k
    · have hjl : j < l.length := by rw [HL.out]; exact hlt
      obtain ⟨b1, o1, rfl, g1⟩ := HO.out.int hlt
      have hbd := HB.out.at_ hjl
      have hbt : Bytes (l.take j) := fun x hx => HB.out x (List.mem_of_mem_take hx)
      have hle := le_bd _ hbt
      rw [← HA, List.length_take, Nat.min_eq_left (by omega)] at hle
      have hacc := le_acc acc (l.getD j 0) j hle.1 hle.2 hbd.1 hbd.2 (by omega)
      have hnew : acc + l.getD j 0 * 256 ^ j = le (l.take (j + 1)) := by rw [take_snoc _ _ hjl, le_snoc, ← HA, List.length_take, Nat.min_eq_left (by omega)]
      have HACC := Lib.hid (hacc.trans hnew)
      have hx0 := hbd.1
      have hx1 := hbd.2
      have hl0 := hle.1
      clear hacc hnew hbd hbt hle HA hjl
      generalize l.getD j 0 = x at g1 HACC hx0 hx1
      go_wp2
      go_round
      case rel =>
        refine ⟨j + 1, _, by go_num, by omega, rfl, ?_⟩
        exact HACC.out
      case measure => simp [intOf]; omega
    · obtain rfl : j = k := by omega
      have hfin : le (l.take j) = le l := by rw [List.take_of_length_le (by rw [HL.out]; exact Nat.le_refl _)]
      rw [hfin] at HA
      have HF := Lib.hid HA
      clear HA hfin
      go_wp2
      go_ret2
      refine ⟨?_, HD.out⟩
      rw [HF.out]
      rfl

set_option maxRecDepth 20000 in
theorem Fixed_bad (p n c at_ : Nat) (k : Int) (A : Option Addr) (bs : List Int) (w : World) (h : Rdr w p A n c bs at_) (h1 : k < 1 ∨ 8 < k) :
    Calls Try.prog 28 #[.pointer (some ⟨p, 0, none⟩), .int .i64 k] w fun e w' => e = .returned (.tuple #[.int .u64 0, .int .i64 2]) ∧ Did p n c at_ A bs w w' := by
  have HR := Lib.hid h
  clear h
  rcases h1 with h1 | h1
  · have d1 : decide (k < 1) = true := by simpa using h1
    go_enter Try.func28, Try.ntmps28
    go_wp2_with ((go_at_call 39; refine (isR_any _ _ _ _ _ _ _ HR.out).mono ?_; rintro e w1 ⟨rfl, rfl⟩))
    go_ret2
    exact ⟨rfl, HR.out, Keeps.refl _ _⟩
  · have d1 : decide (k < 1) = false := by simp; omega
    have d2 : decide (8 < k) = true := by simpa using h1
    go_enter Try.func28, Try.ntmps28
    go_wp2_with ((go_at_call 39; refine (isR_any _ _ _ _ _ _ _ HR.out).mono ?_; rintro e w1 ⟨rfl, rfl⟩))
    go_ret2
    exact ⟨rfl, HR.out, Keeps.refl _ _⟩

set_option maxRecDepth 20000 in
set_option maxHeartbeats 800000 in
theorem Fixed_end (p n c at_ : Nat) (k : Int) (A : Option Addr) (bs : List Int) (w : World) (h : Rdr w p A n c bs at_) (hn : n ≤ 100000000) (h1 : 1 ≤ k) (h8 : k ≤ 8) (hk : (n : Int) < (at_ : Int) + k) :
    Calls Try.prog 28 #[.pointer (some ⟨p, 0, none⟩), .int .i64 k] w fun e w' => e = .returned (.tuple #[.int .u64 0, .int .i64 20]) ∧ Did p n c at_ A bs w w' := by
  have HR := Lib.hid h
  have HN := Lib.hid hn
  have HK := Lib.hid hk
  have d1 : decide (k < 1) = false := by simp; omega
  have d2 : decide ((8 : Int) < k) = false := by simp; omega
  clear h hn hk h1
  go_enter Try.func28, Try.ntmps28
  go_wp2_with (first | (go_at_call 39; refine (isR_any _ _ _ _ _ _ _ HR.out).mono ?_; rintro e w1 ⟨rfl, rfl⟩) | (go_at_call 49; refine (take_end p n c at_ k A bs w HR.out HN.out HK.out).mono ?_; rintro e w1 ⟨rfl, b1⟩; have HB := Lib.hid b1; clear b1))
  go_loop [8, 30] (fun x i => x = .int .u64 0 ∧ i = .int .i64 0) (fun _ i => 1 - (intOf i).toNat)
  case atStart => exact ⟨rfl, rfl⟩
  case round =>
    obtain ⟨rfl, rfl⟩ := hrel
    go_wp2
    go_ret2
    exact ⟨rfl, HR.out.below HB.out, Keeps.of_below HB.out⟩
end Go.Proofs.Ytgngeachgkappaa
