/- Walks: a writer's number of fixed bytes. -/
import Derived.Test.YtgngeachgkappaaProg
import Derived.Test.YtgngeachgkappaaWh
namespace Go.Proofs.Ytgngeachgkappaa
open Go.RowKit
set_option linter.unusedVariables false

/-- The k lowest bytes of a number, the lowest first. -/
def leB (k x : Nat) : List Int := (List.range k).map fun i => ((x / 256 ^ i % 256 : Nat) : Int)
theorem leB_len (k x : Nat) : (leB k x).length = k := by simp [leB]
theorem leB_succ (k x : Nat) : leB (k + 1) x = leB k x ++ [((x / 256 ^ k % 256 : Nat) : Int)] := by simp [leB, List.range_succ]
theorem leB_cons (k x : Nat) : leB (k + 1) x = ((x % 256 : Nat) : Int) :: leB k (x / 256) := by
  unfold leB
  rw [List.range_succ_eq_map, List.map_cons, List.map_map]
  congr 1
  · simp
  · refine List.map_congr_left fun i _ => ?_
    simp only [Function.comp]
    rw [Nat.pow_succ, Nat.mul_comm, Nat.div_div_eq_div_mul]
theorem leB_bytes (k x : Nat) : Bytes (leB k x) := by
  intro y hy
  simp only [leB, List.mem_map] at hy
  obtain ⟨i, _, rfl⟩ := hy
  omega
theorem leB_bytes' (k x : Nat) : ∀ u ∈ leB k x, 0 ≤ u ∧ u ≤ 255 := leB_bytes k x
theorem le_leB : ∀ (k x : Nat), x < 256 ^ k → le (leB k x) = (x : Int) := by
  intro k
  induction k with
  | zero => intro x h; simp at h; subst h; rfl
  | succ k ih =>
    intro x h
    rw [leB_cons]
    show ((x % 256 : Nat) : Int) + 256 * le (leB k (x / 256)) = (x : Int)
    rw [ih (x / 256) (by rw [Nat.pow_succ] at h; omega)]
    omega
/-- The first j of k bytes are there. -/
def part (k j x : Nat) : List Int := leB j x ++ List.replicate (k - j) 0
theorem part_zero (k x : Nat) : part k 0 x = List.replicate k 0 := by simp [part, leB]
theorem part_all (k x : Nat) : part k k x = leB k x := by simp [part]
theorem part_set {k j x : Nat} (h : j < k) {v : Int} (hv : v = ((x / 256 ^ j % 256 : Nat) : Int)) : (part k j x).set j v = part k (j + 1) x := by
  subst hv
  unfold part
  rw [List.set_append_right _ _ (by rw [leB_len]; omega), leB_len, Nat.sub_self, show k - j = (k - (j + 1)) + 1 by omega, List.replicate_succ, List.set_cons_zero, leB_succ, List.append_assoc]
  rfl
theorem byte_at {x j : Nat} (hx : x < 18446744073709551616) : IntKind.u8.wrap ((x : Int) / 2 ^ (8 * j)) = ((x / 256 ^ j % 256 : Nat) : Int) := by
  have e : (x : Int) / 2 ^ (8 * j) = ((x / 256 ^ j : Nat) : Int) := by
    rw [show (256 : Nat) ^ j = 2 ^ (8 * j) by rw [Nat.pow_mul]]
    rw [Int.natCast_ediv, Int.natCast_pow]; rfl
  rw [e]
  simp [IntKind.wrap, IntKind.bits, IntKind.signed]
theorem big_div {x k : Nat} (h : 256 ^ k ≤ x) : 0 < (x : Int) / 2 ^ (8 * k) := by
  have e : (x : Int) / 2 ^ (8 * k) = ((x / 256 ^ k : Nat) : Int) := by
    rw [show (256 : Nat) ^ k = 2 ^ (8 * k) by rw [Nat.pow_mul]]
    rw [Int.natCast_ediv, Int.natCast_pow]; rfl
  rw [e]
  have := Nat.div_pos h (Nat.pow_pos (n := k) (by decide : 0 < 256))
  omega
theorem small_div {x k : Nat} (h : x < 256 ^ k) : (x : Int) / 2 ^ (8 * k) = 0 := by
  have e : (x : Int) / 2 ^ (8 * k) = ((x / 256 ^ k : Nat) : Int) := by
    rw [show (256 : Nat) ^ k = 2 ^ (8 * k) by rw [Nat.pow_mul]]
    rw [Int.natCast_ediv, Int.natCast_pow]; rfl
  rw [e, Nat.div_eq_of_lt h]; rfl

set_option maxRecDepth 20000 in
set_option maxHeartbeats 800000 in
theorem FixedW_big (base p n c lim k x : Nat) (A : Option Addr) (bs : List Int) (w : World) (h : Wtr w base p A n c bs lim) (h1 : 1 ≤ k) (h8 : k < 8) (hx : 256 ^ k ≤ x) (hx2 : x < 18446744073709551616) :
    Calls Try.prog 25 #[.pointer (some ⟨p, 0, none⟩), .int .u64 (x : Int), .int .i64 (k : Int)] w fun e w' => e = .returned (.int .i64 2) ∧ w = w' := by
  have d1 : decide ((k : Int) < 1) = false := by simp; omega
  have d2 : decide ((8 : Int) < (k : Int)) = false := by simp; omega
  have d3 : decide ((k : Int) < 8) = true := by simp; omega
  have d4 : decide (0 < (x : Int) / 2 ^ (8 * k)) = true := by simpa using big_div hx
  have HW := Lib.hid h
  clear h hx
  go_enter Try.func25, Try.ntmps25
  go_wp2_with (go_at_call 37; refine (isW_any _ _ _ _ _ _ _ _ HW.out).mono ?_; rintro e w1 ⟨rfl, rfl⟩)
  go_ret
  exact ⟨rfl, rfl⟩

set_option maxRecDepth 20000 in
theorem FixedW_bad (base p n c lim : Nat) (k x : Int) (A : Option Addr) (bs : List Int) (w : World) (h : Wtr w base p A n c bs lim) (hk : k < 1 ∨ 8 < k) :
    Calls Try.prog 25 #[.pointer (some ⟨p, 0, none⟩), .int .u64 x, .int .i64 k] w fun e w' => e = .returned (.int .i64 2) ∧ w = w' := by
  have HW := Lib.hid h
  clear h
  by_cases h1 : k < 1
  · have d1 : decide (k < 1) = true := by simpa using h1
    clear hk
    go_enter Try.func25, Try.ntmps25
    go_wp2_with (go_at_call 37; refine (isW_any _ _ _ _ _ _ _ _ HW.out).mono ?_; rintro e w1 ⟨rfl, rfl⟩)
    go_ret
    exact ⟨rfl, rfl⟩
  · have d1 : decide (k < 1) = false := by simpa using h1
    have d2 : decide ((8 : Int) < k) = true := by simp; omega
    clear hk h1
    go_enter Try.func25, Try.ntmps25
    go_wp2_with (go_at_call 37; refine (isW_any _ _ _ _ _ _ _ _ HW.out).mono ?_; rintro e w1 ⟨rfl, rfl⟩)
    go_ret
    exact ⟨rfl, rfl⟩

set_option maxRecDepth 20000 in
set_option maxHeartbeats 1600000 in
theorem FixedW_of (base p n c lim k x : Nat) (A : Option Addr) (bs : List Int) (w : World) (h : Wtr w base p A n c bs lim) (h1 : 1 ≤ k) (h8 : k ≤ 8) (hx : x < 256 ^ k) (hx2 : x < 18446744073709551616) (Q : Ending → World → Prop)
    (hQ : ∀ w1 X cx, Below w.heap.size w w1 → Sees w1 1 X k cx ((leB k x).map (Value.int .u8)) → Calls Try.prog 26 #[.pointer (some ⟨p, 0, none⟩), .slice X k cx] w1 Q)
    (hform : ∀ e w', Q e w' → ∃ r : Int, e = .returned (.int .i64 r)) :
    Calls Try.prog 25 #[.pointer (some ⟨p, 0, none⟩), .int .u64 (x : Int), .int .i64 (k : Int)] w Q := by
  have d1 : decide ((k : Int) < 1) = false := by simp; omega
  have d2 : decide ((8 : Int) < (k : Int)) = false := by simp; omega
  have d4 : decide (0 < (x : Int) / 2 ^ (8 * k)) = false := by rw [small_div hx]; rfl
  have HW := Lib.hid h
  have HQ := Lib.hid hQ
  have HF := Lib.hid hform
  have H8 := Lib.hid h8
  have hk8 : (k : Int) ≤ 8 := by omega
  obtain ⟨d3, hd3⟩ : ∃ b, decide ((k : Int) < 8) = b := ⟨_, rfl⟩
  clear h hx h8 hQ hform
  cases d3
  all_goals
    go_enter Try.func25, Try.ntmps25
    go_wp2_with (first
      | (at_make; refine wpList_mkF E_u8 rfl _ _ rfl k rfl rfl rfl rfl (by have := H8.out; omega) (by have := H8.out; simp [maxLen]; omega) ?_; intro w1 o1 g1 b1)
      | (go_at_call 37; refine (isW_any _ _ _ _ _ _ _ _ HW.out).mono ?_; rintro e w1 ⟨rfl, rfl⟩))
    clear d1 d2 d4 hd3
    go_loopw [35] (fun i wr => ∃ j : Nat, i = .int .i64 (j : Int) ∧ j ≤ k ∧ wr.ownsRow w.heap.size 5 1 (.slice (some ⟨w.heap.size, 0, none⟩) k k) k ((part k j x).map (Value.int .u8)) ∧ Below w.heap.size w wr) (fun i _ => k - (intOf i).toNat)
    case atStart => exact ⟨0, rfl, Nat.zero_le _, by rw [part_zero]; exact o1, b1⟩
    case round =>
      obtain ⟨j, rfl, hj, ho, hb⟩ := hrel
      by_cases hlt : j < k
      · obtain ⟨q1, q2⟩ := own_cellK ho hlt
        have hset := own_setK ho j (IntKind.u8.wrap ((x : Int) / 2 ^ (8 * j)))
        rw [part_set hlt (byte_at hx2)] at hset
        have hb2 := hb.setCell (show w.heap.size ≤ (⟨w.heap.size, j, none⟩ : Addr).block from Nat.le_refl _) (.int .u8 (IntKind.u8.wrap ((x : Int) / 2 ^ (8 * j))))
        have HS := Lib.hid hset
        clear hset
        generalize (part k j x).getD j 0 = old at q1
        go_wp2
        go_roundw
        case rel => exact ⟨j + 1, by go_num, by omega, HS.out, hb2⟩
        case measure => simp [intOf]; omega
      · obtain rfl : j = k := by omega
        rw [part_all] at ho
        have HO := Lib.hid (sees_own ho)
        clear ho hlt
        go_wp2_with (go_at_call 26; refine (HQ.out _ _ _ hb HO.out).mono ?_; intro e w2 hq; obtain ⟨r, rfl⟩ := HF.out _ _ hq; have HQ2 := Lib.hid hq; clear hq)
        exact HQ2.out

theorem FixedW_ok (base p n c lim k x : Nat) (A : Option Addr) (bs : List Int) (w : World) (h : Wtr w base p A n c bs lim) (h1 : 1 ≤ k) (h8 : k ≤ 8) (hx : x < 256 ^ k) (hx2 : x < 18446744073709551616) (hm : n + k ≤ lim) (hB : base ≤ w.heap.size) :
    Calls Try.prog 25 #[.pointer (some ⟨p, 0, none⟩), .int .u64 (x : Int), .int .i64 (k : Int)] w fun e w' => ∃ A' c', e = .returned (.int .i64 0) ∧ Wtr w' base p A' (n + k) c' (bs ++ leB k x) lim ∧ Both p (Value.slice A n c).ownBlock w w' ∧ Lies w (.slice A n c) (.slice A' (n + k) c') :=
  FixedW_of base p n c lim k x A bs w h h1 h8 hx hx2 _ (fun w1 X cx b1 s1 => (BytesW_ok base p n c lim k cx A X bs _ w1 (h.below b1) s1 hm (Nat.le_trans hB b1.size)).mono fun e w2 ⟨A2, c2, he, h2, k2, l2⟩ => ⟨A2, c2, he, h2, (Both.of_below b1).trans k2, lies_mono l2 b1.size⟩)
    fun e w' ⟨_, _, he, _⟩ => ⟨0, he⟩
theorem FixedW_full (base p n c lim k x : Nat) (A : Option Addr) (bs : List Int) (w : World) (h : Wtr w base p A n c bs lim) (h1 : 1 ≤ k) (h8 : k ≤ 8) (hx : x < 256 ^ k) (hx2 : x < 18446744073709551616) (hm : lim < n + k) :
    Calls Try.prog 25 #[.pointer (some ⟨p, 0, none⟩), .int .u64 (x : Int), .int .i64 (k : Int)] w fun e w' => e = .returned (.int .i64 4) ∧ Below w.heap.size w w' :=
  FixedW_of base p n c lim k x A bs w h h1 h8 hx hx2 _ (fun w1 X cx b1 s1 => (BytesW_full base p n c lim k cx A X bs w1 (h.below b1) hm).mono fun e w2 ⟨he, h2⟩ => ⟨he, below_step b1 h2⟩)
    fun e w' ⟨he, _⟩ => ⟨4, he⟩
end Go.Proofs.Ytgngeachgkappaa
