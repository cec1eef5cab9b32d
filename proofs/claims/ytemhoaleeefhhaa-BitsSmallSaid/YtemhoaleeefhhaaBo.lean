/- Walks: joined, both, Or, And, Minus. -/
import Derived.Test.YtemhoaleeefhhaaProg
import Derived.Test.YtemhoaleeefhhaaBn
namespace Go.Proofs.Ytemhoaleeefhhaa
open Go.RowKit
set_option linter.unusedVariables false

theorem zipB_step (f : Nat → Nat → Nat) {a b : List Int} {k : Nat} (ha : k < a.length) (hb : k < b.length) : zipB f (a.take (k + 1)) (b.take (k + 1)) = zipB f (a.take k) (b.take k) ++ [((f (a.getD k 0).toNat (b.getD k 0).toNat : Nat) : Int)] := by
  rw [take_one ha, take_one hb]
  unfold zipB
  rw [List.zipWith_append (by rw [List.length_take, List.length_take]; omega)]
  rfl
theorem or_w2 {x y : Int} (hx : 0 ≤ x ∧ x ≤ 18446744073709551615) (hy : 0 ≤ y ∧ y ≤ 18446744073709551615) : bits BinOp.or IntKind.u64 x y = ((fOr x.toNat y.toNat : Nat) : Int) := u64_or x y hx.1 (by omega) hy.1 (by omega)
theorem and_w2 {x y : Int} (hx : 0 ≤ x ∧ x ≤ 18446744073709551615) (hy : 0 ≤ y ∧ y ≤ 18446744073709551615) : bits BinOp.and IntKind.u64 x y = ((fAnd x.toNat y.toNat : Nat) : Int) := u64_and x y hx.1 (by omega) hy.1 (by omega)
theorem min_w2 {x y : Int} (hx : 0 ≤ x ∧ x ≤ 18446744073709551615) (hy : 0 ≤ y ∧ y ≤ 18446744073709551615) : bits BinOp.andNot IntKind.u64 x y = ((fMin x.toNat y.toNat : Nat) : Int) := by
  rw [u64_andNot x y hx.1 (by omega) hy.1 (by omega), fMin_eq (by omega) (by omega)]

set_option maxRecDepth 20000 in
theorem Or1_any (x y : Int) (z : Nat) (w : World) (h : bits BinOp.or IntKind.u64 x y = (z : Int)) :
    Calls Try.prog 61 #[.int .u64 x, .int .u64 y] w fun e w' => e = .returned (.int .u64 (z : Int)) ∧ w' = w := by
  go_enter Try.func61, Try.ntmps61
  go_wp2
  go_ret
  exact ⟨rfl, rfl⟩

set_option maxRecDepth 20000 in
set_option maxHeartbeats 800000 in
theorem Or_joined (A1 A2 : Option Addr) (n c1 c2 : Nat) (a b : List Int) (w : World) (h1 : Sees w 1 A1 n c1 (a.map (Value.int .u64))) (h2 : Sees w 1 A2 n c2 (b.map (Value.int .u64))) (ha : W64 a) (hb : W64 b) (hn : n ≤ 100000) :
    Calls Try.prog 71 #[.slice A1 n c1, .slice A2 n c2, .func (.func 61) #[] #[]] w fun e w' => ∃ A c, e = .returned (.slice A n c) ∧ w'.ownsRow w.heap.size 54 1 (.slice A n c) n ((zipB fOr a b).map (Value.int .u64)) ∧ Below w.heap.size w w' := by
  have H1 := Lib.hid h1
  have H2 := Lib.hid h2
  have E1 := Lib.hid h1.length
  have E2 := Lib.hid h2.length
  clear h1 h2
  go_enter Try.func71, Try.ntmps71
  go_wp2
  go_loopw [7, 12] (fun v i wr => ∃ (k : Nat) (A : Option Addr) (c : Nat), k ≤ n ∧ i = .int .i64 (k : Int) ∧ v = .slice A k c ∧ wr.ownsRow w.heap.size 54 1 (.slice A k c) k ((zipB fOr (a.take k) (b.take k)).map (Value.int .u64)) ∧ Below w.heap.size w wr) (fun _ i _ => n - (intOf i).toNat)
  case atStart => exact ⟨0, none, 0, Nat.zero_le _, rfl, rfl, World.ownsRow_nil _ _ _ _, Below.refl _ _⟩
  case round =>
    obtain ⟨k, A, c, hk, rfl, rfl, ho, hbw⟩ := hrel
    by_cases hlt : k < n
    · obtain ⟨b1, o1, rfl, g1⟩ := (H1.out.below hbw (Nat.le_refl _)).int hlt
      obtain ⟨b2, o2, rfl, g2⟩ := (H2.out.below hbw (Nat.le_refl _)).int hlt
      have hst := zipB_step fOr (a := a) (b := b) (k := k) (by rw [E1.out]; exact hlt) (by rw [E2.out]; exact hlt)
      have hx := ha.at_ k
      have hy := hb.at_ k
      generalize a.getD k 0 = x at g1 hst hx
      generalize b.getD k 0 = y at g2 hst hy
      have hz := or_w2 hx hy
      obtain ⟨z, hz1⟩ : ∃ z, fOr x.toNat y.toNat = z := ⟨_, rfl⟩
      rw [hz1] at hz hst
      have HST := Lib.hid hst
      clear hst hz1 hx hy
      go_wp2_with (first
        | (at_builtin; refine wpList_app E_u64 rfl _ _ rfl rfl (ho.alloc _) rfl (Sees.one _ _ _) (ints1 _ [(z : Int)]) (by simp [maxLen]; omega) (by omega) (by have := hbw.size; simp; omega) ?_; intro A4 c4 w4 hown4 hg4 hb4)
        | (go_at_call 61; refine (Or1_any x y z _ hz).mono ?_; rintro e w3 ⟨rfl, rfl⟩))
      go_roundw
      case rel => exact ⟨k + 1, A4, c4, hlt, by go_num, rfl, by rw [HST.out, List.map_append]; exact hown4, (hbw.alloc hbw.size _).trans hb4⟩
      case measure => simp [intOf]; omega
    · obtain rfl : k = n := by omega
      rw [List.take_of_length_le (by rw [E1.out]; exact Nat.le_refl _), List.take_of_length_le (by rw [E2.out]; exact Nat.le_refl _)] at ho
      go_wp2
      go_ret
      exact ⟨_, _, rfl, ho, hbw⟩
set_option maxRecDepth 20000 in
theorem And1_any (x y : Int) (z : Nat) (w : World) (h : bits BinOp.and IntKind.u64 x y = (z : Int)) :
    Calls Try.prog 62 #[.int .u64 x, .int .u64 y] w fun e w' => e = .returned (.int .u64 (z : Int)) ∧ w' = w := by
  go_enter Try.func62, Try.ntmps62
  go_wp2
  go_ret
  exact ⟨rfl, rfl⟩

set_option maxRecDepth 20000 in
set_option maxHeartbeats 800000 in
theorem And_joined (A1 A2 : Option Addr) (n c1 c2 : Nat) (a b : List Int) (w : World) (h1 : Sees w 1 A1 n c1 (a.map (Value.int .u64))) (h2 : Sees w 1 A2 n c2 (b.map (Value.int .u64))) (ha : W64 a) (hb : W64 b) (hn : n ≤ 100000) :
    Calls Try.prog 71 #[.slice A1 n c1, .slice A2 n c2, .func (.func 62) #[] #[]] w fun e w' => ∃ A c, e = .returned (.slice A n c) ∧ w'.ownsRow w.heap.size 54 1 (.slice A n c) n ((zipB fAnd a b).map (Value.int .u64)) ∧ Below w.heap.size w w' := by
  have H1 := Lib.hid h1
  have H2 := Lib.hid h2
  have E1 := Lib.hid h1.length
  have E2 := Lib.hid h2.length
  clear h1 h2
  go_enter Try.func71, Try.ntmps71
  go_wp2
  go_loopw [7, 12] (fun v i wr => ∃ (k : Nat) (A : Option Addr) (c : Nat), k ≤ n ∧ i = .int .i64 (k : Int) ∧ v = .slice A k c ∧ wr.ownsRow w.heap.size 54 1 (.slice A k c) k ((zipB fAnd (a.take k) (b.take k)).map (Value.int .u64)) ∧ Below w.heap.size w wr) (fun _ i _ => n - (intOf i).toNat)
  case atStart => exact ⟨0, none, 0, Nat.zero_le _, rfl, rfl, World.ownsRow_nil _ _ _ _, Below.refl _ _⟩
  case round =>
    obtain ⟨k, A, c, hk, rfl, rfl, ho, hbw⟩ := hrel
    by_cases hlt : k < n
    · obtain ⟨b1, o1, rfl, g1⟩ := (H1.out.below hbw (Nat.le_refl _)).int hlt
      obtain ⟨b2, o2, rfl, g2⟩ := (H2.out.below hbw (Nat.le_refl _)).int hlt
      have hst := zipB_step fAnd (a := a) (b := b) (k := k) (by rw [E1.out]; exact hlt) (by rw [E2.out]; exact hlt)
      have hx := ha.at_ k
      have hy := hb.at_ k
      generalize a.getD k 0 = x at g1 hst hx
      generalize b.getD k 0 = y at g2 hst hy
      have hz := and_w2 hx hy
      obtain ⟨z, hz1⟩ : ∃ z, fAnd x.toNat y.toNat = z := ⟨_, rfl⟩
      rw [hz1] at hz hst
      have HST := Lib.hid hst
      clear hst hz1 hx hy
      go_wp2_with (first
        | (at_builtin; refine wpList_app E_u64 rfl _ _ rfl rfl (ho.alloc _) rfl (Sees.one _ _ _) (ints1 _ [(z : Int)]) (by simp [maxLen]; omega) (by omega) (by have := hbw.size; simp; omega) ?_; intro A4 c4 w4 hown4 hg4 hb4)
        | (go_at_call 62; refine (And1_any x y z _ hz).mono ?_; rintro e w3 ⟨rfl, rfl⟩))
      go_roundw
      case rel => exact ⟨k + 1, A4, c4, hlt, by go_num, rfl, by rw [HST.out, List.map_append]; exact hown4, (hbw.alloc hbw.size _).trans hb4⟩
      case measure => simp [intOf]; omega
    · obtain rfl : k = n := by omega
      rw [List.take_of_length_le (by rw [E1.out]; exact Nat.le_refl _), List.take_of_length_le (by rw [E2.out]; exact Nat.le_refl _)] at ho
      go_wp2
      go_ret
      exact ⟨_, _, rfl, ho, hbw⟩
set_option maxRecDepth 20000 in
theorem Minus1_any (x y : Int) (z : Nat) (w : World) (h : bits BinOp.andNot IntKind.u64 x y = (z : Int)) :
    Calls Try.prog 63 #[.int .u64 x, .int .u64 y] w fun e w' => e = .returned (.int .u64 (z : Int)) ∧ w' = w := by
  go_enter Try.func63, Try.ntmps63
  go_wp2
  go_ret
  exact ⟨rfl, rfl⟩

set_option maxRecDepth 20000 in
set_option maxHeartbeats 800000 in
theorem Minus_joined (A1 A2 : Option Addr) (n c1 c2 : Nat) (a b : List Int) (w : World) (h1 : Sees w 1 A1 n c1 (a.map (Value.int .u64))) (h2 : Sees w 1 A2 n c2 (b.map (Value.int .u64))) (ha : W64 a) (hb : W64 b) (hn : n ≤ 100000) :
    Calls Try.prog 71 #[.slice A1 n c1, .slice A2 n c2, .func (.func 63) #[] #[]] w fun e w' => ∃ A c, e = .returned (.slice A n c) ∧ w'.ownsRow w.heap.size 54 1 (.slice A n c) n ((zipB fMin a b).map (Value.int .u64)) ∧ Below w.heap.size w w' := by
  have H1 := Lib.hid h1
  have H2 := Lib.hid h2
  have E1 := Lib.hid h1.length
  have E2 := Lib.hid h2.length
  clear h1 h2
  go_enter Try.func71, Try.ntmps71
  go_wp2
  go_loopw [7, 12] (fun v i wr => ∃ (k : Nat) (A : Option Addr) (c : Nat), k ≤ n ∧ i = .int .i64 (k : Int) ∧ v = .slice A k c ∧ wr.ownsRow w.heap.size 54 1 (.slice A k c) k ((zipB fMin (a.take k) (b.take k)).map (Value.int .u64)) ∧ Below w.heap.size w wr) (fun _ i _ => n - (intOf i).toNat)
  case atStart => exact ⟨0, none, 0, Nat.zero_le _, rfl, rfl, World.ownsRow_nil _ _ _ _, Below.refl _ _⟩
  case round =>
    obtain ⟨k, A, c, hk, rfl, rfl, ho, hbw⟩ := hrel
    by_cases hlt : k < n
    · obtain ⟨b1, o1, rfl, g1⟩ := (H1.out.below hbw (Nat.le_refl _)).int hlt
      obtain ⟨b2, o2, rfl, g2⟩ := (H2.out.below hbw (Nat.le_refl _)).int hlt
      have hst := zipB_step fMin (a := a) (b := b) (k := k) (by rw [E1.out]; exact hlt) (by rw [E2.out]; exact hlt)
      have hx := ha.at_ k
      have hy := hb.at_ k
      generalize a.getD k 0 = x at g1 hst hx
      generalize b.getD k 0 = y at g2 hst hy
      have hz := min_w2 hx hy
      obtain ⟨z, hz1⟩ : ∃ z, fMin x.toNat y.toNat = z := ⟨_, rfl⟩
      rw [hz1] at hz hst
      have HST := Lib.hid hst
      clear hst hz1 hx hy
      go_wp2_with (first
        | (at_builtin; refine wpList_app E_u64 rfl _ _ rfl rfl (ho.alloc _) rfl (Sees.one _ _ _) (ints1 _ [(z : Int)]) (by simp [maxLen]; omega) (by omega) (by have := hbw.size; simp; omega) ?_; intro A4 c4 w4 hown4 hg4 hb4)
        | (go_at_call 63; refine (Minus1_any x y z _ hz).mono ?_; rintro e w3 ⟨rfl, rfl⟩))
      go_roundw
      case rel => exact ⟨k + 1, A4, c4, hlt, by go_num, rfl, by rw [HST.out, List.map_append]; exact hown4, (hbw.alloc hbw.size _).trans hb4⟩
      case measure => simp [intOf]; omega
    · obtain rfl : k = n := by omega
      rw [List.take_of_length_le (by rw [E1.out]; exact Nat.le_refl _), List.take_of_length_le (by rw [E2.out]; exact Nat.le_refl _)] at ho
      go_wp2
      go_ret
      exact ⟨_, _, rfl, ho, hbw⟩
end Go.Proofs.Ytemhoaleeefhhaa
