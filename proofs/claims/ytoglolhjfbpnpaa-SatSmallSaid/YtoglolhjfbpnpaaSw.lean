/- Walks: the reference's Bits, at, Plus. -/
import Derived.Test.YtoglolhjfbpnpaaProg
import Derived.Test.YtoglolhjfbpnpaaSv
import Derived.Test.YtoglolhjfbpnpaaQ2
namespace Go.Proofs.Ytoglolhjfbpnpaa
open Go.RowKit
set_option linter.unusedVariables false

theorem E_int : Elem Try.prog 37 3 (.int .i64 0) 1 8 := elem_of Try.underlying37 (by kernel_rfl) rfl (by decide)

set_option maxRecDepth 20000 in
theorem at_any (A : Option Addr) (n c : Nat) (l : List Int) (i : Nat) (w : World) (h : Sees w 1 A n c (l.map (Value.int .i64))) :
    Calls Try.prog 35 #[.slice A n c, .int .i64 (i : Int)] w fun e w' => e = .returned (.int .i64 (l.getD i 0)) ∧ w = w' := by
  by_cases hlt : i < n
  · obtain ⟨b1, o1, rfl, g1⟩ := h.int hlt
    have hd : decide ((n : Int) ≤ (i : Int)) = false := by simp; omega
    generalize l.getD i 0 = x at g1
    go_enter Try.func35, Try.ntmps35
    go_wp2
    go_ret
    exact ⟨rfl, rfl⟩
  · have hd : decide ((n : Int) ≤ (i : Int)) = true := by simp; omega
    rw [getD_len (show l.length ≤ i by have := h.length; omega)]
    go_enter Try.func35, Try.ntmps35
    go_wp2
    go_ret
    exact ⟨rfl, rfl⟩

theorem bits_step (ys : List Int) (k y : Nat) (hl : ys.length = k) {x : Int} (hE : val ys + 2 ^ k * (y : Int) = x) : val (ys ++ [(y : Int) % 2]) + 2 ^ (k + 1) * ((y / 2 : Nat) : Int) = x := by
  rw [val_app, val_one, hl, pow_suc2, ← hE, Int.add_assoc, Int.mul_comm 2, Int.mul_assoc, ← Int.mul_add]
  congr 2
  omega
theorem bits_end {ys : List Int} {y : Nat} {x : Int} (hb : Bits ys) (hE : val ys + 2 ^ 64 * (y : Int) = x) (hx : x < 18446744073709551616) : val ys = x := by
  have := (val_range hb).1
  have e : (2 : Int) ^ 64 = 18446744073709551616 := by decide
  rw [e] at hE
  omega
theorem mod2 (y : Nat) : (y : Int) % 2 = 0 ∨ (y : Int) % 2 = 1 := by omega

set_option maxRecDepth 20000 in
theorem Bits_any (x : Nat) (w : World) (hx : x < 18446744073709551616) :
    Calls Try.prog 24 #[.int .u64 (x : Int)] w fun e w' => ∃ A c ys, e = .returned (.slice A 64 c) ∧ w'.ownsRow w.heap.size 3 1 (.slice A 64 c) 64 (ys.map (Value.int .i64)) ∧ Bits ys ∧ val ys = (x : Int) ∧ Below w.heap.size w w' := by
  have HX := Lib.hid hx
  go_enter Try.func24, Try.ntmps24
  go_wp2
  go_loopw [0, 3, 4] (fun xv v i wr => ∃ (k y c' : Nat) (A' : Option Addr) (ys : List Int), i = .int .i64 (k : Int) ∧ Hid (k ≤ 64) ∧ xv = .int .u64 (y : Int) ∧ y < 18446744073709551616 ∧ v = .slice A' k c' ∧ wr.ownsRow w.heap.size 3 1 (.slice A' k c') k (ys.map (Value.int .i64)) ∧ Hid (Bits ys ∧ val ys + 2 ^ k * (y : Int) = (x : Int)) ∧ Below w.heap.size w wr) (fun _ _ i _ => 64 - (intOf i).toNat)
  case atStart => exact ⟨0, x, 0, none, [], rfl, Lib.hid (by omega), rfl, hx, rfl, World.ownsRow_nil _ _ _ _, Lib.hid ⟨Bits.nil, by simp [val]⟩, Below.refl _ _⟩
  case round =>
    obtain ⟨k, y, c', A', ys, rfl, HK, rfl, hy, rfl, ho, HY, hb⟩ := hrel
    by_cases hlt : k < 64
    · have HL := Lib.hid hlt
      have d1 : decide ((k : Int) < 64) = true := by simp; omega
      have hk2 : (k : Int) ≤ 63 := by omega
      clear hlt hx
      go_wp2_with (at_builtin; refine wpList_app E_int rfl _ _ rfl rfl (ho.alloc _) rfl (Sees.one _ _ _) (one1 rfl) (by simp [maxLen]; omega) (by omega) (by have := hb.size; simp; omega) ?_; intro A4 c4 w4 hown4 hg4 hb4)
      go_roundw
      case rel =>
        have hl : ys.length = k := by have := (sees_own ho).length; exact this
        exact ⟨k + 1, y / 2, c4, A4, ys ++ [(y : Int) % 2], by go_num, Lib.hid HL.out, by go_num, by omega, rfl, by rw [List.map_append]; exact hown4, Lib.hid ⟨HY.out.1.app (Bits.one (mod2 y)), bits_step ys k y hl HY.out.2⟩, (hb.alloc hb.size _).trans hb4⟩
      case measure => have := HL.out; simp [intOf]; omega
    · have hk64 : k = 64 := by have := HK.out; omega
      have d1 : decide ((k : Int) < 64) = false := by simp; omega
      clear hlt hx
      have H64 := Lib.hid hk64
      clear hk64
      go_wp2
      go_ret
      obtain rfl := H64.out
      exact ⟨A', c', ys, rfl, ho, HY.out.1, bits_end HY.out.1 HY.out.2 (by have := HX.out; omega), hb⟩

theorem plus_end {a b : List Int} {m : Nat} {ys q : Int} (ba : Bits a) (bb : Bits b) (ha : a.length ≤ m) (hb : b.length ≤ m) (hy : 0 ≤ ys) (hq : q = 0 ∨ q = 1) (hE : ys + 2 ^ (m + 1) * q = val (a.take (m + 1)) + val (b.take (m + 1))) : ys = val a + val b := by
  rw [List.take_of_length_le (by omega), List.take_of_length_le (by omega), pow_suc2] at hE
  have h1 := val_le_pow ba ha
  have h2 := val_le_pow bb hb
  rcases hq with rfl | rfl
  · simpa using hE
  · rw [Int.mul_one] at hE
    omega

set_option maxRecDepth 20000 in
set_option maxHeartbeats 800000 in
theorem Plus_any (A B : Option Addr) (na ca nb cb m : Nat) (a b : List Int) (w : World) (ha : Sees w 1 A na ca (a.map (Value.int .i64))) (hb : Sees w 1 B nb cb (b.map (Value.int .i64))) (ba : Bits a) (bb : Bits b) (hm : na ≤ m ∧ nb ≤ m ∧ (m = na ∨ m = nb)) (hm2 : m ≤ 100000) :
    Calls Try.prog 30 #[.slice A na ca, .slice B nb cb] w fun e w' => ∃ A' c ys, e = .returned (.slice A' (m + 1) c) ∧ w'.ownsRow w.heap.size 3 1 (.slice A' (m + 1) c) (m + 1) (ys.map (Value.int .i64)) ∧ Bits ys ∧ val ys = val a + val b ∧ Below w.heap.size w w' := by
  have la := ha.length
  have lb := hb.length
  have HM := Lib.hid (And.intro hm (And.intro la lb))
  have hm3 : (m : Int) ≤ 100000 := by omega
  clear la lb hm
  go_enter Try.func30, Try.ntmps30
  go_wp2
  go_loopw [5, 6, 7] (fun v cy i wr => ∃ (k c' : Nat) (A' : Option Addr) (ys : List Int) (q : Int), i = .int .i64 (k : Int) ∧ Hid (k ≤ m + 1) ∧ cy = .int .i64 q ∧ Hid (q = 0 ∨ q = 1) ∧ v = .slice A' k c' ∧ wr.ownsRow w.heap.size 3 1 (.slice A' k c') k (ys.map (Value.int .i64)) ∧ Hid (Bits ys ∧ val ys + 2 ^ k * q = val (a.take k) + val (b.take k)) ∧ Below w.heap.size w wr) (fun _ _ i _ => m + 1 - (intOf i).toNat)
  case atStart => exact ⟨0, 0, none, [], 0, rfl, Lib.hid (by omega), rfl, Lib.hid (.inl rfl), rfl, World.ownsRow_nil _ _ _ _, Lib.hid ⟨Bits.nil, by simp [val]⟩, Below.refl _ _⟩
  case round =>
    obtain ⟨k, c', A', ys, q, rfl, HK, rfl, HQ, rfl, ho, HY, hbl⟩ := hrel
    by_cases hlt : k ≤ m
    · have HL := Lib.hid hlt
      have hk2 : (k : Int) ≤ 100000 := by omega
      have hsa := ha.below hbl (Nat.le_refl _)
      have hsb := hb.below hbl (Nat.le_refl _)
      obtain ⟨x, hx⟩ : ∃ x, a.getD k 0 = x := ⟨_, rfl⟩
      obtain ⟨y, hy⟩ : ∃ x, b.getD k 0 = x := ⟨_, rfl⟩
      have hxb := ba.at_ k
      have hyb := bb.at_ k
      rw [hx] at hxb
      rw [hy] at hyb
      obtain ⟨n, hn⟩ : ∃ n, x + y + q = n := ⟨_, rfl⟩
      have hn2 : 0 ≤ n ∧ n ≤ 3 := by have := HQ.out; omega
      have hx2 : 0 ≤ x ∧ x ≤ 1 := by omega
      have hy2 : 0 ≤ y ∧ y ≤ 1 := by omega
      have hq2 : 0 ≤ q ∧ q ≤ 1 := by have := HQ.out; omega
      have hst := plus_step (2 ^ k) (val ys) (val (a.take k)) (val (b.take k)) x y q n hxb hyb HQ.out hn.symm HY.out.2
      rw [← pow_suc2, ← hx, ← take_step, ← hy, ← take_step] at hst
      have HX := Lib.hid hx
      have HYY := Lib.hid hy
      have HN := Lib.hid hn
      have HST := Lib.hid hst
      clear hx hy hn hst hxb hyb hlt
      have hc : (decide ((k : Int) ≤ (na : Int)) = true ∧ decide (k ≤ na) = true) ∨ (decide ((k : Int) ≤ (na : Int)) = false ∧ decide (k ≤ na) = false ∧ decide ((k : Int) ≤ (nb : Int)) = true ∧ decide (k ≤ nb) = true) := by
        have := HM.out
        have := HL.out
        simp
        omega
      rcases hc with ⟨d1, d1'⟩ | ⟨d1, d1', d2, d2'⟩
      all_goals go_wp2_with (first
        | (go_at_call 35; refine (at_any _ _ _ _ _ _ (by first | exact hsa | exact hsb)).mono ?_; (first | rw [HX.out] | rw [HYY.out]); rintro e w2 ⟨rfl, rfl⟩)
        | (at_builtin; refine wpList_app E_int rfl _ _ rfl rfl (ho.alloc _) rfl (Sees.one _ _ _) (one1 rfl) (by simp [maxLen]; omega) (by omega) (by have := hbl.size; simp; omega) ?_; intro A4 c4 w4 hown4 hg4 hb4))
      all_goals go_roundw
      all_goals first
        | exact ⟨k + 1, c4, A4, ys ++ [n % 2], n / 2, by go_num, HL.out |> Nat.succ_le_succ |> Lib.hid, by rw [HN.out], Lib.hid HST.out.2.2, rfl, by rw [List.map_append, ← HN.out]; exact hown4, Lib.hid ⟨HY.out.1.app (Bits.one HST.out.2.1), by
            have hl : ys.length = k := (sees_own ho).length
            rw [val_app, val_one, hl]; exact HST.out.1⟩, (hbl.alloc hbl.size _).trans hb4⟩
        | (have := HL.out; simp [intOf]; omega)
    · have hkm : k = m + 1 := by have := HK.out; omega
      have d1 : decide ((k : Int) ≤ (na : Int)) = false := by have := HM.out; simp; omega
      have d2 : decide ((k : Int) ≤ (nb : Int)) = false := by have := HM.out; simp; omega
      have d1' : decide (k ≤ na) = false := by have := HM.out; simp; omega
      have d2' : decide (k ≤ nb) = false := by have := HM.out; simp; omega
      clear hlt
      have HKM := Lib.hid hkm
      clear hkm
      go_wp2
      go_ret
      obtain rfl := HKM.out
      exact ⟨A', c', ys, rfl, ho, HY.out.1, plus_end ba bb (by have := HM.out; omega) (by have := HM.out; omega) (val_range HY.out.1).1 HQ.out HY.out.2, hbl⟩
end Go.Proofs.Ytoglolhjfbpnpaa
