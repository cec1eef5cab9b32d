/- Walks: reading a form (Vf's text, for a seat that lacks Vc's and Ve's functions). -/
import Derived.Test.YtgngeachgkappaaProg
import Derived.Test.YtgngeachgkappaaVb
import Derived.Test.YtgngeachgkappaaQ6
namespace Go.Proofs.Ytgngeachgkappaa
open Go.RowKit
set_option linter.unusedVariables false

theorem E_u8 : Elem Try.prog 31 5 (.int .u8 0) 1 1 := elem_of Try.underlying31 (by kernel_rfl) rfl (by decide)

/-- Reading a form, from the byte number i on, acc being what the bytes before it are: the number, how many bytes it has, the error. -/
def rdGo : List Int → Nat → Int → Int × Int × Int
  | [], _, _ => (0, 0, 10)
  | b :: r, i, acc => if i = 9 ∧ 1 < b then (0, 0, 11) else if b < 128 then (if b = 0 ∧ 0 < i then (0, 0, 12) else (acc + b * 128 ^ i, (i : Int) + 1, 0)) else rdGo r (i + 1) (acc + (b - 128) * 128 ^ i)
def rd (l : List Int) : Int × Int × Int := rdGo l 0 0

def Bytes (l : List Int) : Prop := ∀ x ∈ l, 0 ≤ x ∧ x ≤ 255
theorem Bytes.at_ {l : List Int} (h : Bytes l) {k : Nat} (hk : k < l.length) : 0 ≤ l.getD k 0 ∧ l.getD k 0 ≤ 255 := h _ (by rw [List.getD, List.getElem?_eq_getElem hk]; exact List.getElem_mem _)
theorem drop_one {a : List Int} {k : Nat} (h : k < a.length) : a.drop k = a.getD k 0 :: a.drop (k + 1) := by
  rw [List.drop_eq_getElem_cons h]; simp [List.getD, h]

theorem at_short (bb i n c : Nat) (A : Option Addr) (w : World) (hb : w.cell? ⟨bb, 0, none⟩ = some (.slice A n c)) (hi : n ≤ i) (hi2 : i ≤ 1000) :
    Calls Try.prog 55 #[.int .i64 (i : Int), .pointer (some ⟨bb, 0, none⟩)] w fun e w' => e = .returned (.tuple #[.int .u8 0, .int .i64 10]) ∧ w = w' := by
  go_enter Try.func55, Try.ntmps55
  go_wp2
  go_ret2
  exact ⟨rfl, rfl⟩

theorem at_over (bb b o n c : Nat) (x : Int) (w : World) (hb : w.cell? ⟨bb, 0, none⟩ = some (.slice (some ⟨b, o, none⟩) n c)) (hx : w.cell? ⟨b, o + 9, none⟩ = some (.int .u8 x)) (hi : 9 < n) (h1 : 1 < x) :
    Calls Try.prog 55 #[.int .i64 9, .pointer (some ⟨bb, 0, none⟩)] w fun e w' => e = .returned (.tuple #[.int .u8 0, .int .i64 11]) ∧ w = w' := by
  go_enter Try.func55, Try.ntmps55
  go_wp2
  go_ret2
  exact ⟨rfl, rfl⟩

theorem at_zero (bb b o i n c : Nat) (w : World) (hb : w.cell? ⟨bb, 0, none⟩ = some (.slice (some ⟨b, o, none⟩) n c)) (hx : w.cell? ⟨b, o + i, none⟩ = some (.int .u8 0)) (hi : i < n) (hi0 : 0 < i) (hi2 : i ≤ 9) :
    Calls Try.prog 55 #[.int .i64 (i : Int), .pointer (some ⟨bb, 0, none⟩)] w fun e w' => e = .returned (.tuple #[.int .u8 0, .int .i64 12]) ∧ w = w' := by
  by_cases h9 : i = 9
  · subst h9
    go_enter Try.func55, Try.ntmps55
    go_wp2
    go_ret2
    exact ⟨rfl, rfl⟩
  · have h9' : ((i : Int) == 9) = false := by simp; omega
    go_enter Try.func55, Try.ntmps55
    go_wp2
    go_ret2
    exact ⟨rfl, rfl⟩

theorem at_ok (bb b o i n c : Nat) (x : Int) (w : World) (hb : w.cell? ⟨bb, 0, none⟩ = some (.slice (some ⟨b, o, none⟩) n c)) (hx : w.cell? ⟨b, o + i, none⟩ = some (.int .u8 x)) (hi : i < n) (hi2 : i ≤ 9) (h9 : i = 9 → x ≤ 1) (h0 : 0 < i → x ≠ 0) :
    Calls Try.prog 55 #[.int .i64 (i : Int), .pointer (some ⟨bb, 0, none⟩)] w fun e w' => e = .returned (.tuple #[.int .u8 x, .int .i64 0]) ∧ w = w' := by
  by_cases e9 : i = 9
  · subst e9
    have hx1 := h9 rfl
    have hx0 : (x == 0) = false := by simpa using h0 (by omega)
    go_enter Try.func55, Try.ntmps55
    go_wp2
    go_ret2
    exact ⟨rfl, rfl⟩
  · have h9' : ((i : Int) == 9) = false := by simp; omega
    by_cases e0 : i = 0
    · subst e0
      rw [Nat.add_zero] at hx
      go_enter Try.func55, Try.ntmps55
      go_wp2
      go_ret2
      exact ⟨rfl, rfl⟩
    · have hx0 : (x == 0) = false := by simpa using h0 (by omega)
      have hi0 : 0 < i := by omega
      clear h9 h0 e9 e0
      go_enter Try.func55, Try.ntmps55
      go_wp2
      go_ret2
      exact ⟨rfl, rfl⟩

set_option maxRecDepth 20000 in
set_option maxHeartbeats 800000 in
theorem Read_any (A : Option Addr) (n c : Nat) (l : List Int) (w : World) (h : Sees w 1 A n c (l.map (Value.int .u8))) (hl : Bytes l) :
    Calls Try.prog 48 #[.slice A n c] w fun e w' => e = .returned (.tuple #[.int .u64 (rd l).1, .int .i64 (rd l).2.1, .int .i64 (rd l).2.2]) ∧ Below w.heap.size w w' := by
  have hlen := h.length
  have hm : n ≤ 9223372036854775807 := Nat.le_trans h.cap h.capm
  have HLEN := Lib.hid hlen
  have hw := h.below ((Below.refl _ w).alloc (Nat.le_refl _) (.cells #[.slice A n c] 31)) (Nat.le_refl _)
  have hbox : (w.alloc (.cells #[.slice A n c] 31)).cell? ⟨w.heap.size, 0, none⟩ = some (.slice A n c) := by simp
  have hbel : Below w.heap.size w (w.alloc (.cells #[.slice A n c] 31)) := (Below.refl _ w).alloc (Nat.le_refl _) _
  clear hlen
  go_enter Try.func48, Try.ntmps48
  go_wp2
  go_loop [5, 7] (fun x i => ∃ (k : Nat) (acc : Int), i = .int .i64 k ∧ k ≤ 9 ∧ k ≤ n ∧ x = .int .u64 acc ∧ 0 ≤ acc ∧ Hid (acc < 128 ^ k) ∧ Hid (rdGo (l.drop k) k acc = rd l)) (fun _ i => 10 - (intOf i).toNat)
  case atStart => exact ⟨0, 0, rfl, by omega, by omega, rfl, by omega, by show (0 : Int) < 128 ^ 0; decide, rfl⟩
  case round =>
    obtain ⟨k, acc, rfl, hk9, hkn, rfl, hacc, HA, HR⟩ := hrel
    by_cases hlt : k < n
    · have hkl : k < l.length := by rw [HLEN.out]; exact hlt
      have hR := HR.out
      rw [drop_one hkl] at hR
      obtain ⟨b1, o1, rfl, g1⟩ := hw.int hlt
      have hbd := hl.at_ hkl
      generalize l.getD k 0 = x at g1 hbd hR
      have HRR := Lib.hid hR
      have hx0 := hbd.1
      have hx1 := hbd.2
      clear hR HR hkl hbd
      by_cases h9 : k = 9 ∧ 1 < x
      · have hfin : rd l = (0, 0, 11) := by rw [← HRR.out, rdGo, if_pos h9]
        have HF := Lib.hid hfin
        obtain ⟨rfl, h9x⟩ := h9
        clear hfin HRR
        go_wp2_with (go_at_call 55; refine (at_over _ b1 o1 n c x _ hbox g1 hlt h9x).mono ?_; rintro e w' ⟨rfl, rfl⟩)
        go_ret3
        exact ⟨by rw [HF.out]; rfl, hbel⟩
      · by_cases h0 : x = 0 ∧ 0 < k
        · have hfin : rd l = (0, 0, 12) := by rw [← HRR.out, rdGo, if_neg h9, if_pos (by omega), if_pos h0]
          have HF := Lib.hid hfin
          obtain ⟨rfl, hk0⟩ := h0
          clear hfin HRR h9
          go_wp2_with (go_at_call 55; refine (at_zero _ b1 o1 k n c _ hbox g1 hlt hk0 hk9).mono ?_; rintro e w' ⟨rfl, rfl⟩)
          go_ret3
          exact ⟨by rw [HF.out]; rfl, hbel⟩
        · have ha9 : k = 9 → x ≤ 1 := fun e => by
            rcases Int.lt_or_le 1 x with h' | h'
            · exact (h9 ⟨e, h'⟩).elim
            · exact h'
          have ha0 : 0 < k → x ≠ 0 := fun e e' => h0 ⟨e', e⟩
          have HK := Lib.hid (And.intro h9 h0)
          have HA9 := Lib.hid ha9
          have HA0 := Lib.hid ha0
          clear h9 h0 ha9 ha0
          by_cases h128 : x < 128
          · go_wp2_with (go_at_call 55; refine (at_ok _ b1 o1 k n c x _ hbox g1 hlt hk9 HA9.out HA0.out).mono ?_; rintro e w' ⟨rfl, rfl⟩)
            go_ret3
            have hfin : rd l = (acc + x * 128 ^ k, (k : Int) + 1, 0) := by rw [← HRR.out, rdGo, if_neg HK.out.1, if_pos h128, if_neg HK.out.2]
            rw [hfin]
            have hacc2 := acc_int acc x k hacc HA.out hx0 hx1 hk9 HA9.out
            rw [Int.emod_eq_of_lt hx0 h128] at hacc2
            exact ⟨by rw [← hacc2]; rfl, hbel⟩
          · have hk8 : k ≤ 8 := by
              rcases Nat.lt_or_ge k 9 with h' | h'
              · omega
              · have := HA9.out (by omega)
                omega
            have hacc2 := acc_int acc x k hacc HA.out hx0 hx1 hk9 HA9.out
            have e128 : x % 128 = x - 128 := by omega
            rw [e128] at hacc2
            have HACC := Lib.hid hacc2
            have hfin : rdGo (l.drop (k + 1)) (k + 1) (acc + (x - 128) * 128 ^ k) = rd l := by rw [← HRR.out, rdGo, if_neg HK.out.1, if_neg h128]
            have HF := Lib.hid hfin
            clear hacc2 e128 hfin HRR
            go_wp2_with (go_at_call 55; refine (at_ok _ b1 o1 k n c x _ hbox g1 hlt hk9 HA9.out HA0.out).mono ?_; rintro e w' ⟨rfl, rfl⟩)
            go_round
            case rel =>
              refine ⟨k + 1, acc + (x - 128) * 128 ^ k, by go_num, by omega, by omega, by rw [HACC.out], acc_pos acc (x - 128) k hacc (by omega), acc_lt acc (x - 128) k HA.out (by omega), HF.out⟩
            case measure => simp [intOf]; omega
    · obtain rfl : k = n := by omega
      have hfin : rd l = (0, 0, 10) := by rw [← HR.out, List.drop_of_length_le (by rw [HLEN.out]; omega), rdGo]
      have HF := Lib.hid hfin
      clear hfin HR
      go_wp2_with (go_at_call 55; refine (at_short _ k k c A _ hbox (Nat.le_refl _) (by omega)).mono ?_; rintro e w' ⟨rfl, rfl⟩)
      go_ret3
      exact ⟨by rw [HF.out]; rfl, hbel⟩
end Go.Proofs.Ytgngeachgkappaa
