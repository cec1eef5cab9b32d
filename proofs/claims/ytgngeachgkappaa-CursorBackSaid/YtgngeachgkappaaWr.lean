/- Walks: the reference's Take, Fixed, Number, End; readers' calls in one contract each. -/
import Derived.Test.YtgngeachgkappaaProg
import Derived.Test.YtgngeachgkappaaWf
import Derived.Test.YtgngeachgkappaaWq
namespace Go.Proofs.Ytgngeachgkappaa
open Go.RowKit
set_option linter.unusedVariables false

/-- What taking k bytes does: the place after it, the bytes, the error. -/
def takeF (bs : List Int) (n at_ : Nat) (k : Int) : Nat × List Int × Int := if k < 0 then (at_, [], 2) else if (n : Int) < (at_ : Int) + k then (at_, [], 20) else (at_ + k.toNat, (bs.drop at_).take k.toNat, 0)
def fixedF (bs : List Int) (n at_ : Nat) (k : Int) : Nat × Int × Int := if k < 1 ∨ 8 < k then (at_, 0, 2) else if (n : Int) < (at_ : Int) + k then (at_, 0, 20) else (at_ + k.toNat, le ((bs.drop at_).take k.toNat), 0)
def numberF (bs : List Int) (at_ : Nat) (top : Int) : Nat × Int × Int := if (rd (bs.drop at_)).2.2 ≠ 0 then (at_, 0, (rd (bs.drop at_)).2.2) else if top < (rd (bs.drop at_)).1 then (at_, 0, 21) else (at_ + (rd (bs.drop at_)).2.1.toNat, (rd (bs.drop at_)).1, 0)

theorem Bytes_any (p n c at_ : Nat) (k : Int) (A : Option Addr) (bs : List Int) (w : World) (h : Rdr w p A n c bs at_) (hn : n ≤ 100000000) :
    Calls Try.prog 29 #[.pointer (some ⟨p, 0, none⟩), .int .i64 k] w fun e w' => ∃ A' m c', e = .returned (.tuple #[.slice A' m c', .int .i64 (takeF bs n at_ k).2.2]) ∧ w'.ownsRow w.heap.size 5 1 (.slice A' m c') m ((takeF bs n at_ k).2.1.map (Value.int .u8)) ∧ Did p n c (takeF bs n at_ k).1 A bs w w' := by
  unfold takeF
  by_cases h0 : k < 0
  · rw [if_pos h0]
    exact (Bytes_neg p n c at_ k A bs w h h0).mono fun e w' ⟨he, hd⟩ => ⟨none, 0, 0, he, World.ownsRow_nil _ _ _ _, hd⟩
  · rw [if_neg h0]
    by_cases h1 : (n : Int) < (at_ : Int) + k
    · rw [if_pos h1]
      exact (Bytes_end p n c at_ k A bs w h hn (by omega) h1).mono fun e w' ⟨he, hd⟩ => ⟨none, 0, 0, he, World.ownsRow_nil _ _ _ _, hd⟩
    · rw [if_neg h1]
      obtain ⟨j, rfl⟩ : ∃ j : Nat, k = (j : Int) := ⟨k.toNat, by omega⟩
      exact (Bytes_ok p n c at_ j A bs w h hn (by omega)).mono fun e w' ⟨A', c', he, ho, hd⟩ => ⟨A', j, c', he, by simpa using ho, hd⟩

theorem Fixed_any (p n c at_ : Nat) (k : Int) (A : Option Addr) (bs : List Int) (w : World) (h : Rdr w p A n c bs at_) (hb : Bytes bs) (hn : n ≤ 100000000) :
    Calls Try.prog 28 #[.pointer (some ⟨p, 0, none⟩), .int .i64 k] w fun e w' => e = .returned (.tuple #[.int .u64 (fixedF bs n at_ k).2.1, .int .i64 (fixedF bs n at_ k).2.2]) ∧ Did p n c (fixedF bs n at_ k).1 A bs w w' := by
  unfold fixedF
  by_cases h0 : k < 1 ∨ 8 < k
  · rw [if_pos h0]
    exact Fixed_bad p n c at_ k A bs w h h0
  · rw [if_neg h0]
    by_cases h1 : (n : Int) < (at_ : Int) + k
    · rw [if_pos h1]
      exact Fixed_end p n c at_ k A bs w h hn (by omega) (by omega) h1
    · rw [if_neg h1]
      obtain ⟨j, rfl⟩ : ∃ j : Nat, k = (j : Int) := ⟨k.toNat, by omega⟩
      exact (Fixed_ok p n c at_ j A bs w h hb hn (by omega) (by omega) (by omega)).mono fun e w' ⟨he, hd⟩ => ⟨by simpa using he, hd⟩

theorem Number_any (p n c at_ : Nat) (top : Int) (A : Option Addr) (bs : List Int) (w : World) (h : Rdr w p A n c bs at_) (hb : Bytes bs) (hn : n ≤ 100000000) :
    Calls Try.prog 23 #[.pointer (some ⟨p, 0, none⟩), .int .u64 top] w fun e w' => e = .returned (.tuple #[.int .u64 (numberF bs at_ top).2.1, .int .i64 (numberF bs at_ top).2.2]) ∧ Did p n c (numberF bs at_ top).1 A bs w w' := by
  unfold numberF
  obtain ⟨x, m, er, hx⟩ : ∃ x m er, rd (bs.drop at_) = (x, m, er) := ⟨_, _, _, rfl⟩
  rw [hx]
  by_cases h0 : er ≠ 0
  · simp only [if_pos h0]
    exact Number_err p n c at_ top x m er A bs w h hb hn hx h0
  · simp only [if_neg h0]
    have h0 : er = 0 := Classical.not_not.1 h0
    by_cases h1 : top < x
    · simp only [if_pos h1]
      exact Number_most p n c at_ top x m er A bs w h hb hn hx h0 h1
    · simp only [if_neg h1]
      exact Number_ok p n c at_ top x m er A bs w h hb hn hx h0 (by omega)

/-- A reference reader as a value. -/
abbrev rv (A : Option Addr) (n c at_ : Nat) : Value := .agg #[.slice A n c, .int .i64 (at_ : Int)]

set_option maxRecDepth 20000 in
theorem refEnd_any (A : Option Addr) (n c at_ : Nat) (w : World) (h : at_ ≤ n) (hn : n ≤ 100000000) :
    Calls Try.prog 51 #[rv A n c at_] w fun e w' => e = .returned (.int .i64 (if at_ < n then 22 else 0)) ∧ Below w.heap.size w w' := by
  by_cases hlt : at_ < n
  · rw [if_pos hlt]
    have d1 : decide ((at_ : Int) < (n : Int)) = true := by simp; omega
    have d1' : decide (at_ < n) = true := by simp; omega
    clear hlt
    go_enter Try.func51, Try.ntmps51
    go_wp2
    go_ret
    exact ⟨rfl, (Below.refl _ _).alloc (Nat.le_refl _) _⟩
  · rw [if_neg hlt]
    have d1 : decide ((at_ : Int) < (n : Int)) = false := by simp; omega
    have d1' : decide (at_ < n) = false := by simp; omega
    clear hlt
    go_enter Try.func51, Try.ntmps51
    go_wp2
    go_ret
    exact ⟨rfl, (Below.refl _ _).alloc (Nat.le_refl _) _⟩

/-- The world behind the two boxes of a reference's call. -/
def bx (w : World) (A : Option Addr) (n c at_ : Nat) : World := (w.alloc (.cells #[.slice A n c, .int .i64 (at_ : Int)] 88)).alloc (.cells #[.slice none 0 0, .int .i64 0] 88)
theorem bx_c0 (w : World) (A : Option Addr) (n c at_ : Nat) : (bx w A n c at_).cell? ⟨w.heap.size, 0, none⟩ = some (.slice A n c) := by unfold bx; simp
theorem bx_c1 (w : World) (A : Option Addr) (n c at_ : Nat) : (bx w A n c at_).cell? ⟨w.heap.size, 1, none⟩ = some (.int .i64 (at_ : Int)) := by unfold bx; simp
theorem bx_d0 (w : World) (A : Option Addr) (n c at_ : Nat) : (bx w A n c at_).cell? ⟨w.heap.size + 1, 0, none⟩ = some (.slice none 0 0) := by unfold bx; simp
theorem bx_d1 (w : World) (A : Option Addr) (n c at_ : Nat) : (bx w A n c at_).cell? ⟨w.heap.size + 1, 1, none⟩ = some (.int .i64 0) := by unfold bx; simp
theorem bx_size (w : World) (A : Option Addr) (n c at_ : Nat) : (bx w A n c at_).heap.size = w.heap.size + 2 := by unfold bx; simp
theorem bx_below (w : World) (A : Option Addr) (n c at_ : Nat) : Below w.heap.size w (bx w A n c at_) := ((Below.refl _ _).alloc (Nat.le_refl _) _).alloc (by simp) _
theorem bx_froz (w : World) (A : Option Addr) (n c at_ k : Nat) : (bx w A n c at_).frozen? ⟨w.heap.size + 1, k, none⟩ = false := by
  have h : (bx w A n c at_).heap[w.heap.size + 1]? = some (.cells #[.slice none 0 0, .int .i64 0] 88 (0, 0)) := lit_new (by simp)
  simp [World.frozen?, h]
/-- What lies in the boxes, later on. -/
theorem bx_at {w W : World} {A : Option Addr} {n c at_ : Nat} (h : Below (w.heap.size + 2) (bx w A n c at_) W) : W.cell? ⟨w.heap.size, 0, none⟩ = some (.slice A n c) ∧ W.cell? ⟨w.heap.size, 1, none⟩ = some (.int .i64 (at_ : Int)) ∧ W.cell? ⟨w.heap.size + 1, 0, none⟩ = some (.slice none 0 0) ∧ W.cell? ⟨w.heap.size + 1, 1, none⟩ = some (.int .i64 0) ∧ W.frozen? ⟨w.heap.size + 1, 0, none⟩ = false ∧ W.frozen? ⟨w.heap.size + 1, 1, none⟩ = false :=
  have e0 : w.heap.size < w.heap.size + 2 := by omega
  have e1 : w.heap.size + 1 < w.heap.size + 2 := by omega
  ⟨(h.cell (p := ⟨w.heap.size, 0, none⟩) e0).trans (bx_c0 ..), (h.cell (p := ⟨w.heap.size, 1, none⟩) e0).trans (bx_c1 ..), (h.cell (p := ⟨w.heap.size + 1, 0, none⟩) e1).trans (bx_d0 ..), (h.cell (p := ⟨w.heap.size + 1, 1, none⟩) e1).trans (bx_d1 ..),
    (h.frozen (p := ⟨w.heap.size + 1, 0, none⟩) e1).trans (bx_froz ..), (h.frozen (p := ⟨w.heap.size + 1, 1, none⟩) e1).trans (bx_froz ..)⟩

set_option maxRecDepth 20000 in
set_option maxHeartbeats 800000 in
theorem refTake_any (A : Option Addr) (n c at_ : Nat) (k : Int) (bs : List Int) (w : World) (hs : Sees w 1 A n c (bs.map (Value.int .u8))) (h : at_ ≤ n) (hn : n ≤ 100000000) :
    Calls Try.prog 56 #[rv A n c at_, .int .i64 k] w fun e w' => ∃ A' m c', e = .returned (.tuple #[rv A n c (takeF bs n at_ k).1, .slice A' m c', .int .i64 (takeF bs n at_ k).2.2]) ∧ w'.ownsRow w.heap.size 5 1 (.slice A' m c') m ((takeF bs n at_ k).2.1.map (Value.int .u8)) ∧ Below w.heap.size w w' := by
  have hn2 : (n : Int) ≤ 100000000 := by omega
  have hat : (at_ : Int) ≤ (n : Int) := by omega
  have B2 := bx_below w A n c at_
  have HSZ := Lib.hid (bx_size w A n c at_)
  have HS := Lib.hid hs
  have HL := Lib.hid hs.length
  clear hs h hn
  unfold takeF
  by_cases h0 : k < 0
  · rw [if_pos h0]
    go_enter Try.func56, Try.ntmps56
    go_wp2
    exact bodyPost_ret (v := .tuple #[rv A n c at_, .slice none 0 0, .int .i64 2]) (by simp [results, Try.results56, go_sem]) rfl ⟨none, 0, 0, rfl, World.ownsRow_nil _ _ _ _, ((Below.refl _ _).alloc (Nat.le_refl _) _).alloc (by simp) _⟩
  · rw [if_neg h0]
    by_cases h1 : (n : Int) < (at_ : Int) + k
    · rw [if_pos h1]
      have d0 : decide (k < 0) = false := by simpa using h0
      have d1 : decide ((n : Int) - (at_ : Int) < k) = true := by simp; omega
      clear h0 h1
      go_enter Try.func56, Try.ntmps56
      go_wp2
      exact bodyPost_ret (v := .tuple #[rv A n c at_, .slice none 0 0, .int .i64 20]) (by simp [results, Try.results56, go_sem]) rfl ⟨none, 0, 0, rfl, World.ownsRow_nil _ _ _ _, ((Below.refl _ _).alloc (Nat.le_refl _) _).alloc (by simp) _⟩
    · rw [if_neg h1]
      obtain ⟨q, rfl⟩ : ∃ q : Nat, k = (q : Int) := ⟨k.toNat, by omega⟩
      rw [Int.toNat_natCast]
      have d0 : decide ((q : Int) < 0) = false := by simp
      have d1 : decide ((n : Int) - (at_ : Int) < (q : Int)) = false := by simp; omega
      have hq : (at_ : Int) + (q : Int) ≤ (n : Int) := by omega
      clear h0 h1
      go_enter Try.func56, Try.ntmps56
      go_wp2
      clear d0 d1
      go_loopw [7, 8] (fun v i wr => ∃ (j c' : Nat) (A' : Option Addr), i = .int .i64 (j : Int) ∧ j ≤ q ∧ v = .slice A' j c' ∧ wr.ownsRow (w.heap.size + 2) 5 1 (.slice A' j c') j (((bs.drop at_).take j).map (Value.int .u8)) ∧ Below (w.heap.size + 2) (bx w A n c at_) wr) (fun _ i _ => q - (intOf i).toNat)
      case atStart => exact ⟨0, 0, none, rfl, Nat.zero_le _, rfl, World.ownsRow_nil _ _ _ _, Below.refl _ _⟩
      case round =>
        obtain ⟨j, c', A', rfl, hj, rfl, ho, hb⟩ := hrel
        obtain ⟨q0, q1, q2, q3, q4, q5⟩ := bx_at hb
        have hsz : w.heap.size + 2 ≤ wr.heap.size := by have := hb.size; rw [HSZ.out] at this; exact this
        have hbw := B2.trans (hb.mono (by omega))
        by_cases hlt : j < q
        · obtain ⟨b1, o1, hA, g1⟩ := (HS.out.below hbw (Nat.le_refl _)).int (k := at_ + j) (by omega)
          cases hA
          obtain ⟨y, hy⟩ : ∃ y, bs.getD (at_ + j) 0 = y := ⟨_, rfl⟩
          rw [hy] at g1
          have hstep : (bs.drop at_).take (j + 1) = (bs.drop at_).take j ++ [y] := by
            rw [List.take_add_one, List.getElem?_drop, List.getElem?_eq_getElem (by rw [HL.out]; omega), ← hy]
            simp [List.getD, show at_ + j < bs.length by rw [HL.out]; omega]
          have HST := Lib.hid hstep
          have i0 : ((at_ : Int) + (j : Int)).toNat = at_ + j := by omega
          have i1 : (at_ : Int) + (j : Int) < (n : Int) := by omega
          have hsz2 := Lib.hid hsz
          clear hy hstep
          go_wp2_with (at_builtin; refine wpList_app E_u8 rfl _ _ rfl rfl (ho.alloc _) rfl (Sees.one _ _ _) (ints1 _ [y]) (by simp [maxLen]; omega) (by omega) (by simp; omega) ?_; intro A4 c4 w4 hown4 hg4 hb4)
          go_roundw
          case rel =>
            refine ⟨j + 1, c4, A4, by go_num, by omega, rfl, ?_, (hb.alloc hsz2.out _).trans hb4⟩
            rw [HST.out, List.map_append]
            exact hown4
          case measure => simp [intOf]; omega
        · obtain rfl : j = q := by omega
          clear hlt
          go_wp2
          exact bodyPost_ret (v := .tuple #[rv A n c (at_ + j), .slice A' j c', .int .i64 0]) (by simp [results, Try.results56, go_sem, q2, q3]) rfl ⟨A', j, c', rfl, own_base (ownsRow_setCell_below (ownsRow_setCell_below ho (Nat.lt_succ_self _) _) (Nat.lt_succ_self _) _) (Nat.le_add_right _ _), (hbw.setCell (by simp) _).setCell (by simp) _⟩
end Go.Proofs.Ytgngeachgkappaa
