/- Walks: Count, the program's and the reference's. -/
import Derived.Test.YtgngeachgkappaaProg
import Derived.Test.YtgngeachgkappaaWt
namespace Go.Proofs.Ytgngeachgkappaa
open Go.RowKit
set_option linter.unusedVariables false

def countF (bs : List Int) (n at_ : Nat) (top size : Int) : Nat × Int × Int := if top < 0 ∨ size < 1 then (at_, 0, 2) else if (numberF bs at_ top).2.2 ≠ 0 then (at_, 0, (numberF bs at_ top).2.2) else if ((n - (numberF bs at_ top).1 : Nat) : Int) / size < (numberF bs at_ top).2.1 then (at_, 0, 20) else numberF bs at_ top
theorem numberF_err {bs : List Int} {at_ : Nat} {top : Int} (h : (numberF bs at_ top).2.2 ≠ 0) : (numberF bs at_ top).1 = at_ ∧ (numberF bs at_ top).2.1 = 0 := by
  unfold numberF at h ⊢
  split
  · exact ⟨rfl, rfl⟩
  · split
    · exact ⟨rfl, rfl⟩
    · rename_i h1 h2
      rw [if_neg h1, if_neg h2] at h
      exact absurd rfl h
theorem numberF_ok {bs : List Int} {at_ : Nat} {top : Int} (hb : Bytes bs) (h : (numberF bs at_ top).2.2 = 0) : 0 ≤ (numberF bs at_ top).2.1 ∧ (numberF bs at_ top).2.1 ≤ top := by
  unfold numberF at h ⊢
  split
  · rename_i h1; rw [if_pos h1] at h; exact absurd h h1
  · rename_i h1
    split
    · rename_i h2; rw [if_neg h1, if_pos h2] at h; cases h
    · rename_i h2
      obtain ⟨m, e1, e2, e3, e4, e5, e6⟩ := rd_ok (hb.drop at_) (Classical.not_not.1 h1)
      exact ⟨e5, by show (rd (bs.drop at_)).1 ≤ top; omega⟩
theorem countF_at {bs : List Int} {n at_ : Nat} (top size : Int) (hb : Bytes bs) (hl : bs.length = n) (h : at_ ≤ n) : (countF bs n at_ top size).1 ≤ n := by
  unfold countF
  split
  · exact h
  · split
    · exact h
    · split
      · exact h
      · exact numberF_at top hb hl h

theorem Count_any (p n c at_ : Nat) (top size : Int) (A : Option Addr) (bs : List Int) (w : World) (h : Rdr w p A n c bs at_) (hb : Bytes bs) (hn : n ≤ 100000000) (ht : top ≤ 9223372036854775807) (hs : size ≤ 9223372036854775807) :
    Calls Try.prog 32 #[.pointer (some ⟨p, 0, none⟩), .int .i64 top, .int .i64 size] w fun e w' => e = .returned (.tuple #[.int .i64 (countF bs n at_ top size).2.1, .int .i64 (countF bs n at_ top size).2.2]) ∧ Did p n c (countF bs n at_ top size).1 A bs w w' := by
  unfold countF
  by_cases h0 : top < 0 ∨ size < 1
  · rw [if_pos h0]
    exact Count_bad p n c at_ top size A bs w h h0
  · rw [if_neg h0]
    by_cases h1 : (numberF bs at_ top).2.2 ≠ 0
    · rw [if_pos h1]
      obtain ⟨e1, e2⟩ := numberF_err h1
      exact Count_fail p n c at_ top size _ A bs w h (by omega) ht (by omega) h1 (fun w1 hw1 => (Number_any p n c at_ top A bs w1 hw1 hb hn).mono fun e w' ⟨he, hd⟩ => ⟨by rw [he, e2], by rw [e1] at hd; exact hd⟩)
    · rw [if_neg h1]
      have h1 := Classical.not_not.1 h1
      obtain ⟨e1, e2⟩ := numberF_ok hb h1
      refine (Count_in p n c at_ (numberF bs at_ top).1 top size (numberF bs at_ top).2.1 A bs w h hn (by omega) ht (by omega) hs e1 e2 (fun w1 hw1 => (Number_any p n c at_ top A bs w1 hw1 hb hn).mono fun e w' ⟨he, hd⟩ => ⟨by rw [he, h1], hd⟩)).mono fun e w' hh => ?_
      rcases hh with ⟨hlt, he, hd⟩ | ⟨hge, he, hd⟩
      · rw [if_pos hlt]; exact ⟨he, hd⟩
      · rw [if_neg (Int.not_lt.2 hge), h1]; exact ⟨he, hd⟩

theorem count_stop {l0 lv s : Int} {j : Nat} (h : lv = l0 - (j : Int) * s) (h0 : 0 ≤ lv) (h1 : lv < s) : l0 / s = (j : Int) := by
  have e : l0 = lv + s * (j : Int) := by rw [h, Int.mul_comm s]; omega
  rw [e, Int.add_mul_ediv_left _ _ (by omega), Int.ediv_eq_zero_of_lt h0 h1, Int.zero_add]
theorem count_all {l0 lv s : Int} {j : Nat} (h : lv = l0 - (j : Int) * s) (h0 : 0 ≤ lv) (h1 : 1 ≤ s) : (j : Int) ≤ l0 / s := by
  have e : l0 = lv + s * (j : Int) := by rw [h, Int.mul_comm s]; omega
  rw [e, Int.add_mul_ediv_left _ _ (by omega)]
  have := Int.ediv_nonneg h0 (by omega : 0 ≤ s)
  omega
theorem count_step {l0 lv s : Int} {j : Nat} (h : lv = l0 - (j : Int) * s) : lv - s = l0 - ((j + 1 : Nat) : Int) * s := by
  rw [h, Int.natCast_add, Int.add_mul]; simp; omega

set_option maxRecDepth 20000 in
set_option maxHeartbeats 1600000 in
theorem refCount_any (A : Option Addr) (n c at_ : Nat) (top size : Int) (bs : List Int) (w : World) (hs : Sees w 1 A n c (bs.map (Value.int .u8))) (hbs : Bytes bs) (h : at_ ≤ n) (hn : n ≤ 100000000) (ht : top ≤ 9223372036854775807) (hsz : size ≤ 9223372036854775807) :
    Calls Try.prog 59 #[rv A n c at_, .int .i64 top, .int .i64 size] w fun e w' => e = .returned (.tuple #[rv A n c (countF bs n at_ top size).1, .int .i64 (countF bs n at_ top size).2.1, .int .i64 (countF bs n at_ top size).2.2]) ∧ Below w.heap.size w w' := by
  have hlen := hs.length
  have hnat := numberF_at (at_ := at_) top hbs hlen h
  have hnok := numberF_ok (bs := bs) (at_ := at_) (top := top) hbs
  unfold countF
  by_cases h0 : top < 0 ∨ size < 1
  · rw [if_pos h0]
    by_cases h1 : top < 0
    · have d1 : decide (top < 0) = true := by simpa using h1
      clear h0 h1 hlen hnat hnok hs
      go_enter Try.func59, Try.ntmps59
      go_wp2
      exact bodyPost_ret (v := .tuple #[rv A n c at_, .int .i64 0, .int .i64 2]) (by simp [results, Try.results59, go_sem]) rfl ⟨rfl, ((Below.refl _ _).alloc (Nat.le_refl _) _).alloc (by simp) _⟩
    · have d1 : decide (top < 0) = false := by simpa using h1
      have d2 : decide (size < 1) = true := by simp; omega
      clear h0 h1 hlen hnat hnok hs
      go_enter Try.func59, Try.ntmps59
      go_wp2
      exact bodyPost_ret (v := .tuple #[rv A n c at_, .int .i64 0, .int .i64 2]) (by simp [results, Try.results59, go_sem]) rfl ⟨rfl, ((Below.refl _ _).alloc (Nat.le_refl _) _).alloc (by simp) _⟩
  · rw [if_neg h0]
    have d1 : decide (top < 0) = false := by simp; omega
    have d2 : decide (size < 1) = false := by simp; omega
    have ht0 : 0 ≤ top := by omega
    have hs0 : 1 ≤ size := by omega
    have HS := Lib.hid (hs.below (bx_below w A n c at_) (Nat.le_refl _))
    have HN := Lib.hid (And.intro h hn)
    have HB2 := Lib.hid (bx_below w A n c at_)
    have HSZ := Lib.hid (bx_size w A n c at_)
    have HQ := Lib.hid (bx_at (Below.refl (w.heap.size + 2) (bx w A n c at_)))
    obtain ⟨at', x, er, hT⟩ : ∃ at' x er, numberF bs at_ top = (at', x, er) := ⟨_, _, _, rfl⟩
    rw [hT] at hnat hnok
    rw [hT]
    have HT := Lib.hid hT
    have hn2 : (n : Int) ≤ 100000000 := by omega
    have hat2 : (at' : Int) ≤ (n : Int) := by have : at' ≤ n := hnat; omega
    by_cases h1 : er ≠ 0
    · simp only [if_pos h1]
      have d3 : (er != 0) = true := by simpa using h1
      clear h0 h1 hlen hnat hnok hs hT h hn
      go_enter Try.func59, Try.ntmps59
      go_wp2_with (go_at_call 58; change Calls _ _ _ (bx w A n c at_) _; refine (refNumber_any A n c at_ top bs _ HS.out hbs HN.out.1 HN.out.2).mono ?_; rw [HT.out]; rintro e w2 ⟨rfl, k2⟩; have q0 := below_cellA k2 HQ.out.1; have q1 := below_cellA k2 HQ.out.2.1; have q2 := below_cellA k2 HQ.out.2.2.1; have q3 := below_cellA k2 HQ.out.2.2.2.1; have q4 := below_frozA k2 (by show w.heap.size + 1 < _; rw [HSZ.out]; omega) HQ.out.2.2.2.2.1; have q5 := below_frozA k2 (by show w.heap.size + 1 < _; rw [HSZ.out]; omega) HQ.out.2.2.2.2.2; have hz : w.heap.size + 1 < w2.heap.size := (by have := k2.size; rw [HSZ.out] at this; omega); have hz0 : w.heap.size < w2.heap.size := (by omega); have b2 := below_step HB2.out k2)
      exact bodyPost_ret (v := .tuple #[rv A n c at_, .int .i64 0, .int .i64 er]) (by simp [results, Try.results59, go_sem, q2, q3, hz]) rfl ⟨rfl, ((b2.setCell (Nat.le_succ _) _).setCell (Nat.le_succ _) _).alloc (by rw [setCell_size, setCell_size]; exact b2.size) _⟩
    · simp only [if_neg h1]
      obtain rfl : er = 0 := Classical.not_not.1 h1
      obtain ⟨hx0, hx1⟩ := hnok rfl
      obtain ⟨xn, rfl⟩ : ∃ xn : Nat, x = (xn : Int) := ⟨x.toNat, by have : 0 ≤ x := hx0; omega⟩
      have hx2 : (xn : Int) ≤ top := hx1
      have HL0 : Hid (((n - at' : Nat) : Int) = (n : Int) - (at' : Int)) := Lib.hid (by have : at' ≤ n := hnat; omega)
      rw [HL0.out]
      clear h0 h1 hlen hnat hnok hs hT h hn hx0 hx1
      go_enter Try.func59, Try.ntmps59
      go_wp2_with (go_at_call 58; change Calls _ _ _ (bx w A n c at_) _; refine (refNumber_any A n c at_ top bs _ HS.out hbs HN.out.1 HN.out.2).mono ?_; rw [HT.out]; rintro e w2 ⟨rfl, k2⟩; have q0 := below_cellA k2 HQ.out.1; have q1 := below_cellA k2 HQ.out.2.1; have q2 := below_cellA k2 HQ.out.2.2.1; have q3 := below_cellA k2 HQ.out.2.2.2.1; have q4 := below_frozA k2 (by show w.heap.size + 1 < _; rw [HSZ.out]; omega) HQ.out.2.2.2.2.1; have q5 := below_frozA k2 (by show w.heap.size + 1 < _; rw [HSZ.out]; omega) HQ.out.2.2.2.2.2; have hz : w.heap.size + 1 < w2.heap.size := (by have := k2.size; rw [HSZ.out] at this; omega); have hz0 : w.heap.size < w2.heap.size := (by omega); have b2 := below_step HB2.out k2)
      clear d1 d2
      go_loop [12, 13] (fun lf i => ∃ (j : Nat) (lv : Int), i = .int .u64 (j : Int) ∧ j ≤ xn ∧ lf = .int .i64 lv ∧ Hid (lv = ((n : Int) - (at' : Int)) - (j : Int) * size) ∧ 0 ≤ lv ∧ lv ≤ 100000000) (fun _ i => xn - (intOf i).toNat)
      case atStart => exact ⟨0, _, rfl, Nat.zero_le _, rfl, Lib.hid (by simp), by omega, by omega⟩
      case round =>
        obtain ⟨j, lv, rfl, hj, rfl, HV, hv0, hv1⟩ := hrel
        by_cases hlt : j < xn
        · by_cases hls : lv < size
          · have hend := count_stop HV.out hv0 hls
            have HC : Hid (((n : Int) - (at' : Int)) / size < (j : Int) + ((xn : Int) - (j : Int))) := Lib.hid (by rw [hend]; omega)
            rw [show (j : Int) + ((xn : Int) - (j : Int)) = (xn : Int) by omega] at HC
            have d5 : decide (lv < size) = true := by simpa using hls
            have d6 : decide ((j : Int) < (xn : Int)) = true := by simp; omega
            clear hend hls
            go_wp2
            all_goals first
              | exact bodyPost_ret (v := .tuple #[rv A n c at_, .int .i64 0, .int .i64 20]) (by simp [results, Try.results59, go_sem, q2, q3, hz]) rfl ⟨rfl, ((b2.setCell (Nat.le_succ _) _).setCell (Nat.le_succ _) _).alloc (by rw [setCell_size, setCell_size]; exact b2.size) _⟩
              | (have hc := HC.out; exfalso; omega)
          · have d5 : decide (lv < size) = false := by simpa using hls
            have hls2 : size ≤ lv := by omega
            have HST := Lib.hid (count_step HV.out)
            clear hls
            go_wp2
            go_round
            case rel => exact ⟨j + 1, _, by go_num, by omega, rfl, HST, by omega, by omega⟩
            case measure => simp [intOf]; omega
        · obtain rfl : j = xn := by omega
          have hend := count_all HV.out hv0 hs0
          have HC : Hid (¬ ((n : Int) - (at' : Int)) / size < (j : Int)) := Lib.hid (by omega)
          clear hlt hend
          go_wp2
          all_goals first
            | exact bodyPost_ret (v := .tuple #[rv A n c at', .int .i64 (j : Int), .int .i64 0]) (by simp [results, Try.results59, go_sem, q2, q3, hz]) rfl ⟨rfl, ((b2.setCell (Nat.le_succ _) _).setCell (Nat.le_succ _) _).alloc (by rw [setCell_size, setCell_size]; exact b2.size) _⟩
            | (have hc := HC.out; exfalso; omega)
end Go.Proofs.Ytgngeachgkappaa
