/- Walks: the reference's Fixed, Number, Count; a reader's Count in one contract. -/
import Derived.Test.YtgngeachgkappaaProg
import Derived.Test.YtgngeachgkappaaWr
namespace Go.Proofs.Ytgngeachgkappaa
open Go.RowKit
set_option linter.unusedVariables false

theorem below_cellA {w w' : World} (h : Below w.heap.size w w') {a : Addr} {v : Value} (hc : w.cell? a = some v) : w'.cell? a = some v := (h.cell (World.block_lt_of_cell? _ _ hc)).trans hc
theorem below_frozA {w w' : World} (h : Below w.heap.size w w') {a : Addr} {b : Bool} (ha : a.block < w.heap.size) (hc : w.frozen? a = b) : w'.frozen? a = b := (h.frozen ha).trans hc
theorem takeF_bytes {bs : List Int} (h : Bytes bs) (n at_ : Nat) (k : Int) : Bytes (takeF bs n at_ k).2.1 := by
  unfold takeF
  split
  · intro x hx; cases hx
  · split
    · intro x hx; cases hx
    · exact fun x hx => h x (List.mem_of_mem_drop (List.mem_of_mem_take hx))
theorem takeF_len (bs : List Int) (n at_ : Nat) {k : Int} (hk : k ≤ 8) : (takeF bs n at_ k).2.1.length ≤ 8 := by
  unfold takeF
  split
  · simp
  · split
    · simp
    · simp only [List.length_take]; omega
theorem takeF_at {bs : List Int} {n at_ : Nat} (k : Int) (h : at_ ≤ n) : (takeF bs n at_ k).1 ≤ n := by
  unfold takeF
  split
  · exact h
  · split
    · exact h
    · show at_ + k.toNat ≤ n; omega
theorem fixedF_of {bs : List Int} {n at_ : Nat} {k : Int} (h1 : ¬ (k < 1 ∨ 8 < k)) : fixedF bs n at_ k = ((takeF bs n at_ k).1, le (takeF bs n at_ k).2.1, (takeF bs n at_ k).2.2) := by
  unfold fixedF takeF
  rw [if_neg h1, if_neg (show ¬ k < 0 by omega)]
  split <;> rfl
theorem drop_le {l : List Int} {j : Nat} (h : j < l.length) : le (l.drop j) = l.getD j 0 + 256 * le (l.drop (j + 1)) := by
  rw [drop_one h]; rfl
theorem le_bd7 {l : List Int} (h : Bytes l) (hl : l.length ≤ 7) : 0 ≤ le l ∧ le l ≤ 72057594037927935 := by
  have h1 := le_bd l h
  have h2 : (256 : Nat) ^ l.length ≤ 256 ^ 7 := Nat.pow_le_pow_right (by decide) hl
  have e7 : (256 : Nat) ^ 7 = 72057594037927936 := by decide
  rw [e7] at h2
  have e : ((256 ^ l.length : Nat) : Int) = (256 : Int) ^ l.length := by simp
  omega

set_option maxRecDepth 20000 in
set_option maxHeartbeats 1600000 in
theorem refFixed_any (A : Option Addr) (n c at_ : Nat) (k : Int) (bs : List Int) (w : World) (hs : Sees w 1 A n c (bs.map (Value.int .u8))) (hbs : Bytes bs) (h : at_ ≤ n) (hn : n ≤ 100000000) :
    Calls Try.prog 57 #[rv A n c at_, .int .i64 k] w fun e w' => e = .returned (.tuple #[rv A n c (fixedF bs n at_ k).1, .int .u64 (fixedF bs n at_ k).2.1, .int .i64 (fixedF bs n at_ k).2.2]) ∧ Below w.heap.size w w' := by
  by_cases h0 : k < 1 ∨ 8 < k
  · have e0 : fixedF bs n at_ k = (at_, 0, 2) := by unfold fixedF; rw [if_pos h0]
    rw [e0]
    by_cases h1 : k < 1
    · have d1 : decide (k < 1) = true := by simpa using h1
      clear h0 h1 e0
      go_enter Try.func57, Try.ntmps57
      go_wp2
      exact bodyPost_ret (v := .tuple #[rv A n c at_, .int .u64 0, .int .i64 2]) (by simp [results, Try.results57, go_sem]) rfl ⟨rfl, ((Below.refl _ _).alloc (Nat.le_refl _) _).alloc (by simp) _⟩
    · have d1 : decide (k < 1) = false := by simpa using h1
      have d2 : decide (8 < k) = true := by simp; omega
      clear h0 h1 e0
      go_enter Try.func57, Try.ntmps57
      go_wp2
      exact bodyPost_ret (v := .tuple #[rv A n c at_, .int .u64 0, .int .i64 2]) (by simp [results, Try.results57, go_sem]) rfl ⟨rfl, ((Below.refl _ _).alloc (Nat.le_refl _) _).alloc (by simp) _⟩
  · have d1 : decide (k < 1) = false := by simp; omega
    have d2 : decide (8 < k) = false := by simp; omega
    rw [fixedF_of h0]
    obtain ⟨at', ys, er, hT⟩ : ∃ at' ys er, takeF bs n at_ k = (at', ys, er) := ⟨_, _, _, rfl⟩
    have hyb : Bytes ys := by have := takeF_bytes hbs n at_ k; rwa [hT] at this
    have hyl : ys.length ≤ 8 := by have := takeF_len bs n at_ (k := k) (by omega); rwa [hT] at this
    rw [hT]
    have HT := Lib.hid hT
    have HY := Lib.hid hyb
    have HL := Lib.hid hyl
    have HS := Lib.hid (hs.below (bx_below w A n c at_) (Nat.le_refl _))
    have HN := Lib.hid (And.intro h hn)
    have HB2 := Lib.hid (bx_below w A n c at_)
    have HSZ := Lib.hid (bx_size w A n c at_)
    have HQ := Lib.hid (bx_at (Below.refl (w.heap.size + 2) (bx w A n c at_)))
    clear h0 hT hs hbs h hn hyb hyl
    go_enter Try.func57, Try.ntmps57
    go_wp2_with (go_at_call 56; change Calls _ _ _ (bx w A n c at_) _; refine (refTake_any A n c at_ k bs _ HS.out HN.out.1 HN.out.2).mono ?_; rw [HT.out]; rintro e w2 ⟨A2, m2, c2, rfl, o2, k2⟩; have q2 := below_cellA k2 HQ.out.2.2.1; have q3 := below_cellA k2 HQ.out.2.2.2.1; have q4 := below_frozA k2 (by show w.heap.size + 1 < _; rw [HSZ.out]; omega) HQ.out.2.2.2.2.1; have q5 := below_frozA k2 (by show w.heap.size + 1 < _; rw [HSZ.out]; omega) HQ.out.2.2.2.2.2; have hz : w.heap.size + 1 < w2.heap.size := (by have := k2.size; rw [HSZ.out] at this; omega); have b2 := below_step HB2.out k2; have s2 := Lib.hid ((sees_own o2).below ((Below.refl _ _).alloc (Nat.le_refl _) (.cells #[.slice A n c, .int .i64 (at' : Int)] 88)) (Nat.le_refl _)); have hm2 := Lib.hid s2.out.length; have hm8 : (m2 : Int) ≤ 8 := (by have := HL.out; rw [hm2.out] at this; omega))
    clear d1 d2
    have b3 := b2.alloc b2.size (.cells #[.slice A n c, .int .i64 (at' : Int)] 88)
    go_loop [10, 11] (fun x i => ∃ (j : Nat) (i0 acc : Int), i = .int .i64 i0 ∧ Hid (i0 = (j : Int) - 1) ∧ j ≤ m2 ∧ x = .int .u64 acc ∧ Hid (acc = le (ys.drop j))) (fun _ i => (intOf i + 1).toNat)
    case atStart => exact ⟨m2, _, 0, rfl, Lib.hid rfl, Nat.le_refl _, rfl, Lib.hid (by rw [List.drop_of_length_le (by rw [hm2.out]; exact Nat.le_refl _)]; rfl)⟩
    case round =>
      obtain ⟨j, i0, acc, rfl, HI, hj, rfl, HA⟩ := hrel
      cases j with
      | succ j =>
        obtain rfl : i0 = (j : Int) := by have := HI.out; omega
        obtain ⟨b1, o1, hA, g1⟩ := s2.out.int (k := j) (by omega)
        cases hA
        obtain ⟨y, hy⟩ : ∃ y, ys.getD j 0 = y := ⟨_, rfl⟩
        have hyb := HY.out.at_ (k := j) (by rw [hm2.out]; omega)
        rw [hy] at g1 hyb
        have hacc := le_bd7 (l := ys.drop (j + 1)) (HY.out.drop _) (by have := HL.out; rw [List.length_drop]; omega)
        rw [← HA.out] at hacc
        have HNEW : Hid (acc * 256 + y = le (ys.drop j)) := Lib.hid (by rw [drop_le (by rw [hm2.out]; omega), hy, ← HA.out]; omega)
        have hj2 : (j : Int) < (m2 : Int) := by omega
        obtain ⟨ha0, ha1⟩ := hacc
        obtain ⟨hy0, hy1⟩ := hyb
        clear hy HI HA
        go_wp2
        go_round
        case rel => exact ⟨j, _, _, rfl, Lib.hid rfl, by omega, rfl, HNEW⟩
        case measure => simp [intOf] <;> omega
      | zero =>
        obtain rfl : i0 = -1 := by have := HI.out; omega
        rw [List.drop_zero] at HA
        clear HI
        go_wp2
        exact bodyPost_ret (v := .tuple #[rv A n c at', .int .u64 acc, .int .i64 er]) (by simp [results, Try.results57, go_sem, q2, q3, hz]) rfl ⟨by rw [HA.out], ((b2.setCell (Nat.le_succ _) _).setCell (Nat.le_succ _) _).alloc (by rw [setCell_size, setCell_size]; exact b2.size) _⟩

theorem numberF_at {bs : List Int} {n at_ : Nat} (top : Int) (hb : Bytes bs) (hl : bs.length = n) (h : at_ ≤ n) : (numberF bs at_ top).1 ≤ n := by
  unfold numberF
  split
  · exact h
  · split
    · exact h
    · rename_i h1 h2
      obtain ⟨m, e1, e2, e3, _⟩ := rd_ok (hb.drop at_) (Classical.not_not.1 h1)
      rw [e1]
      rw [List.length_drop] at e3
      show at_ + (m : Int).toNat ≤ n
      omega

set_option maxRecDepth 20000 in
set_option maxHeartbeats 1600000 in
theorem refNumber_any (A : Option Addr) (n c at_ : Nat) (top : Int) (bs : List Int) (w : World) (hs : Sees w 1 A n c (bs.map (Value.int .u8))) (hbs : Bytes bs) (h : at_ ≤ n) (hn : n ≤ 100000000) :
    Calls Try.prog 58 #[rv A n c at_, .int .u64 top] w fun e w' => e = .returned (.tuple #[rv A n c (numberF bs at_ top).1, .int .u64 (numberF bs at_ top).2.1, .int .i64 (numberF bs at_ top).2.2]) ∧ Below w.heap.size w w' := by
  have hcut := fun w => run_cutl E_u8 A n c at_ h w
  have HSL : Hid (Sees (bx w A n c at_) 1 (cutA A c at_ 1) (n - at_) (c - at_) ((bs.drop at_).map (Value.int .u8))) := Lib.hid (by have := ((hs.below (bx_below w A n c at_) (Nat.le_refl _)).cut h); rwa [Nat.mul_one, ← List.map_drop] at this)
  have HBD := Lib.hid (hbs.drop at_)
  have hn2 : (n : Int) ≤ 100000000 := by omega
  have hat : (at_ : Int) ≤ (n : Int) := by omega
  have hlen : (bs.drop at_).length ≤ n - at_ := by rw [List.length_drop, hs.length]; exact Nat.le_refl _
  unfold numberF
  obtain ⟨x, m, er, hx⟩ : ∃ x m er, rd (bs.drop at_) = (x, m, er) := ⟨_, _, _, rfl⟩
  rw [hx]
  have HX := Lib.hid hx
  clear h hn hs hbs
  by_cases h0 : er ≠ 0
  · simp only [if_pos h0]
    have d1 : (er != 0) = true := by simpa using h0
    clear h0 hx hlen
    go_enter Try.func58, Try.ntmps58
    go_wp2_with (go_at_call 62; change Calls _ _ _ (bx w A n c at_) _; refine (refRead_any _ _ _ (bs.drop at_) _ HSL.out HBD.out).mono ?_; rw [HX.out]; rintro e w2 ⟨rfl, rfl⟩; unfold bx)
    exact bodyPost_ret (v := .tuple #[rv A n c at_, .int .u64 0, .int .i64 er]) (by simp [results, Try.results58, go_sem]) rfl ⟨rfl, ((Below.refl _ _).alloc (Nat.le_refl _) _).alloc (by simp) _⟩
  · simp only [if_neg h0]
    obtain rfl : er = 0 := Classical.not_not.1 h0
    by_cases h1 : top < x
    · simp only [if_pos h1]
      have d1 : decide (top < x) = true := by simpa using h1
      clear h0 h1 hx hlen
      go_enter Try.func58, Try.ntmps58
      go_wp2_with (go_at_call 62; change Calls _ _ _ (bx w A n c at_) _; refine (refRead_any _ _ _ (bs.drop at_) _ HSL.out HBD.out).mono ?_; rw [HX.out]; rintro e w2 ⟨rfl, rfl⟩; unfold bx)
      exact bodyPost_ret (v := .tuple #[rv A n c at_, .int .u64 0, .int .i64 21]) (by simp [results, Try.results58, go_sem]) rfl ⟨rfl, ((Below.refl _ _).alloc (Nat.le_refl _) _).alloc (by simp) _⟩
    · simp only [if_neg h1]
      have d1 : decide (top < x) = false := by simpa using h1
      obtain ⟨q, e1, e2, e3, e4, _⟩ := rd_ok HBD.out (by rw [hx])
      rw [hx] at e1
      obtain rfl : m = (q : Int) := e1
      have hq : (q : Int) ≤ (n : Int) - (at_ : Int) := by omega
      rw [Int.toNat_natCast]
      clear h0 h1 hx hlen e2 e3 e4
      go_enter Try.func58, Try.ntmps58
      go_wp2_with (go_at_call 62; change Calls _ _ _ (bx w A n c at_) _; refine (refRead_any _ _ _ (bs.drop at_) _ HSL.out HBD.out).mono ?_; rw [HX.out]; rintro e w2 ⟨rfl, rfl⟩; unfold bx)
      exact bodyPost_ret (v := .tuple #[rv A n c (at_ + q), .int .u64 x, .int .i64 0]) (by simp [results, Try.results58, go_sem]) rfl ⟨rfl, ((Below.refl _ _).alloc (Nat.le_refl _) _).alloc (by simp) _⟩
end Go.Proofs.Ytgngeachgkappaa
