/- Walks: reading many forms: the reference's ReadAll, varint.ReadAll. -/
import Derived.Test.YtckklmepncibkaaProg
import Derived.Test.YtckklmepncibkaaVg
namespace Go.Proofs.Ytckklmepncibkaa
open Go.RowKit
set_option linter.unusedVariables false

theorem rdGo_ok (l : List Int) (hl : Bytes l) : ∀ (i : Nat) (acc : Int), i ≤ 9 → 0 ≤ acc → acc < 128 ^ i → (rdGo l i acc).2.2 = 0 →
    ∃ m : Nat, (rdGo l i acc).2.1 = ((i + m : Nat) : Int) ∧ 1 ≤ m ∧ m ≤ l.length ∧ i + m ≤ 10 ∧ 0 ≤ (rdGo l i acc).1 ∧ (rdGo l i acc).1 ≤ 18446744073709551615 := by
  induction l with
  | nil => intro i acc _ _ _ h; simp [rdGo] at h
  | cons b r ih =>
    intro i acc hi h0 h1 h
    have hb := hl b (by simp)
    have hr : Bytes r := fun x hx => hl x (by simp [hx])
    rw [rdGo] at h ⊢
    split at h
    · simp at h
    · rename_i h9
      rw [if_neg h9]
      have h9' : i = 9 → b ≤ 1 := fun e => by
        rcases Int.lt_or_le 1 b with h' | h'
        · exact (h9 ⟨e, h'⟩).elim
        · exact h'
      split at h
      · rename_i h128
        rw [if_pos h128]
        split at h
        · simp at h
        · rename_i hz
          rw [if_neg hz]
          have := mul_bd acc b (128 ^ i) i rfl h0 h1 hb.1 (by omega) hi h9'
          exact ⟨1, by simp, by omega, by simp, by omega, by omega, this.2⟩
      · rename_i h128
        rw [if_neg h128]
        have hi8 : i ≤ 8 := by
          rcases Nat.lt_or_ge i 9 with h' | h'
          · omega
          · have := h9' (by omega); omega
        obtain ⟨m, e1, e2, e3, e4, e5⟩ := ih hr (i + 1) (acc + (b - 128) * 128 ^ i) (by omega) (acc_pos acc (b - 128) i h0 (by omega)) (acc_lt acc (b - 128) i h1 (by omega)) h
        exact ⟨m + 1, by rw [e1]; simp; omega, by omega, by simp; omega, by omega, e5⟩

theorem rd_ok {l : List Int} (hl : Bytes l) (h : (rd l).2.2 = 0) : ∃ m : Nat, (rd l).2.1 = (m : Int) ∧ 1 ≤ m ∧ m ≤ l.length ∧ m ≤ 10 ∧ 0 ≤ (rd l).1 ∧ (rd l).1 ≤ 18446744073709551615 := by
  obtain ⟨m, h1, h2, h3, h4, h5⟩ := rdGo_ok l hl 0 0 (by omega) (by omega) (by decide) h
  exact ⟨m, by rw [rd, h1]; simp, h2, h3, by omega, h5⟩

theorem rdGo_err (l : List Int) : ∀ (i : Nat) (acc : Int), ((rdGo l i acc).2.2 = 0) ∨ ((rdGo l i acc).1 = 0 ∧ (rdGo l i acc).2.1 = 0 ∧ 10 ≤ (rdGo l i acc).2.2 ∧ (rdGo l i acc).2.2 ≤ 12) := by
  induction l with
  | nil => intro i acc; right; simp [rdGo]
  | cons b r ih =>
    intro i acc
    rw [rdGo]
    split
    · right; simp
    · split
      · split
        · right; simp
        · left; rfl
      · exact ih _ _
theorem rd_err (l : List Int) (h : (rd l).2.2 ≠ 0) : (rd l).1 = 0 ∧ (rd l).2.1 = 0 ∧ 10 ≤ (rd l).2.2 ∧ (rd l).2.2 ≤ 12 := (rdGo_err l 0 0).resolve_left h

/-- Reading forms, one after the other, at most f of them: the numbers, the error. -/
def rdAllF : Nat → List Int → List Int × Int
  | 0, _ => ([], 0)
  | f + 1, l => if l.length = 0 then ([], 0) else if (rd l).2.2 ≠ 0 then ([], (rd l).2.2) else
      (if (rdAllF f (l.drop (rd l).2.1.toNat)).2 ≠ 0 then ([], (rdAllF f (l.drop (rd l).2.1.toNat)).2) else ((rd l).1 :: (rdAllF f (l.drop (rd l).2.1.toNat)).1, 0))
def rdAll (l : List Int) : List Int × Int := rdAllF l.length l
/-- What is read, ahead of it numbers that have been read already. -/
def ahead (ys : List Int) (q : List Int × Int) : List Int × Int := if q.2 ≠ 0 then ([], q.2) else (ys ++ q.1, 0)
theorem ahead_nil (q : List Int × Int) (h : q.2 ≠ 0 → q.1 = []) : ahead [] q = q := by
  unfold ahead
  split
  · rename_i h'; exact Prod.ext (h h').symm rfl
  · rename_i h'; simp at h'; exact Prod.ext rfl h'.symm
theorem rdAllF_bad (f : Nat) (l : List Int) : (rdAllF f l).2 ≠ 0 → (rdAllF f l).1 = [] := by
  cases f with
  | zero => simp [rdAllF]
  | succ f =>
    rw [rdAllF]
    split
    · simp
    · split
      · simp
      · split <;> simp
theorem ahead_stop {ys l : List Int} {f : Nat} (h : l.length = 0) : ahead ys (rdAllF f l) = (ys, 0) := by
  cases f with
  | zero => simp [rdAllF, ahead]
  | succ f => rw [rdAllF, if_pos h]; simp [ahead]
theorem ahead_bad {ys l : List Int} {f : Nat} (h : ¬ l.length = 0) (hb : (rd l).2.2 ≠ 0) : ahead ys (rdAllF (f + 1) l) = ([], (rd l).2.2) := by
  rw [rdAllF, if_neg h, if_pos hb, ahead, if_pos hb]
theorem ahead_step {ys l : List Int} {f : Nat} (h : ¬ l.length = 0) (hb : (rd l).2.2 = 0) : ahead ys (rdAllF (f + 1) l) = ahead (ys ++ [(rd l).1]) (rdAllF f (l.drop (rd l).2.1.toNat)) := by
  rw [rdAllF, if_neg h, if_neg (by simpa using hb)]
  unfold ahead
  by_cases h2 : (rdAllF f (l.drop (rd l).2.1.toNat)).2 ≠ 0
  · simp [h2]
  · simp at h2; simp [h2]

theorem Bytes.drop {l : List Int} (h : Bytes l) (k : Nat) : Bytes (l.drop k) := fun x hx => h x (List.mem_of_mem_drop hx)

set_option maxRecDepth 20000 in
set_option maxHeartbeats 800000 in
theorem refReadAll_any (A : Option Addr) (n c : Nat) (l : List Int) (w : World) (h : Sees w 1 A n c (l.map (Value.int .u8))) (hl : Bytes l) (hn : n ≤ 1000000) :
    Calls Try.prog 37 #[.slice A n c] w fun e w' => ∃ v', e = .returned (.tuple #[v', .int .i64 (rdAll l).2]) ∧ w'.ownsRow w.heap.size 22 1 v' (rdAll l).1.length ((rdAll l).1.map (Value.int .u64)) ∧ Below w.heap.size w w' := by
  have hlen := h.length
  have HLEN := Lib.hid hlen
  clear hlen
  go_enter Try.func37, Try.ntmps37
  go_wp2
  go_loopw [4, 5] (fun v i wr => ∃ (k f m c' : Nat) (A' : Option Addr) (ys : List Int), i = .int .i64 k ∧ k ≤ n ∧ v = .slice A' m c' ∧ m ≤ k ∧ n - k ≤ f ∧ Hid (m = ys.length) ∧
      Hid (ahead ys (rdAllF f (l.drop k)) = rdAll l) ∧ wr.ownsRow w.heap.size 22 1 (.slice A' m c') m (ys.map (Value.int .u64)) ∧ Below w.heap.size w wr) (fun _ i _ => n - (intOf i).toNat)
  case atStart => exact ⟨0, n, 0, 0, none, [], rfl, by omega, rfl, by omega, by omega, rfl, by rw [← HLEN.out]; exact ahead_nil _ (rdAllF_bad _ _), World.ownsRow_nil _ _ _ _, Below.refl _ _⟩
  case round =>
    obtain ⟨k, f, m, c', A', ys, rfl, hk, rfl, hm, hf, HM, HR, ho, hb⟩ := hrel
    by_cases hlt : k < n
    · have hcut := (h.below hb (Nat.le_refl _)).cut (k := k) (by omega)
      have hsl := run_cutl E_u8 A n c k (by omega)
      rw [Nat.mul_one, ← List.map_drop] at hcut
      have hbl := hl.drop k
      have hne : ¬ (l.drop k).length = 0 := by rw [List.length_drop, HLEN.out]; omega
      obtain ⟨f', rfl⟩ : ∃ f', f = f' + 1 := ⟨f - 1, by omega⟩
      by_cases hbad : (rd (l.drop k)).2.2 ≠ 0
      · have hfin := (ahead_bad (ys := ys) (f := f') hne hbad).symm.trans HR.out
        have hbt : ((rd (l.drop k)).2.2 != 0) = true := by simpa using hbad
        go_wp2_with (go_at_call 36; refine (refRead_any _ _ _ _ _ hcut hbl).mono ?_; rintro e w' ⟨rfl, rfl⟩)
        go_ret2
        refine ⟨.slice none 0 0, ?_, ?_, hb⟩
        · rw [← hfin]; rfl
        · rw [← hfin]; exact World.ownsRow_nil _ _ _ _
      · have hz : (rd (l.drop k)).2.2 = 0 := by simpa using hbad
        have hfin := (ahead_step (ys := ys) (f := f') hne hz).symm.trans HR.out
        obtain ⟨j, e1, e2, e3, e4, e5, e6⟩ := rd_ok hbl hz
        rw [e1] at hfin
        rw [Int.toNat_natCast, List.drop_drop] at hfin
        have hbt : ((rd (l.drop k)).2.2 != 0) = false := by simpa using hz
        have hj : k + j ≤ n := by rw [List.length_drop, HLEN.out] at e3; omega
        generalize hq : rd (l.drop k) = q at *
        obtain ⟨q1, q2, q3⟩ := q
        simp only at e1 hz hbt e5 e6 hfin
        subst hz e1
        have HF := Lib.hid hfin
        have HQ := Lib.hid hq
        clear hfin hbad HR hq hne
        go_wp2_with (first
          | (go_at_call 36; refine (refRead_any _ _ _ _ _ hcut hbl).mono ?_; rw [HQ.out]; rintro e w' ⟨rfl, rfl⟩)
          | (at_builtin; refine wpList_app E_u64 rfl _ _ rfl rfl (ho.alloc _) rfl (Sees.one _ _ _) (one1 rfl) (by simp [maxLen]; omega) (by omega) (by have := hb.size; simp; omega) ?_; intro A4 c4 w4 hown4 hg4 hb4))
        go_roundw
        case rel =>
          have hM := HM.out
          exact ⟨k + j, f', m + 1, c4, A4, ys ++ [q1], by go_num, by omega, rfl, by omega, by omega, by simp [Hid, hM], HF.out, by simpa using hown4, (hb.alloc hb.size _).trans hb4⟩
        case measure => simp [intOf]; omega
    · obtain rfl : k = n := by omega
      have hfin := (ahead_stop (ys := ys) (f := f) (l := l.drop k) (by rw [List.length_drop, HLEN.out]; omega)).symm.trans HR.out
      have HF := Lib.hid hfin
      clear hfin HR
      go_wp2
      go_ret2
      have hM := HM.out
      subst hM
      refine ⟨.slice A' ys.length c', ?_, ?_, hb⟩
      · rw [← HF.out]; rfl
      · rw [← HF.out]; exact ho
end Go.Proofs.Ytckklmepncibkaa
