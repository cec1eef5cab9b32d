/- Walks: varint.ReadAll, varint.WriteAll. -/
import Derived.Test.YtckklmepncibkaaProg
import Derived.Test.YtckklmepncibkaaVh
namespace Go.Proofs.Ytckklmepncibkaa
open Go.RowKit
set_option linter.unusedVariables false

def lenV : Value → Nat | .slice _ n _ => n | _ => 0

set_option maxRecDepth 20000 in
set_option maxHeartbeats 1600000 in
theorem ReadAll_any (A : Option Addr) (n c : Nat) (l : List Int) (w : World) (h : Sees w 1 A n c (l.map (Value.int .u8))) (hl : Bytes l) (hn : n ≤ 1000000) :
    Calls Try.prog 22 #[.slice A n c] w fun e w' => ∃ v', e = .returned (.tuple #[v', .int .i64 (rdAll l).2]) ∧ w'.ownsRow w.heap.size 22 1 v' (rdAll l).1.length ((rdAll l).1.map (Value.int .u64)) ∧ Below w.heap.size w w' := by
  have hlen := h.length
  have HLEN := Lib.hid hlen
  clear hlen
  go_enter Try.func22, Try.ntmps22
  go_wp2
  go_step3
  go_wp2
  go_step3
  go_wp2
  go_loopw [0, 4, 5] (fun bv v ev wr => ∃ (k f m c' nb cb : Nat) (A' Ab : Option Addr) (ys : List Int), bv = .slice Ab nb cb ∧ ev = .int .i64 0 ∧ k + nb = n ∧ v = .slice A' m c' ∧ m ≤ k ∧ nb ≤ f ∧ Hid (m = ys.length) ∧
      Sees w 1 Ab nb cb ((l.drop k).map (Value.int .u8)) ∧ Hid (ahead ys (rdAllF f (l.drop k)) = rdAll l) ∧ wr.ownsRow w.heap.size 22 1 (.slice A' m c') m (ys.map (Value.int .u64)) ∧ Below w.heap.size w wr) (fun bv _ _ _ => lenV bv)
  case atStart => exact ⟨0, n, 0, 0, n, c, none, A, [], rfl, rfl, by omega, rfl, by omega, by omega, rfl, by simpa using h, by rw [← HLEN.out]; exact ahead_nil _ (rdAllF_bad _ _), World.ownsRow_nil _ _ _ _, Below.refl _ _⟩
  case round =>
    obtain ⟨k, f, m, c', nb, cb, A', Ab, ys, rfl, rfl, hk, rfl, hm, hf, HM, hs, HR, ho, hb⟩ := hrel
    have hnb : nb ≤ 1000000 := by omega
    by_cases hlt : 0 < nb
    · have hs2 := hs.below hb (Nat.le_refl _)
      have hbl := hl.drop k
      have hne : ¬ (l.drop k).length = 0 := by rw [List.length_drop, HLEN.out]; omega
      obtain ⟨f', rfl⟩ : ∃ f', f = f' + 1 := ⟨f - 1, by omega⟩
      by_cases hbad : (rd (l.drop k)).2.2 ≠ 0
      · have hfin := (ahead_bad (ys := ys) (f := f') hne hbad).symm.trans HR.out
        have hbt : ((rd (l.drop k)).2.2 == 0) = false := by simpa using hbad
        go_wp2_with (go_at_call 14; refine (Read_any _ _ _ _ _ hs2 hbl).mono ?_; rintro e w' ⟨rfl, hb2⟩)
        rw [Exit.noGoto_ret]
        go_ret2
        refine ⟨.slice none 0 0, ?_, ?_, below_step hb hb2⟩
        · rw [← hfin]; rfl
        · rw [← hfin]; exact World.ownsRow_nil _ _ _ _
      · have hz : (rd (l.drop k)).2.2 = 0 := by simpa using hbad
        have hfin := (ahead_step (ys := ys) (f := f') hne hz).symm.trans HR.out
        obtain ⟨j, e1, e2, e3, e4, e5, e6⟩ := rd_ok hbl hz
        rw [e1] at hfin
        rw [Int.toNat_natCast, List.drop_drop] at hfin
        have hj : j ≤ nb := by rw [List.length_drop, HLEN.out] at e3; omega
        have hcut := hs.cut (k := j) hj
        have hsl := run_cutl E_u8 Ab nb cb j hj
        rw [Nat.mul_one, ← List.map_drop, List.drop_drop] at hcut
        generalize hq : rd (l.drop k) = q at *
        obtain ⟨q1, q2, q3⟩ := q
        simp only at e1 hz e5 e6 hfin
        subst hz e1
        have HF := Lib.hid hfin
        have HQ := Lib.hid hq
        have HC := Lib.hid hcut
        clear hfin hbad HR hq hne hcut
        go_wp2_with (go_at_call 14; refine (Read_any _ _ _ _ _ hs2 hbl).mono ?_; rw [HQ.out]; rintro e w' ⟨rfl, hb2⟩)
        have ho2 := own_below ho hb2 (Nat.le_refl _)
        have hsz := Nat.le_trans hb.size hb2.size
        go_region_law (refine step_app E_u64 rfl (.tmp 22) (.tmp 24) rfl rfl (base := w.heap.size) (ho2.alloc (.cells #[.int .u64 q1] 22)) rfl (Sees.one w' (.int .u64 q1) 22).drew (one1 rfl) (by simp [maxLen]; omega) (by omega) (by simp; omega) ?_; intro A4 c4 w4 hown4 hg4 hb4)
        simp only [Act.put, List.getElem_toArray, List.getElem_cons_succ, List.getElem_cons_zero, List.setIfInBounds_toArray, List.set_cons_succ, List.set_cons_zero]
        go_wp2
        go_roundw
        case rel =>
          have hM := HM.out
          exact ⟨k + j, f', m + 1, c4, nb - j, cb - j, A4, _, ys ++ [q1], rfl, rfl, by omega, rfl, by omega, by omega, by simp [Hid, hM], HC.out, HF.out, by simpa using hown4, (((below_step hb hb2).alloc hsz _).drew).trans hb4⟩
        case measure => simp [lenV]; omega
    · obtain rfl : nb = 0 := by omega
      have hfin := (ahead_stop (ys := ys) (f := f) (l := l.drop k) (by rw [List.length_drop, HLEN.out]; omega)).symm.trans HR.out
      have HF := Lib.hid hfin
      clear hfin HR
      go_wp2
      rw [Exit.noGoto_ret]
      go_ret2
      have hM := HM.out
      subst hM
      refine ⟨.slice A' ys.length c', ?_, ?_, hb⟩
      · rw [← HF.out]; rfl
      · rw [← HF.out]; exact ho

set_option maxRecDepth 20000 in
set_option maxHeartbeats 400000 in
theorem WriteAll_any (A : Option Addr) (n c : Nat) (l : List Nat) (w : World) (h : Sees w 1 A n c ((l.map Int.ofNat).map (Value.int .u64))) (hl : ∀ x ∈ l, x < 18446744073709551616) (hn : n ≤ 1000) :
    Calls Try.prog 23 #[.slice A n c] w fun e w' => ∃ v', e = .returned v' ∧ w'.ownsRow w.heap.size 5 1 v' (encAll l).length ((encAll l).map (Value.int .u8)) ∧ Below w.heap.size w w' := by
  have hlen := h.length
  have HLEN := Lib.hid hlen
  clear hlen
  go_enter Try.func23, Try.ntmps23
  go_wp2
  go_loopw [3, 8] (fun v i wr => ∃ (k m c' : Nat) (A' : Option Addr) (ys : List Int), i = .int .i64 k ∧ k ≤ n ∧ v = .slice A' m c' ∧ m ≤ 10 * k ∧ Hid (m = ys.length) ∧
      Hid (ys = encAll (l.take k)) ∧ wr.ownsRow w.heap.size 5 1 (.slice A' m c') m (ys.map (Value.int .u8)) ∧ Below w.heap.size w wr) (fun _ i _ => n - (intOf i).toNat)
  case atStart => exact ⟨0, 0, 0, none, [], rfl, by omega, rfl, by omega, rfl, rfl, World.ownsRow_nil _ _ _ _, Below.refl _ _⟩
  case round =>
    obtain ⟨k, m, c', A', ys, rfl, hk, rfl, hm, HM, HY, ho, hb⟩ := hrel
    by_cases hlt : k < n
    · obtain ⟨b1, o1, rfl, g1⟩ := (h.below hb (Nat.le_refl _)).int hlt
      rw [cast_getD] at g1
      have hkl : k < l.length := by have := HLEN.out; simp at this; omega
      have hx64 : l.getD k 0 < 18446744073709551616 := hl _ (by rw [List.getD, List.getElem?_eq_getElem hkl]; exact List.getElem_mem _)
      have hnew : ys ++ enc (l.getD k 0) = encAll (l.take (k + 1)) := by rw [take_one_nat hkl, encAll_snoc, HY.out]
      generalize l.getD k 0 = x at g1 hx64 hnew
      have HN := Lib.hid hnew
      have hex := enc_len x
      have hM := HM.out
      subst hM
      clear hnew hkl HM
      go_wp2_with (go_at_call 25; refine (put_any x hx64 _ ys w.heap.size _ hb.size ho (by omega)).mono ?_; rintro e w1 ⟨v1, rfl, hown1, hb1⟩; obtain ⟨A1, c1, rfl⟩ := own_form hown1)
      go_roundw
      case rel =>
        exact ⟨k + 1, (ys ++ enc x).length, c1, A1, ys ++ enc x, by go_num, by omega, by simp, by simp; omega, rfl, HN.out, hown1, hb.trans hb1⟩
      case measure => simp [intOf]; omega
    · obtain rfl : k = n := by omega
      go_wp2
      go_ret
      refine ⟨_, rfl, ?_, hb⟩
      have h1 := HY.out
      rw [List.take_of_length_le (by have := HLEN.out; simp at this; omega)] at h1
      have h2 := HM.out
      subst h1 h2
      exact ho
end Go.Proofs.Ytckklmepncibkaa
