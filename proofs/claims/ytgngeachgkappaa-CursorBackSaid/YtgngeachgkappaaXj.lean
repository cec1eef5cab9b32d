/- Walks: pieces: back. -/
import Derived.Test.YtgngeachgkappaaProg
import Derived.Test.YtgngeachgkappaaXi
import Derived.Test.YtgngeachgkappaaXc
import Derived.Test.YtgngeachgkappaaWo
namespace Go.Proofs.Ytgngeachgkappaa
open Go.RowKit
set_option linter.unusedVariables false

theorem row_one {bs : List Int} {at_ n : Nat} {m : Int} (hl : bs.length = n) (h : at_ < n) (e : (bs.drop at_).take 1 = [m]) : bs.getD at_ 0 = m := by
  rw [one_row bs at_ (by omega)] at e
  simpa using e
theorem rd_take {bs : List Int} {at_ x : Nat} (hx : x < 18446744073709551616) (e : (bs.drop at_).take (enc x).length = enc x) : rd (bs.drop at_) = ((x : Int), ((enc x).length : Int), 0) := by
  have h := List.take_append_drop (enc x).length (bs.drop at_)
  rw [e] at h
  rw [← h]
  exact rd_enc hx _

set_option maxRecDepth 20000 in
set_option maxHeartbeats 3200000 in
theorem back_ok (kd m x ny cy p n c at_ : Nat) (Y A : Option Addr) (l bs : List Int) (w : World) (hm : m < 256) (hx : x < 18446744073709551616) (hy : Sees w 1 Y ny cy (l.map (Value.int .u8))) (h : Rdr w p A n c bs at_) (hb : Bytes bs) (hn : n ≤ 100000000)
    (hY : 0 < ny → ∀ b, Y = some b → b.block ≠ p) (hf : at_ + (pcBytes kd m x l).length ≤ n) (he : (bs.drop at_).take (pcBytes kd m x l).length = pcBytes kd m x l) :
    Calls Try.prog 17 #[.agg #[.int .u8 (kd : Int), .int .u8 (m : Int), .int .u64 (x : Int), .slice Y ny cy], .pointer (some ⟨p, 0, none⟩)] w fun e w' =>
      e = .returned (.bool true) ∧ Did p n c (at_ + (pcBytes kd m x l).length) A bs w w' := by
  have BL := Lib.hid ((Below.refl w.heap.size w).alloc (Nat.le_refl _) (.cells #[.int .u8 (kd : Int), .int .u8 (m : Int), .int .u64 (x : Int), .slice Y ny cy] 33))
  have HR := Lib.hid (h.below BL.out)
  have HY := Lib.hid (hy.below BL.out (Nat.le_refl _))
  have HX := Lib.hid hx
  have HM := Lib.hid hm
  have HN := Lib.hid hn
  have HB := Lib.hid hb
  have HP := Lib.hid h.plt
  have HL := Lib.hid h.len
  have HYF := Lib.hid hY
  have r4 : kd % 4 = 0 ∨ kd % 4 = 1 ∨ kd % 4 = 2 ∨ kd % 4 = 3 := by omega
  unfold pcBytes at he hf ⊢
  clear hx hm hy h hn hb hY
  rcases r4 with r | r | r | r
  · rw [if_pos r] at he hf ⊢
    have HF : Hid (at_ < n) := Lib.hid hf
    have HE := Lib.hid (row_one HL.out HF.out he)
    have ri : (kd : Int) % 4 = 0 := by omega
    clear r hf he
    go_enter Try.func17, Try.ntmps17
    go_wp2_with (first
      | (go_at_call 24; refine (Byte_ok _ _ _ _ _ _ _ HR.out HN.out HF.out).mono ?_; rw [HE.out]; rintro e w1 ⟨rfl, h1, k1⟩; have c1 := (k1.cell (a := ⟨w.heap.size, 1, none⟩) (by simp) (by have := HP.out; simp; omega)).trans (show _ = some (Value.int .u8 (m : Int)) by simp); have H1 := Lib.hid (And.intro h1 k1); clear h1 k1))
    go_ret
    exact ⟨rfl, H1.out.1, (Keeps.of_below BL.out).trans H1.out.2⟩
  · rw [if_neg (by omega), if_pos r] at he hf ⊢
    have ri : (kd : Int) % 4 = 1 := by omega
    have hlen := HY.out.length
    obtain ⟨q, hq0, hq20, hqmin, hqc⟩ := min_is ny 30
    have hmi : (if (30 : Int) < (ny : Int) then (30 : Int) else (ny : Int)) = (q : Int) := by split <;> omega
    have hmi' : (if 30 < ny then (30 : Int) else (ny : Int)) = (q : Int) := by split <;> omega
    have hcut := fun w => run_cutr E_u8 Y ny cy q (Nat.le_trans hq0 HY.out.cap) w
    have HS : Hid (Sees (w.alloc (.cells #[.int .u8 (kd : Int), .int .u8 (m : Int), .int .u64 (x : Int), .slice Y ny cy] 33)) 1 Y q cy ((l.take 30).map (Value.int .u8))) := Lib.hid (by
      have hs := HY.out.pre hq0
      rw [Nat.mul_one, ← List.map_take] at hs
      have e : l.take 30 = l.take q := by
        rw [List.take_eq_take_iff, hlen]
        omega
      rw [e]
      exact hs)
    have hql : (l.take 30).length = q := by rw [List.length_take, hlen]; omega
    rw [hql] at he hf ⊢
    have HF := Lib.hid hf
    have HE := Lib.hid he
    have HQ := Lib.hid hq0
    clear r hlen hq0 hq20 hqmin hqc hql hf he
    go_enter Try.func17, Try.ntmps17
    go_wp2_with (first
      | (go_at_call 30; refine (SameBytes_any _ _ _ _ _ _ (l.take 30) (l.take 30) _ O1.out S1.out).mono ?_; rw [eqL_self]; rintro e w2 ⟨rfl, k2⟩)
      | (go_at_call 29; refine (Bytes_ok _ _ _ _ _ _ _ _ HR.out HN.out HF.out).mono ?_; rw [HE.out]; rintro e w1 ⟨A1, c1, rfl, o1, h1, k1⟩; have c3 := (k1.cell (a := ⟨w.heap.size, 3, none⟩) (by simp) (by have := HP.out; simp; omega)).trans (show _ = some (Value.slice Y ny cy) by simp); have H1 := Lib.hid (And.intro h1 k1); have O1 := Lib.hid (sees_own o1); have S1 : Hid (Sees w1 1 Y q cy ((l.take 30).map (Value.int .u8))) := Lib.hid (HS.out.both (.of_keeps k1) (r := none) (fun hl b hbY => ⟨HYF.out (by rw [List.length_map, HS.out.length] at hl; have := HQ.out; omega) b hbY, fun e => by cases e⟩)); clear h1 k1 o1))
    go_ret
    exact ⟨rfl, H1.out.1.below k2, ((Keeps.of_below BL.out).trans H1.out.2).trans (Keeps.of_below k2)⟩
  · rw [if_neg (by omega), if_neg (by omega), if_pos r] at he hf ⊢
    have ri : (kd : Int) % 4 = 2 := by omega
    rw [leB_len] at he hf ⊢
    have hz : x % 256 ^ (1 + m % 8) < 256 ^ (1 + m % 8) := Nat.mod_lt _ (Nat.pow_pos (by decide))
    have HZ := Lib.hid (le_leB _ _ hz)
    have HF := Lib.hid hf
    have HE := Lib.hid he
    have HK : Hid (1 ≤ 1 + m % 8 ∧ 1 + m % 8 ≤ 8) := Lib.hid ⟨by omega, by omega⟩
    have HFX := Lib.hid (fun w' => fixed_any kd m x ny cy Y w' HM.out HX.out)
    clear r hf he hz
    generalize x % 256 ^ (1 + m % 8) = z at HZ HE HFX
    generalize 1 + m % 8 = k at HZ HE HFX HF HK
    go_enter Try.func17, Try.ntmps17
    go_wp2_with (first
      | (go_at_call 28; refine (Fixed_ok _ _ _ _ _ _ _ _ R1.out HB.out HN.out HK.out.1 HK.out.2 HF.out).mono ?_; rw [HE.out, HZ.out]; rintro e w2 ⟨rfl, h2, k2⟩; have H2 := Lib.hid (And.intro h2 k2); clear h2 k2)
      | (go_at_call 35; refine (HFX.out _).mono ?_; rintro e w1 ⟨rfl, k1⟩; have R1 := Lib.hid (HR.out.below k1); have B1 := Lib.hid (below_step BL.out k1)))
    go_ret
    exact ⟨rfl, H2.out.1, (Keeps.of_below B1.out).trans H2.out.2⟩
  · rw [if_neg (by omega), if_neg (by omega), if_neg (by omega)] at he hf ⊢
    have ri : (kd : Int) % 4 = 3 := by omega
    have HE := Lib.hid (rd_take HX.out he)
    clear r hf he
    go_enter Try.func17, Try.ntmps17
    go_wp2_with (first
      | (go_at_call 23; refine (Number_to _ _ _ _ _ _ _ _ _ _ _ HR.out HB.out HN.out HE.out rfl (Int.le_refl _)).mono ?_; rintro e w1 ⟨rfl, h1, k1⟩; have c2 := (k1.cell (a := ⟨w.heap.size, 2, none⟩) (by simp) (by have := HP.out; simp; omega)).trans (show _ = some (Value.int .u64 (x : Int)) by simp); have H1 := Lib.hid (And.intro h1 k1); clear h1 k1))
    go_ret
    exact ⟨rfl, H1.out.1, (Keeps.of_below BL.out).trans H1.out.2⟩

set_option maxRecDepth 20000 in
set_option maxHeartbeats 3200000 in
/-- A piece that is cut off. -/
theorem back_cut (kd m x ny cy p n c at_ j : Nat) (Y A : Option Addr) (l bs : List Int) (w : World) (hm : m < 256) (hx : x < 18446744073709551616) (hy : Sees w 1 Y ny cy (l.map (Value.int .u8))) (h : Rdr w p A n c bs at_) (hb : Bytes bs) (hn : n ≤ 100000000)
    (hj : j < (pcBytes kd m x l).length) (hf : at_ + j = n) (he : bs.drop at_ = (pcBytes kd m x l).take j) :
    Calls Try.prog 17 #[.agg #[.int .u8 (kd : Int), .int .u8 (m : Int), .int .u64 (x : Int), .slice Y ny cy], .pointer (some ⟨p, 0, none⟩)] w fun e w' =>
      e = .returned (.bool false) ∧ Did p n c at_ A bs w w' := by
  have BL := Lib.hid ((Below.refl w.heap.size w).alloc (Nat.le_refl _) (.cells #[.int .u8 (kd : Int), .int .u8 (m : Int), .int .u64 (x : Int), .slice Y ny cy] 33))
  have HR := Lib.hid (h.below BL.out)
  have HY := Lib.hid (hy.below BL.out (Nat.le_refl _))
  have HX := Lib.hid hx
  have HM := Lib.hid hm
  have HN := Lib.hid hn
  have HB := Lib.hid hb
  have HP := Lib.hid h.plt
  have HF := Lib.hid hf
  have r4 : kd % 4 = 0 ∨ kd % 4 = 1 ∨ kd % 4 = 2 ∨ kd % 4 = 3 := by omega
  unfold pcBytes at he hj
  clear hx hm hy h hn hb hf
  rcases r4 with r | r | r | r
  · rw [if_pos r] at he hj
    have HJ : Hid (j = 0) := Lib.hid (by simp at hj; omega)
    have ri : (kd : Int) % 4 = 0 := by omega
    clear r he hj
    go_enter Try.func17, Try.ntmps17
    go_wp2_with (first
      | (go_at_call 24; refine (Byte_end _ _ _ _ _ _ _ HR.out HN.out (by have := HF.out; have := HJ.out; omega)).mono ?_; rintro e w1 ⟨rfl, h1, k1⟩; have c1 := (k1.cell (a := ⟨w.heap.size, 1, none⟩) (by simp) (by have := HP.out; simp; omega)).trans (show _ = some (Value.int .u8 (m : Int)) by simp); have H1 := Lib.hid (And.intro h1 k1); clear h1 k1))
    all_goals go_ret
    all_goals exact ⟨by first | rfl | (simp; done) | (simp; omega), H1.out.1, (Keeps.of_below BL.out).trans H1.out.2⟩
  · rw [if_neg (by omega), if_pos r] at he hj
    have ri : (kd : Int) % 4 = 1 := by omega
    have hlen := HY.out.length
    obtain ⟨q, hq0, hq20, hqmin, hqc⟩ := min_is ny 30
    have hmi : (if (30 : Int) < (ny : Int) then (30 : Int) else (ny : Int)) = (q : Int) := by split <;> omega
    have hmi' : (if 30 < ny then (30 : Int) else (ny : Int)) = (q : Int) := by split <;> omega
    have hql : (l.take 30).length = q := by rw [List.length_take, hlen]; omega
    rw [hql] at hj
    have HJ := Lib.hid hj
    clear r hlen hq0 hq20 hqmin hqc hql he hj
    go_enter Try.func17, Try.ntmps17
    go_wp2_with (first
      | (go_at_call 29; refine (Bytes_end _ _ _ _ _ _ _ _ HR.out HN.out (by omega) (by have := HF.out; have := HJ.out; omega)).mono ?_; rintro e w1 ⟨rfl, h1, k1⟩; have H1 := Lib.hid (And.intro h1 k1); clear h1 k1))
    go_ret
    exact ⟨rfl, H1.out.1, (Keeps.of_below BL.out).trans H1.out.2⟩
  · rw [if_neg (by omega), if_neg (by omega), if_pos r] at he hj
    have ri : (kd : Int) % 4 = 2 := by omega
    rw [leB_len] at hj
    have HJ := Lib.hid hj
    have HK : Hid (1 ≤ 1 + m % 8 ∧ 1 + m % 8 ≤ 8) := Lib.hid ⟨by omega, by omega⟩
    have HFX := Lib.hid (fun w' => fixed_any kd m x ny cy Y w' HM.out HX.out)
    clear r he hj
    generalize x % 256 ^ (1 + m % 8) = z at HFX
    generalize 1 + m % 8 = k at HFX HJ HK
    go_enter Try.func17, Try.ntmps17
    go_wp2_with (first
      | (go_at_call 28; refine (Fixed_end _ _ _ _ _ _ _ _ R1.out HN.out (by have := HK.out; omega) (by have := HK.out; omega) (by have := HF.out; have := HJ.out; omega)).mono ?_; rintro e w2 ⟨rfl, h2, k2⟩; have H2 := Lib.hid (And.intro h2 k2); clear h2 k2)
      | (go_at_call 35; refine (HFX.out _).mono ?_; rintro e w1 ⟨rfl, k1⟩; have R1 := Lib.hid (HR.out.below k1); have B1 := Lib.hid (below_step BL.out k1)))
    all_goals go_ret
    all_goals exact ⟨by first | rfl | (simp; done) | (simp; omega), H2.out.1, (Keeps.of_below B1.out).trans H2.out.2⟩
  · rw [if_neg (by omega), if_neg (by omega), if_neg (by omega)] at he hj
    have ri : (kd : Int) % 4 = 3 := by omega
    have HE : Hid (rd (bs.drop at_) = (0, 0, 10)) := Lib.hid (by rw [he]; exact rd_cut HX.out hj)
    clear r he hj
    go_enter Try.func17, Try.ntmps17
    go_wp2_with (first
      | (go_at_call 23; refine (Number_err _ _ _ _ _ _ _ _ _ _ _ HR.out HB.out HN.out HE.out (by decide)).mono ?_; rintro e w1 ⟨rfl, h1, k1⟩; have c2 := (k1.cell (a := ⟨w.heap.size, 2, none⟩) (by simp) (by have := HP.out; simp; omega)).trans (show _ = some (Value.int .u64 (x : Int)) by simp); have H1 := Lib.hid (And.intro h1 k1); clear h1 k1))
    all_goals go_ret
    all_goals exact ⟨by first | rfl | (simp; done) | (simp; omega), H1.out.1, (Keeps.of_below BL.out).trans H1.out.2⟩
end Go.Proofs.Ytgngeachgkappaa
