/- Walks of the reference: Of, Counts, Rhythm, Period; the law's same. -/
import Derived.Test.YthidfmkmklnhhaaProg
import Derived.Test.YthidfmkmklnhhaaZb
import Derived.Test.YthidfmkmklnhhaaYu
import Derived.Deep.DeepCutAuto
import Derived.Deep.QuietTactic
import Derived.BigRegion
namespace Go.Proofs.Ythidfmkmklnhhaa
open Go.RowKit
set_option linter.unusedVariables false

theorem next_facts {k n : Nat} (h : k < n) : (k : Int) < (n : Int) ∧ decide ((k : Int) < (n : Int)) = true ∧ decide (k < n) = true := by
  have h1 : (k : Int) < (n : Int) := Int.ofNat_lt.2 h
  exact ⟨h1, decide_eq_true h1, decide_eq_true h⟩
theorem end_facts (n : Nat) : decide ((n : Int) < (n : Int)) = false ∧ decide (n < n) = false := by simp
theorem mod4_facts (k : Nat) : ∃ r : Nat, k % 4 = r ∧ r < 4 ∧ (k : Int).tmod 4 = (r : Int) ∧ IntKind.i64.wrap (r : Int) = (r : Int) ∧ (r : Int) < 4 ∧ decide ((r : Int) < 4) = true ∧ decide (r < 4) = true := by
  refine ⟨k % 4, rfl, Nat.mod_lt _ (by decide), ?_, IntWalk.i64_in _ (by omega), by omega, by simp; omega, by simp; omega⟩
  rw [Int.tmod_eq_emod_of_nonneg (Int.natCast_nonneg k)]; exact (Int.natCast_emod k 4).symm
theorem cs_succ (l : List Int) (k r : Nat) (h : k % 4 = r) : cs l (k + 1) r = cs l k r + l.getD k 0 := by
  show cs l k r + (if k % 4 = r then l.getD k 0 else 0) = _
  rw [if_pos h]

set_option maxRecDepth 20000 in
set_option maxHeartbeats 1600000 in
theorem refOf_any (A : Option Addr) (n c : Nat) (l : List Int) (w : World) (hs : Sees w 1 A n c (l.map (Value.int .i64))) :
    Calls Try.prog 44 #[.slice A n c] w fun e w' => ∃ p q err, e = .returned (.tuple #[nv p q, .int .i64 err]) ∧ NumR (sz l n ≤ 1125899906842624) (cs l n) p q err ∧ Below w.heap.size w w' := by
  obtain ⟨W, hW⟩ : ∃ W, w.alloc (.cells (ic8 fun _ => 0) 63) = W := ⟨_, rfl⟩
  have A2 : Arr 63 W w.heap.size (ic8 fun _ => 0) := by rw [← hW]; exact Arr.new _ _ _
  have hB : Below w.heap.size w W := by rw [← hW]; exact below_al (Below.refl _ _) _
  have HS00 := Lib.hid hs
  have HS := Lib.hid (hs.below hB (Nat.le_refl _))
  have HA := Lib.hid (And.intro A2 hB)
  have HW := Lib.hid hW
  have hcm : (n : Int) ≤ 9223372036854775807 := by have := Nat.le_trans hs.cap hs.capm; unfold maxLen at this; omega
  clear hs A2 hB hW
  obtain ⟨b, hb⟩ : ∃ b, decide (sz l n ≤ 1125899906842624) = b := ⟨_, rfl⟩
  have HBB := Lib.hid hb
  go_enter Try.func44, Try.ntmps44
  cases b
  case false =>
    have HZ : Hid (¬ sz l n ≤ 1125899906842624) := Lib.hid (of_decide_eq_false HBB.out)
    clear HBB
    go_wp2_with (go_at_call 57; rw [HW.out]; refine (refFits_any A n c 1125899906842624 l _ HS.out (Nat.le_refl _)).mono ?_; rintro e w1 ⟨rfl, k1⟩; rw [hb]; have B1 := Lib.hid (And.intro (HA.out.1.step k1) (And.intro (HS.out.below k1 (Nat.le_refl _)) (below_step HA.out.2 k1))); obtain ⟨⟨s0, s1, s2, s3, s4, s5, s6, s7⟩, q0, q1, q2, q3, q4, q5, q6, q7⟩ := B1.out.1.eight; clear k1)
    have P9 := B1.out.1.put8 (.int .i64 0) (.int .i64 0) (.int .i64 0) (.int .i64 0) (.int .i64 0) (.int .i64 0) (.int .i64 0) (.int .i64 0)
    obtain ⟨⟨z0, z1, z2, z3, z4, z5, z6, z7⟩, -⟩ := P9.eight
    exact bodyPost_ret (v := .tuple #[nv (fun _ => 0) (fun _ => 0), .int .i64 3]) (by simp [results, Try.results44, go_sem, z0, z1, z2, z3, z4, z5, z6, z7]) rfl ⟨_, _, _, rfl, .inr ⟨HZ.out, rfl, rfl, rfl⟩, below_set8 B1.out.2.2 (Nat.le_refl _) _ _ _ _ _ _ _ _⟩
  case true =>
    have HZ : Hid (sz l n ≤ 1125899906842624) := Lib.hid (of_decide_eq_true HBB.out)
    clear HBB
    go_upto_region 3 with (go_at_call 57; rw [HW.out]; refine (refFits_any A n c 1125899906842624 l _ HS.out (Nat.le_refl _)).mono ?_; rintro e w1 ⟨rfl, k1⟩; rw [hb]; have B1 := Lib.hid (And.intro (HA.out.1.step k1) (And.intro (HS.out.below k1 (Nat.le_refl _)) (below_step HA.out.2 k1))); obtain ⟨⟨s0, s1, s2, s3, s4, s5, s6, s7⟩, q0, q1, q2, q3, q4, q5, q6, q7⟩ := B1.out.1.eight; clear k1)
    clear hb s0 s1 s2 s3 s4 s5 s6 s7 q0 q1 q2 q3 q4 q5 q6 q7
    have B2 : Hid (Arr 63 (w1.alloc (.cells #[.int .i64 0, .int .i64 0, .int .i64 0, .int .i64 0] 40)) w.heap.size (ic8 fun _ => 0) ∧ Arr 40 (w1.alloc (.cells #[.int .i64 0, .int .i64 0, .int .i64 0, .int .i64 0] 40)) w1.heap.size (ic4 (cs l 0)) ∧ Sees (w1.alloc (.cells #[.int .i64 0, .int .i64 0, .int .i64 0, .int .i64 0] 40)) 1 A n c (l.map (Value.int .i64)) ∧ Below w.heap.size w (w1.alloc (.cells #[.int .i64 0, .int .i64 0, .int .i64 0, .int .i64 0] 40))) := Lib.hid ⟨B1.out.1.al _, Arr.new _ _ _, B1.out.2.1.below (below_al (Below.refl _ _) _) (Nat.le_refl _), below_al B1.out.2.2 _⟩
    have HG0 : Hid (w.heap.size < w1.heap.size) := Lib.hid B1.out.1.lt
    go_upto_region 4 with fail
    generalize w1.alloc (.cells #[.int .i64 0, .int .i64 0, .int .i64 0, .int .i64 0] 40) = V at B2 ⊢
    have HG := Lib.hid HG0.out
    generalize w1.heap.size = gc at B2 HG ⊢
    clear HG0 B1
    have HS2 := Lib.hid (And.intro B2.out.1 (And.intro B2.out.2.2.1 B2.out.2.2.2))
    have B3 : Hid (Arr 40 V gc (ic4 (cs l 0)) ∧ Below gc V V) := Lib.hid ⟨B2.out.2.1, Below.refl _ _⟩
    have HGV : Hid (gc < V.heap.size) := Lib.hid B2.out.2.1.lt
    clear B2
    go_wp2_with fail
    go_loopw [5] (fun iv wr => ∃ k : Nat, Hid (k ≤ n) ∧ iv = .int .i64 (k : Int) ∧ Hid (Arr 40 wr gc (ic4 (cs l k)) ∧ Below gc V wr)) (fun iv _ => n - (intOf iv).toNat)
    case atStart => exact ⟨0, Lib.hid (Nat.zero_le _), rfl, B3⟩
    case round =>
      clear B3
      obtain ⟨k, HK, rfl, HB⟩ := hrel
      by_cases hlt : k < n
      · obtain ⟨hkn, d0, d0'⟩ := next_facts hlt
        obtain ⟨g, o, hA, g5⟩ := (HS00.out.below (HS2.out.2.2.trans (HB.out.2.mono (Nat.le_of_lt HG.out))) (Nat.le_refl _)).int hlt
        cases hA
        have hcg := cs_get (cs l k) (k % 4) (Nat.mod_lt _ (by decide))
        have hset := cs_set l k
        have hle2 := cs_le l (k + 1) (k % 4) (Nat.mod_lt _ (by decide))
        have hm2 := sz_mono l (show k + 1 ≤ n by omega)
        rw [cs_succ l k _ rfl] at hle2
        obtain ⟨r, hr, hr4, hkt, hwr, hr9, dr, dr'⟩ := mod4_facts k
        rw [hr] at hcg hset hle2
        obtain ⟨e, he⟩ : ∃ e, l.getD k 0 = e := ⟨_, rfl⟩
        rw [he] at g5 hset hle2
        obtain ⟨a, ha⟩ : ∃ a, cs l k r = a := ⟨_, rfl⟩
        rw [ha] at hcg hset hle2
        obtain ⟨b, hb⟩ : ∃ b, a + e = b := ⟨_, rfl⟩
        rw [hb] at hset hle2
        have hZ := HZ.out
        have hbn : b.natAbs ≤ 1125899906842624 := Nat.le_trans hle2 (Nat.le_trans hm2 hZ)
        have hwb : IntKind.i64.wrap (a + e) = b := by rw [hb]; exact IntWalk.i64_in _ (by clear hkt; omega)
        have hwb2 : wrap64 (a + e) = b := by rw [hb]; exact IntWalk.wrap64_in _ (by clear hkt; omega)
        have h4c : wr.cell? ⟨gc, r, none⟩ = some (.int .i64 a) := (HB.out.1.c r).trans hcg
        have h4f := HB.out.1.f r
        have HLT := Lib.hid hlt
        have HB2 : Hid (Arr 40 (wr.setCell ⟨gc, r, none⟩ (.int .i64 b)) gc (ic4 (cs l (k + 1))) ∧ Below gc V (wr.setCell ⟨gc, r, none⟩ (.int .i64 b))) := Lib.hid ⟨by rw [← hset]; exact HB.out.1.set r (.int .i64 b), HB.out.2.setCell (show gc ≤ (⟨gc, r, none⟩ : Addr).block from Nat.le_refl _) _⟩
        clear hlt hcg hset hle2 hm2 he ha hb hZ hbn hr hr4
        go_wp2_with fail
        go_region
        go_wp2_with fail
        go_roundw
        case rel => exact ⟨k + 1, Lib.hid HLT.out, by go_num, Lib.hid ⟨HB2.out.1, HB2.out.2.drew⟩⟩
        case measure => have := HLT.out; simp [intOf]; omega
      · obtain rfl : n = k := Nat.le_antisymm (Nat.not_lt.1 hlt) HK.out
        obtain ⟨d0, d0'⟩ := end_facts n
        clear hlt HK
        obtain ⟨⟨a0, a1, a2, a3⟩, -⟩ := HB.out.1.four
        have hZ2 : szc (cs l n) ≤ 1125899906842624 := Nat.le_trans (szc_cs l n) HZ.out
        go_wp2_with (go_at_call 32; refine (refRow_any (cs l n) _).mono ?_; rintro e w5 ⟨p, q, err, rfl, hR, k5⟩; have B5 := Lib.hid (And.intro ((HS2.out.1.keep HB.out.2 HG.out).step k5) (below_step (HS2.out.2.2.trans (HB.out.2.mono (Nat.le_of_lt HG.out))) k5)); have HR := Lib.hid hR; clear hR k5; obtain ⟨⟨s0, s1, s2, s3, s4, s5, s6, s7⟩, q0, q1, q2, q3, q4, q5, q6, q7⟩ := B5.out.1.eight)
        have P9 := B5.out.1.put8 (.int .i64 (p 0)) (.int .i64 (q 0)) (.int .i64 (p 1)) (.int .i64 (q 1)) (.int .i64 (p 2)) (.int .i64 (q 2)) (.int .i64 (p 3)) (.int .i64 (q 3))
        obtain ⟨⟨z0, z1, z2, z3, z4, z5, z6, z7⟩, -⟩ := P9.eight
        exact bodyPost_ret (v := .tuple #[nv p q, .int .i64 err]) (by simp [results, Try.results44, go_sem, z0, z1, z2, z3, z4, z5, z6, z7]) rfl ⟨_, _, _, rfl, by rcases HR.out with ⟨_, h1, h2, h3⟩ | ⟨h0, _⟩; exact .inl ⟨HZ.out, h1, h2, h3⟩; exact absurd hZ2 h0, below_set8 B5.out.2 (Nat.le_refl _) _ _ _ _ _ _ _ _⟩
end Go.Proofs.Ythidfmkmklnhhaa
