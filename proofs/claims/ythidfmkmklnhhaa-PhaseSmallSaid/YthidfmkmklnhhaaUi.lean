/- Walks of the reference: Mod, Shift, Join. -/
import Derived.Test.YthidfmkmklnhhaaProg
import Derived.Test.YthidfmkmklnhhaaUh
import Derived.Deep.DeepCutAuto
import Derived.Deep.RegionHeld3
import Derived.BigRegion
namespace Go.Proofs.Ythidfmkmklnhhaa
open Go.RowKit
set_option linter.unusedVariables false

theorem mod_facts (n : Int) : ∃ (t : Int) (m : Nat), n.tmod 4 = t ∧ IntKind.i64.wrap t = t ∧ wrap64 (t + 4) = t + 4 ∧ IntKind.i64.wrap (t + 4) = t + 4 ∧ (t + 4).tmod 4 = (m : Int) ∧ IntKind.i64.wrap (m : Int) = (m : Int) ∧ m < 4 ∧ (n % 4).toNat = m := by
  have h1 := Int.tmod_lt_of_pos n (show (0 : Int) < 4 by decide)
  have h2 := Int.lt_tmod_of_pos n (show (0 : Int) < 4 by decide)
  have h3 : (n.tmod 4 + 4) % 4 = n % 4 := by
    rw [Int.add_emod_right]
    rcases Int.lt_or_le n 0 with h | h
    · obtain ⟨k, rfl⟩ : ∃ k, n = -k := ⟨-n, by omega⟩
      rw [Int.neg_tmod, Int.tmod_eq_emod_of_nonneg (by omega)]
      clear h1 h2; omega
    · rw [Int.tmod_eq_emod_of_nonneg h, Int.emod_emod]
  generalize n.tmod 4 = t at *
  refine ⟨t, (n % 4).toNat, rfl, IntWalk.i64_in _ (by omega), IntWalk.wrap64_in _ (by omega), IntWalk.i64_in _ (by omega), ?_, IntWalk.i64_in _ (by omega), by omega, rfl⟩
  rw [Int.tmod_eq_emod_of_nonneg (by omega), h3]; omega
set_option maxRecDepth 20000 in
theorem Mod_any (n : Int) (m : Nat) (w : World) (hm : (n % 4).toNat = m) : Calls Try.prog 63 #[.int .i64 n] w fun e w' => e = .returned (.int .i64 (m : Int)) ∧ w' = w := by
  obtain ⟨t, m', h1, h2, h3, h4, h5, h6, _, h8⟩ := mod_facts n
  obtain rfl : m = m' := hm.symm.trans h8
  clear h8 hm
  go_enter Try.func63, Try.ntmps63
  go_wp2
  go_ret
  exact ⟨rfl, rfl⟩
abbrev zc0 : Nat → Int := fun _ => 0
theorem sh_set (c : Nat → Int) (m k q : Nat) (hm : m < 4) (hk : k < 4) (hq : (k + m) % 4 = q) : (ic4 (adk zc0 c m k)).setIfInBounds q (.int .i64 (c k)) = ic4 (adk zc0 c m (k + 1)) := by
  have h := adk_set zc0 c m k q hm hk hq
  rwa [show zc0 q + c k = c k from Int.zero_add _] at h
theorem sh_all (c : Nat → Int) (m : Nat) : ic4 (adk zc0 c m 4) = ic4 (shc c m) := by
  have h : ∀ r < 4, adk zc0 c m 4 r = shc c m r := fun r hr => by rw [adk_all zc0 c m r hr]; exact Int.zero_add _
  unfold ic4
  rw [h 0 (by decide), h 1 (by decide), h 2 (by decide), h 3 (by decide)]
theorem km_facts {k m : Nat} (hk : k < 4) (hm : m < 4) : ∃ q s : Nat, (k + m) % 4 = q ∧ q < 4 ∧ (q : Int) < 4 ∧ (k : Int) + (m : Int) = (s : Int) ∧ wrap64 (s : Int) = (s : Int) ∧ IntKind.i64.wrap (s : Int) = (s : Int) ∧ ((s : Int) % 4).toNat = q := by
  have h1 : (k + m) % 4 < 4 := Nat.mod_lt _ (by decide)
  exact ⟨(k + m) % 4, k + m, rfl, h1, Int.ofNat_lt.2 h1, by omega, IntWalk.wrap64_in _ (by omega), IntWalk.i64_in _ (by omega), by omega⟩

set_option maxRecDepth 20000 in
set_option maxHeartbeats 1600000 in
theorem refShift_any (c : Nat → Int) (n : Int) (m : Nat) (w : World) (hm : (n % 4).toNat = m) (hm4 : m < 4) :
    Calls Try.prog 51 #[iv4 c, .int .i64 n] w fun e w' => e = .returned (iv4 (shc c m)) ∧ Below w.heap.size w w' := by
  obtain ⟨W, hW⟩ : ∃ W, ((w.alloc (.cells (ic4 c) 40)).alloc (.cells (ic4 zc0) 40)).alloc (.cells (ic4 zc0) 40) = W := ⟨_, rfl⟩
  have HA : Hid (Arr 40 W w.heap.size (ic4 c) ∧ Arr 40 W (w.heap.size + 1) (ic4 zc0) ∧ Arr 40 W (w.heap.size + 1 + 1) (ic4 (adk zc0 c m 0)) ∧ Below w.heap.size w W) := Lib.hid ⟨by rw [← hW]; exact ((Arr.new _ _ _).al _).al _, by rw [← hW]; exact (Arr.new1 _ _ _ _).al _, by rw [← hW, adk_zero]; exact Arr.new2 _ _ _ _ _, by rw [← hW]; exact below_al (below_al (below_al (Below.refl _ _) _) _) _⟩
  have HW := Lib.hid hW
  have HM := Lib.hid (And.intro hm hm4)
  clear hW hm hm4
  go_enter Try.func51, Try.ntmps51
  go_upto_region 2 with fail
  rw [HW.out]
  clear HW
  go_wp2_with fail
  go_loopw [6] (fun iv wr => ∃ k : Nat, Hid (k ≤ 4) ∧ iv = .int .i64 (k : Int) ∧ Hid (Arr 40 wr w.heap.size (ic4 c) ∧ Arr 40 wr (w.heap.size + 1) (ic4 zc0) ∧ Arr 40 wr (w.heap.size + 1 + 1) (ic4 (adk zc0 c m k)) ∧ Below w.heap.size w wr)) (fun iv _ => 4 - (intOf iv).toNat)
  case atStart => exact ⟨0, Lib.hid (Nat.zero_le _), rfl, HA⟩
  case round =>
    clear HA
    obtain ⟨k, HK, rfl, HB⟩ := hrel
    by_cases hlt : k < 4
    · have d0 : decide ((k : Int) < 4) = true := decide_eq_true (Int.ofNat_lt.2 hlt)
      have d0' : decide (k < 4) = true := decide_eq_true hlt
      have hk4 : (k : Int) < 4 := Int.ofNat_lt.2 hlt
      obtain ⟨q, s, hq, hq4, hq9, hks, hws, hws2, hsm⟩ := km_facts hlt HM.out.2
      have dq : decide ((q : Int) < 4) = true := decide_eq_true hq9
      have dq' : decide (q < 4) = true := decide_eq_true hq4
      have e0 : wr.cell? ⟨w.heap.size, k, none⟩ = some (.int .i64 (c k)) := (HB.out.1.c k).trans (cs_get c k hlt)
      have e1 := (HB.out.2.2.1.c q).trans (cs_get (adk zc0 c m k) q hq4)
      have f1 := HB.out.2.2.1.f q
      have hset := sh_set c m k q HM.out.2 hlt hq
      have HLT := Lib.hid hlt
      have HSM := Lib.hid hsm
      have HB2 : Hid (Arr 40 (wr.setCell ⟨w.heap.size + 1 + 1, q, none⟩ (.int .i64 (c k))) w.heap.size (ic4 c) ∧ Arr 40 (wr.setCell ⟨w.heap.size + 1 + 1, q, none⟩ (.int .i64 (c k))) (w.heap.size + 1) (ic4 zc0) ∧ Arr 40 (wr.setCell ⟨w.heap.size + 1 + 1, q, none⟩ (.int .i64 (c k))) (w.heap.size + 1 + 1) (ic4 (adk zc0 c m (k + 1))) ∧ Below w.heap.size w (wr.setCell ⟨w.heap.size + 1 + 1, q, none⟩ (.int .i64 (c k)))) := Lib.hid ⟨HB.out.1.other (k := q) (.int .i64 (c k)) (by omega), HB.out.2.1.other (k := q) (.int .i64 (c k)) (by omega), by rw [← hset]; exact HB.out.2.2.1.set q (.int .i64 (c k)), HB.out.2.2.2.setCell (show w.heap.size ≤ (⟨w.heap.size + 1 + 1, q, none⟩ : Addr).block by show w.heap.size ≤ w.heap.size + 1 + 1; omega) _⟩
      clear hlt hq hset hsm hq4
      go_wp2_with fail
      go_region_with (first
        | (go_at_call_of 63 (Value.int .i64 (s : Int)); refine (Mod_any (s : Int) q _ HSM.out).mono ?_; rintro e w2 ⟨rfl, rfl⟩)
        | (go_at_call_of 63 (Value.int .i64 n); refine (Mod_any n m _ HM.out.1).mono ?_; rintro e w2 ⟨rfl, rfl⟩))
      all_goals
        go_wp2_with fail
        go_roundw
        case rel => exact ⟨k + 1, Lib.hid HLT.out, by go_num, Lib.hid ⟨HB2.out.1, HB2.out.2.1, HB2.out.2.2.1, HB2.out.2.2.2.drew⟩⟩
        case measure => have h1 := HLT.out; clear hks hws hws2; simp [intOf]; omega
    · obtain rfl : k = 4 := Nat.le_antisymm HK.out (Nat.not_lt.1 hlt)
      clear hlt HK
      have hall := sh_all c m
      rw [hall] at HB
      clear hall
      obtain ⟨⟨a0, a1, a2, a3⟩, -⟩ := HB.out.2.2.1.four
      obtain ⟨⟨s0, s1, s2, s3⟩, q0, q1, q2, q3⟩ := HB.out.2.1.four
      go_wp2_with fail
      have P9 := HB.out.2.1.put4 (.int .i64 (shc c m 0)) (.int .i64 (shc c m 1)) (.int .i64 (shc c m 2)) (.int .i64 (shc c m 3))
      obtain ⟨⟨z0, z1, z2, z3⟩, -⟩ := P9.four
      exact bodyPost_ret (v := iv4 (shc c m)) (by simp [results, Try.results51, go_sem, z0, z1, z2, z3]) rfl ⟨rfl, below_set4 HB.out.2.2.2 (Nat.le_succ _) _ _ _ _⟩
theorem Arr.other4 {t : TypeId} {W : World} {b b' : Nat} {cs : Array Value} (h : Arr t W b cs) (hb : b ≠ b') (v0 v1 v2 v3 : Value) : Arr t ((((W.setCell ⟨b', 0, none⟩ v0).setCell ⟨b', 1, none⟩ v1).setCell ⟨b', 2, none⟩ v2).setCell ⟨b', 3, none⟩ v3) b cs := (((h.other v0 hb).other v1 hb).other v2 hb).other v3 hb
/-- The first k of four integers with others added. -/
def ad4 (a b : Nat → Int) (k : Nat) : Nat → Int := fun r => if r < k then a r + b r else a r
theorem ad4_set (a b : Nat → Int) (k : Nat) (hk : k < 4) : (ic4 (ad4 a b k)).setIfInBounds k (.int .i64 (a k + b k)) = ic4 (ad4 a b (k + 1)) := by
  rcases (show k = 0 ∨ k = 1 ∨ k = 2 ∨ k = 3 by omega) with rfl | rfl | rfl | rfl <;> simp [ad4, ic4]
theorem ad4_get (a b : Nat → Int) (k : Nat) (hk : k < 4) : (ic4 (ad4 a b k))[k]? = some (.int .i64 (a k)) := by
  rw [cs_get (ad4 a b k) k hk]; simp [ad4]
theorem ad4_zero (a b : Nat → Int) : ic4 (ad4 a b 0) = ic4 a := by simp [ad4]
theorem ad4_all (a b : Nat → Int) (m : Nat) : ic4 (ad4 a (shc b m) 4) = ic4 (addc a b m) := by simp [ad4, addc, ic4]
/-- What the reference's 'Join' returns. -/
def JoinR (n : Int) (c p q : Nat → Int) (err : Int) : Prop := (n < 0 ∧ err = 2 ∧ p = (fun _ => 0) ∧ q = fun _ => 0) ∨ (0 ≤ n ∧ NumR (szc c ≤ 1125899906842624) c p q err)

set_option maxRecDepth 20000 in
set_option maxHeartbeats 1600000 in
theorem refJoin_any (a b : Nat → Int) (n : Int) (m : Nat) (w : World) (hm : (n % 4).toNat = m) (hm4 : m < 4) (ha : szc a ≤ 1125899906842624) (hb : szc b ≤ 1125899906842624) :
    Calls Try.prog 53 #[iv4 a, .int .i64 n, iv4 b] w fun e w' => ∃ p q err, e = .returned (.tuple #[nv p q, .int .i64 err]) ∧ JoinR n (addc a b m) p q err ∧ Below w.heap.size w w' := by
  obtain ⟨W, hW⟩ : ∃ W, ((w.alloc (.cells (ic4 a) 40)).alloc (.cells (ic4 b) 40)).alloc (.cells (ic8 fun _ => 0) 63) = W := ⟨_, rfl⟩
  have HA : Hid (Arr 40 W w.heap.size (ic4 a) ∧ Arr 40 W (w.heap.size + 1) (ic4 b) ∧ Arr 63 W (w.heap.size + 1 + 1) (ic8 fun _ => 0) ∧ Below w.heap.size w W) := Lib.hid ⟨by rw [← hW]; exact ((Arr.new _ _ _).al _).al _, by rw [← hW]; exact (Arr.new1 _ _ _ _).al _, by rw [← hW]; exact Arr.new2 _ _ _ _ _, by rw [← hW]; exact below_al (below_al (below_al (Below.refl _ _) _) _) _⟩
  have HW := Lib.hid hW
  have HM := Lib.hid (And.intro hm (And.intro hm4 (And.intro ha hb)))
  clear hW hm hm4 ha hb
  by_cases hn : n < 0
  · have dn : decide (n < 0) = true := decide_eq_true hn
    have HN := Lib.hid hn
    clear hn
    go_enter Try.func53, Try.ntmps53
    go_upto_region 1 with fail
    rw [HW.out]
    clear HW
    obtain ⟨⟨s0, s1, s2, s3, s4, s5, s6, s7⟩, q0, q1, q2, q3, q4, q5, q6, q7⟩ := HA.out.2.2.1.eight
    go_wp2_with fail
    have P9 := HA.out.2.2.1.put8 (.int .i64 0) (.int .i64 0) (.int .i64 0) (.int .i64 0) (.int .i64 0) (.int .i64 0) (.int .i64 0) (.int .i64 0)
    obtain ⟨⟨z0, z1, z2, z3, z4, z5, z6, z7⟩, -⟩ := P9.eight
    exact bodyPost_ret (v := .tuple #[nv (fun _ => 0) (fun _ => 0), .int .i64 2]) (by simp [results, Try.results53, go_sem, z0, z1, z2, z3, z4, z5, z6, z7]) rfl ⟨_, _, _, rfl, .inl ⟨HN.out, rfl, rfl, rfl⟩, below_set8 HA.out.2.2.2 (by omega) _ _ _ _ _ _ _ _⟩
  · have dn : decide (n < 0) = false := decide_eq_false hn
    have HN := Lib.hid (Int.not_lt.1 hn)
    clear hn
    go_enter Try.func53, Try.ntmps53
    go_upto_region 1 with fail
    rw [HW.out]
    clear HW
    obtain ⟨⟨s0, s1, s2, s3⟩, t0, t1, t2, t3⟩ := HA.out.2.1.four
    obtain ⟨d, hd⟩ : ∃ d, shc b m = d := ⟨_, rfl⟩
    have HD := Lib.hid hd
    go_upto_region 4 with (go_at_call 51; refine (refShift_any b n m _ HM.out.1 HM.out.2.1).mono ?_; rw [hd]; rintro e w1 ⟨rfl, k1⟩; have B1 := Lib.hid (And.intro (HA.out.1.step k1) (And.intro (HA.out.2.1.step k1) (And.intro (HA.out.2.2.1.step k1) (below_step HA.out.2.2.2 k1)))); obtain ⟨⟨r0, r1, r2, r3⟩, u0, u1, u2, u3⟩ := B1.out.2.1.four; clear k1 s0 s1 s2 s3 t0 t1 t2 t3)
    have B2 : Hid (Arr 40 ((((w1.setCell ⟨w.heap.size + 1, 0, none⟩ (.int .i64 (d 0))).setCell ⟨w.heap.size + 1, 1, none⟩ (.int .i64 (d 1))).setCell ⟨w.heap.size + 1, 2, none⟩ (.int .i64 (d 2))).setCell ⟨w.heap.size + 1, 3, none⟩ (.int .i64 (d 3))) w.heap.size (ic4 (ad4 a d 0)) ∧ Arr 40 ((((w1.setCell ⟨w.heap.size + 1, 0, none⟩ (.int .i64 (d 0))).setCell ⟨w.heap.size + 1, 1, none⟩ (.int .i64 (d 1))).setCell ⟨w.heap.size + 1, 2, none⟩ (.int .i64 (d 2))).setCell ⟨w.heap.size + 1, 3, none⟩ (.int .i64 (d 3))) (w.heap.size + 1) (ic4 d) ∧ Arr 63 ((((w1.setCell ⟨w.heap.size + 1, 0, none⟩ (.int .i64 (d 0))).setCell ⟨w.heap.size + 1, 1, none⟩ (.int .i64 (d 1))).setCell ⟨w.heap.size + 1, 2, none⟩ (.int .i64 (d 2))).setCell ⟨w.heap.size + 1, 3, none⟩ (.int .i64 (d 3))) (w.heap.size + 1 + 1) (ic8 fun _ => 0) ∧ Below w.heap.size w ((((w1.setCell ⟨w.heap.size + 1, 0, none⟩ (.int .i64 (d 0))).setCell ⟨w.heap.size + 1, 1, none⟩ (.int .i64 (d 1))).setCell ⟨w.heap.size + 1, 2, none⟩ (.int .i64 (d 2))).setCell ⟨w.heap.size + 1, 3, none⟩ (.int .i64 (d 3)))) := Lib.hid ⟨by rw [ad4_zero]; exact B1.out.1.other4 (by omega) _ _ _ _, B1.out.2.1.put4 _ _ _ _, B1.out.2.2.1.other4 (by omega) _ _ _ _, below_set4 B1.out.2.2.2 (Nat.le_succ _) _ _ _ _⟩
    generalize ((((w1.setCell ⟨w.heap.size + 1, 0, none⟩ (.int .i64 (d 0))).setCell ⟨w.heap.size + 1, 1, none⟩ (.int .i64 (d 1))).setCell ⟨w.heap.size + 1, 2, none⟩ (.int .i64 (d 2))).setCell ⟨w.heap.size + 1, 3, none⟩ (.int .i64 (d 3))) = V at B2 ⊢
    clear B1 r0 r1 r2 r3 u0 u1 u2 u3 HA
    go_wp2_with fail
    go_loopw [8] (fun iv wr => ∃ k : Nat, Hid (k ≤ 4) ∧ iv = .int .i64 (k : Int) ∧ Hid (Arr 40 wr w.heap.size (ic4 (ad4 a d k)) ∧ Arr 40 wr (w.heap.size + 1) (ic4 d) ∧ Arr 63 wr (w.heap.size + 1 + 1) (ic8 fun _ => 0) ∧ Below w.heap.size w wr)) (fun iv _ => 4 - (intOf iv).toNat)
    case atStart => exact ⟨0, Lib.hid (Nat.zero_le _), rfl, B2⟩
    case round =>
      clear B2
      obtain ⟨k, HK, rfl, HB⟩ := hrel
      by_cases hlt : k < 4
      · have d0 : decide ((k : Int) < 4) = true := decide_eq_true (Int.ofNat_lt.2 hlt)
        have d0' : decide (k < 4) = true := decide_eq_true hlt
        have hk4 : (k : Int) < 4 := Int.ofNat_lt.2 hlt
        have e0 := (HB.out.1.c k).trans (ad4_get a d k hlt)
        have e1 := (HB.out.2.1.c k).trans (cs_get d k hlt)
        have f0 := HB.out.1.f k
        have hset := ad4_set a d k hlt
        have l1 := c_le a k hlt
        have l2 := c_le d k hlt
        rw [← HD.out, szc_shift b m HM.out.2.1, HD.out] at l2
        have hA := HM.out.2.2.1
        have hBq := HM.out.2.2.2
        have v1 : wrap64 (a k + d k) = a k + d k := IntWalk.wrap64_in _ (by omega)
        have v2 : IntKind.i64.wrap (a k + d k) = a k + d k := IntWalk.i64_in _ (by omega)
        have HLT := Lib.hid hlt
        have HB2 : Hid (Arr 40 (wr.setCell ⟨w.heap.size, k, none⟩ (.int .i64 (a k + d k))) w.heap.size (ic4 (ad4 a d (k + 1))) ∧ Arr 40 (wr.setCell ⟨w.heap.size, k, none⟩ (.int .i64 (a k + d k))) (w.heap.size + 1) (ic4 d) ∧ Arr 63 (wr.setCell ⟨w.heap.size, k, none⟩ (.int .i64 (a k + d k))) (w.heap.size + 1 + 1) (ic8 fun _ => 0) ∧ Below w.heap.size w (wr.setCell ⟨w.heap.size, k, none⟩ (.int .i64 (a k + d k)))) := Lib.hid ⟨by rw [← hset]; exact HB.out.1.set k (.int .i64 (a k + d k)), HB.out.2.1.other (k := k) (.int .i64 (a k + d k)) (by omega), HB.out.2.2.1.other (k := k) (.int .i64 (a k + d k)) (by omega), HB.out.2.2.2.setCell (show w.heap.size ≤ (⟨w.heap.size, k, none⟩ : Addr).block from Nat.le_refl _) _⟩
        clear hlt hset l1 l2 hA hBq
        go_wp2_with fail
        go_region
        go_wp2_with fail
        go_roundw
        case rel => exact ⟨k + 1, Lib.hid HLT.out, by go_num, Lib.hid ⟨HB2.out.1, HB2.out.2.1, HB2.out.2.2.1, HB2.out.2.2.2.drew⟩⟩
        case measure => have h1 := HLT.out; simp [intOf]; omega
      · obtain rfl : k = 4 := Nat.le_antisymm HK.out (Nat.not_lt.1 hlt)
        clear hlt HK
        have hall := ad4_all a b m
        rw [HD.out] at hall
        rw [hall] at HB
        clear hall
        obtain ⟨⟨a0, a1, a2, a3⟩, -⟩ := HB.out.1.four
        obtain ⟨C, hC⟩ : ∃ C, addc a b m = C := ⟨_, rfl⟩
        rw [hC] at HB a0 a1 a2 a3
        have HC := Lib.hid hC
        clear hC
        go_wp2_with (go_at_call 32; refine (refRow_any C _).mono ?_; rintro e w5 ⟨p, q, err, rfl, hR, k5⟩; have HR := Lib.hid hR; have B5 := Lib.hid (And.intro (HB.out.2.2.1.step k5) (below_step HB.out.2.2.2 k5)); clear hR k5; obtain ⟨⟨s0, s1, s2, s3, s4, s5, s6, s7⟩, q0, q1, q2, q3, q4, q5, q6, q7⟩ := B5.out.1.eight)
        have P9 := B5.out.1.put8 (.int .i64 (p 0)) (.int .i64 (q 0)) (.int .i64 (p 1)) (.int .i64 (q 1)) (.int .i64 (p 2)) (.int .i64 (q 2)) (.int .i64 (p 3)) (.int .i64 (q 3))
        obtain ⟨⟨z0, z1, z2, z3, z4, z5, z6, z7⟩, -⟩ := P9.eight
        exact bodyPost_ret (v := .tuple #[nv p q, .int .i64 err]) (by simp [results, Try.results53, go_sem, z0, z1, z2, z3, z4, z5, z6, z7]) rfl ⟨_, _, _, rfl, .inr ⟨HN.out, by rw [HC.out]; exact HR.out⟩, below_set8 B5.out.2 (by omega) _ _ _ _ _ _ _ _⟩
end Go.Proofs.Ythidfmkmklnhhaa
