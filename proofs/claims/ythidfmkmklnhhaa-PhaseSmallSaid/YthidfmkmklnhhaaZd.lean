/- Walks of the reference: Counts, Rhythm. -/
import Derived.Test.YthidfmkmklnhhaaProg
import Derived.Test.YthidfmkmklnhhaaZc
import Derived.Deep.DeepCutAuto
import Derived.Deep.QuietTactic
import Derived.Deep.RegionHeld3
namespace Go.Proofs.Ythidfmkmklnhhaa
open Go.RowKit
set_option linter.unusedVariables false

theorem cs_same {l : List Int} {k : Nat} (h : l.getD k 0 = 0) : ic4 (cs l (k + 1)) = ic4 (cs l k) := by
  have hc : ∀ r, cs l (k + 1) r = cs l k r := fun r => by
    show cs l k r + (if k % 4 = r then l.getD k 0 else 0) = _
    rw [h]; split <;> omega
  unfold ic4
  rw [hc, hc, hc, hc]

set_option maxRecDepth 20000 in
set_option maxHeartbeats 1600000 in
theorem refCounts_any (A : Option Addr) (n c : Nat) (l : List Int) (id : Int) (w : World) (hs : Sees w 1 A n c (l.map (Value.int .i64))) (hn : n ≤ 10000) :
    Calls Try.prog 45 #[.slice A n c, .int .i64 id] w fun e w' => e = .returned (iv4 (cs (idr l id n n) n)) ∧ Below w.heap.size w w' := by
  obtain ⟨W, hW⟩ : ∃ W, (w.alloc (.cells (ic4 fun _ => 0) 40)).alloc (.cells (ic4 fun _ => 0) 40) = W := ⟨_, rfl⟩
  have A1 : Arr 40 W w.heap.size (ic4 fun _ => 0) := by rw [← hW]; exact (Arr.new _ _ _).al _
  have A2 : Arr 40 W (w.heap.size + 1) (ic4 fun _ => 0) := by rw [← hW]; exact Arr.new1 _ _ _ _
  have hB : Below w.heap.size w W := by rw [← hW]; exact below_al (below_al (Below.refl _ _) _) _
  have HS := Lib.hid hs
  have HA : Hid (Arr 40 W w.heap.size (ic4 fun _ => 0) ∧ Arr 40 W (w.heap.size + 1) (ic4 (cs (idr l id n n) 0)) ∧ Below w.heap.size w W) := Lib.hid ⟨A1, A2, hB⟩
  have HW := Lib.hid hW
  have HN := Lib.hid hn
  have hn9 : (n : Int) ≤ 10000 := by omega
  clear hs A1 A2 hB hW hn
  go_enter Try.func45, Try.ntmps45
  go_upto_region 2 with fail
  rw [HW.out]
  clear HW
  go_wp2_with fail
  go_loopw [6] (fun iv wr => ∃ k : Nat, Hid (k ≤ n) ∧ iv = .int .i64 (k : Int) ∧ Hid (Arr 40 wr w.heap.size (ic4 fun _ => 0) ∧ Arr 40 wr (w.heap.size + 1) (ic4 (cs (idr l id n n) k)) ∧ Below w.heap.size w wr) ) (fun iv _ => n - (intOf iv).toNat)
  case atStart => exact ⟨0, Lib.hid (Nat.zero_le _), rfl, HA⟩
  case round =>
    clear HA
    obtain ⟨k, HK, rfl, HB⟩ := hrel
    by_cases hlt : k < n
    · obtain ⟨hkn, d0, d0'⟩ := next_facts hlt
      obtain ⟨g, o, hA, g5⟩ := (HS.out.below HB.out.2.2 (Nat.le_refl _)).int hlt
      cases hA
      have hid := idr_get l id n n k hlt
      obtain ⟨L, hL⟩ : ∃ L, idr l id n n = L := ⟨_, rfl⟩
      rw [hL] at hid HB ⊢
      have hsz : sz L (k + 1) ≤ k + 1 := by rw [← hL]; exact idr_sz l id n n (k + 1)
      obtain ⟨v, hv⟩ : ∃ v, l.getD k 0 = v := ⟨_, rfl⟩
      rw [hv] at g5 hid
      have HLT := Lib.hid hlt
      by_cases he : v = id
      · have hE : (v == id) = true := by simpa using he
        have hE' : decide (v = id) = true := decide_eq_true he
        rw [if_pos ⟨hlt, he⟩] at hid
        have hcg := cs_get (cs L k) (k % 4) (Nat.mod_lt _ (by decide))
        have hset := cs_set L k
        have hle2 := cs_le L (k + 1) (k % 4) (Nat.mod_lt _ (by decide))
        rw [cs_succ L k _ rfl] at hle2
        rw [hid] at hle2 hset
        obtain ⟨r, hr, hr4, hkt, hwr, hr9, dr, dr'⟩ := mod4_facts k
        rw [hr] at hcg hset hle2
        obtain ⟨a, ha⟩ : ∃ a, cs L k r = a := ⟨_, rfl⟩
        rw [ha] at hcg hset hle2
        have hkn2 := HN.out
        have hwb : IntKind.i64.wrap (a + 1) = a + 1 := IntWalk.i64_in _ (by clear hkt; omega)
        have hwb2 : wrap64 (a + 1) = a + 1 := IntWalk.wrap64_in _ (by clear hkt; omega)
        have h4c : wr.cell? ⟨w.heap.size + 1, r, none⟩ = some (.int .i64 a) := (HB.out.2.1.c r).trans hcg
        have h4f := HB.out.2.1.f r
        have HB2 : Hid (Arr 40 (wr.setCell ⟨w.heap.size + 1, r, none⟩ (.int .i64 (a + 1))) w.heap.size (ic4 fun _ => 0) ∧ Arr 40 (wr.setCell ⟨w.heap.size + 1, r, none⟩ (.int .i64 (a + 1))) (w.heap.size + 1) (ic4 (cs L (k + 1))) ∧ Below w.heap.size w (wr.setCell ⟨w.heap.size + 1, r, none⟩ (.int .i64 (a + 1)))) := Lib.hid ⟨HB.out.1.other (k := r) (.int .i64 (a + 1)) (by omega), by rw [← hset]; exact HB.out.2.1.set r (.int .i64 (a + 1)), HB.out.2.2.setCell (show w.heap.size ≤ (⟨w.heap.size + 1, r, none⟩ : Addr).block from Nat.le_succ _) _⟩
        clear hlt hcg hset hle2 ha hr hr4 he hid hsz hkn2
        go_wp2_with fail
        go_roundw
        case rel => exact ⟨k + 1, Lib.hid HLT.out, by go_num, HB2⟩
        case measure => have := HLT.out; simp [intOf]; omega
      · have hE : (v == id) = false := by simpa using he
        have hE' : decide (v = id) = false := decide_eq_false he
        rw [if_neg (fun h => he h.2)] at hid
        have hsame := cs_same hid
        have HB2 := HB
        rw [← hsame] at HB2
        clear hlt he hid hsame hsz
        go_wp2_with fail
        go_roundw
        case rel => exact ⟨k + 1, Lib.hid HLT.out, by go_num, HB2⟩
        case measure => have := HLT.out; simp [intOf]; omega
    · obtain rfl : n = k := Nat.le_antisymm (Nat.not_lt.1 hlt) HK.out
      obtain ⟨d0, d0'⟩ := end_facts n
      clear hlt HK
      obtain ⟨⟨a0, a1, a2, a3⟩, -⟩ := HB.out.2.1.four
      obtain ⟨⟨s0, s1, s2, s3⟩, q0, q1, q2, q3⟩ := HB.out.1.four
      obtain ⟨C, hC⟩ : ∃ C, cs (idr l id n n) n = C := ⟨_, rfl⟩
      have HCC := Lib.hid hC
      rw [hC] at HB a0 a1 a2 a3
      clear hC
      go_wp2_with fail
      have P9 := HB.out.1.put4 (.int .i64 (C 0)) (.int .i64 (C 1)) (.int .i64 (C 2)) (.int .i64 (C 3))
      obtain ⟨⟨z0, z1, z2, z3⟩, -⟩ := P9.four
      exact bodyPost_ret (v := iv4 C) (by simp [results, Try.results45, go_sem, z0, z1, z2, z3]) rfl ⟨by rw [HCC.out], below_set4 HB.out.2.2 (Nat.le_refl _) _ _ _ _⟩
/-- The class of something, by the class sums of where it is. -/
def Shp (C : Nat → Int) (a : Int) (b : Bool) : Prop := (b = false ∧ a = 0 ∧ (∃ r s, r < 4 ∧ s < 4 ∧ r ≠ s ∧ 0 < C r ∧ 0 < C s)) ∨ (b = false ∧ a = 0 ∧ ∀ r < 4, C r = 0) ∨ (b = true ∧ ∃ q : Nat, q < 4 ∧ a = (q : Int) ∧ 0 < C q ∧ ∀ r < 4, r ≠ q → C r = 0)
theorem Shp.one {C : Nat → Int} {a a' : Int} {b b' : Bool} (h : Shp C a b) (h' : Shp C a' b') : a = a' ∧ b = b' := by
  rcases h with ⟨rfl, rfl, r, s, hr, hs, hrs, h1, h2⟩ | ⟨rfl, rfl, hz⟩ | ⟨rfl, q, hq, rfl, h1, hz⟩ <;>
  rcases h' with ⟨rfl, rfl, r', s', hr', hs', hrs', h1', h2'⟩ | ⟨rfl, rfl, hz'⟩ | ⟨rfl, q', hq', rfl, h1', hz'⟩
  · exact ⟨rfl, rfl⟩
  · exact ⟨rfl, rfl⟩
  · exfalso
    by_cases e : r = q'
    · have := hz' s hs (by omega); omega
    · have := hz' r hr e; omega
  · exact ⟨rfl, rfl⟩
  · exact ⟨rfl, rfl⟩
  · have := hz q' hq'; omega
  · exfalso
    by_cases e : r' = q
    · have := hz s' hs' (by omega); omega
    · have := hz r' hr' e; omega
  · have := hz' q hq; omega
  · by_cases e : q = q'
    · subst e; exact ⟨rfl, rfl⟩
    · have := hz' q hq e; omega
theorem Shp.rh {l : List Int} {id : Int} {n : Nat} {a : Int} {b : Bool} (h : RhR (rhC l id n) a b) : Shp (cs (idr l id n n) n) a b := by
  have HRI := rh_inv l id n n (Nat.le_refl _)
  rcases h with ⟨ho, h1, h2⟩ | ⟨ho, h1, h2⟩ | ⟨h0, h4, ho, h2⟩
  · rcases HRI.2 with ⟨_, h⟩ | ⟨h, _⟩ | ⟨q, _, h, _⟩
    · exact .inl ⟨h2, h1, h⟩
    · rw [ho] at h; cases h
    · rw [ho] at h; cases h
  · rcases HRI.2 with ⟨h, _⟩ | ⟨_, h⟩ | ⟨q, hq, h, _⟩
    · rw [ho] at h; cases h
    · exact .inr (.inl ⟨h2, h1, h⟩)
    · rw [ho] at h; simp only [Option.some.injEq] at h; omega
  · rcases HRI.2 with ⟨h, _⟩ | ⟨h, _⟩ | ⟨q, hq, h, hp⟩
    · rw [ho] at h; cases h
    · rw [ho] at h; simp only [Option.some.injEq] at h; omega
    · rw [ho] at h; simp only [Option.some.injEq] at h; exact .inr (.inr ⟨h2, q, hq, h, hp⟩)
theorem shp_none {C : Nat → Int} (hn : ∀ r < 4, 0 ≤ C r) (h : ∀ r < 4, ¬ (0 < C r ∧ C r = C 0 + C 1 + C 2 + C 3)) : Shp C 0 false := by
  have n0 := hn 0 (by decide)
  have n1 := hn 1 (by decide)
  have n2 := hn 2 (by decide)
  have n3 := hn 3 (by decide)
  by_cases hz : C 0 = 0 ∧ C 1 = 0 ∧ C 2 = 0 ∧ C 3 = 0
  · exact .inr (.inl ⟨rfl, rfl, all4 hz.1 hz.2.1 hz.2.2.1 hz.2.2.2⟩)
  · have k0 := h 0 (by decide)
    have k1 := h 1 (by decide)
    have k2 := h 2 (by decide)
    have k3 := h 3 (by decide)
    refine .inl ⟨rfl, rfl, ?_⟩
    by_cases p0 : 0 < C 0
    · by_cases p1 : 0 < C 1
      · exact ⟨0, 1, by decide, by decide, by decide, p0, p1⟩
      · by_cases p2 : 0 < C 2
        · exact ⟨0, 2, by decide, by decide, by decide, p0, p2⟩
        · exact ⟨0, 3, by decide, by decide, by decide, p0, by omega⟩
    · by_cases p1 : 0 < C 1
      · by_cases p2 : 0 < C 2
        · exact ⟨1, 2, by decide, by decide, by decide, p1, p2⟩
        · exact ⟨1, 3, by decide, by decide, by decide, p1, by omega⟩
      · exact ⟨2, 3, by decide, by decide, by decide, by omega, by omega⟩
theorem shp_some {C : Nat → Int} {q : Nat} (hq : q < 4) (hn : ∀ r < 4, 0 ≤ C r) (h1 : 0 < C q) (h2 : C q = C 0 + C 1 + C 2 + C 3) : Shp C (q : Int) true := by
  have n0 := hn 0 (by decide)
  have n1 := hn 1 (by decide)
  have n2 := hn 2 (by decide)
  have n3 := hn 3 (by decide)
  refine .inr (.inr ⟨rfl, q, hq, rfl, h1, ?_⟩)
  rcases (show q = 0 ∨ q = 1 ∨ q = 2 ∨ q = 3 by omega) with rfl | rfl | rfl | rfl <;>
  refine all4 ?_ ?_ ?_ ?_ <;> intro hne <;> first | exact absurd rfl hne | omega

set_option maxRecDepth 20000 in
set_option maxHeartbeats 1600000 in
theorem refRhythm_any (A : Option Addr) (n c : Nat) (l : List Int) (id : Int) (w : World) (hs : Sees w 1 A n c (l.map (Value.int .i64))) (hn : n ≤ 10000) :
    Calls Try.prog 46 #[.slice A n c, .int .i64 id] w fun e w' => ∃ a b, e = .returned (.tuple #[.int .i64 a, .bool b]) ∧ Shp (cs (idr l id n n) n) a b ∧ Below w.heap.size w w' := by
  have HS := Lib.hid hs
  have HN := Lib.hid hn
  have HNN : Hid (∀ r < 4, 0 ≤ cs (idr l id n n) n r) := Lib.hid (rh_inv l id n n (Nat.le_refl _)).1
  have HLE : Hid (∀ r < 4, (cs (idr l id n n) n r).natAbs ≤ 10000) := Lib.hid fun r hr => Nat.le_trans (cs_le _ n r hr) (Nat.le_trans (idr_sz l id n n n) hn)
  obtain ⟨C, hC⟩ : ∃ C, cs (idr l id n n) n = C := ⟨_, rfl⟩
  have HC := Lib.hid hC
  rw [hC] at HNN HLE
  clear hs hn hC
  go_enter Try.func46, Try.ntmps46
  go_upto_region 2 with (go_at_call 45; refine (refCounts_any A n c l id _ HS.out HN.out).mono ?_; rw [HC.out]; rintro e w1 ⟨rfl, k1⟩; have B1 : Hid (Arr 40 (w1.alloc (.cells (ic4 C) 40)) w1.heap.size (ic4 C) ∧ Below w.heap.size w (w1.alloc (.cells (ic4 C) 40))) := Lib.hid ⟨Arr.new _ _ _, below_al k1 _⟩; clear k1)
  generalize w1.alloc (.cells (ic4 C) 40) = V at B1 ⊢
  generalize w1.heap.size = g1 at B1 ⊢
  go_wp2_with fail
  go_loopw [7] (fun iv wr => ∃ r : Nat, Hid (r ≤ 4) ∧ iv = .int .i64 (r : Int) ∧ Hid (∀ q < r, ¬ (0 < C q ∧ C q = C 0 + C 1 + C 2 + C 3)) ∧ Hid (Arr 40 wr g1 (ic4 C) ∧ Below w.heap.size w wr)) (fun iv _ => 4 - (intOf iv).toNat)
  case atStart => exact ⟨0, Lib.hid (Nat.zero_le _), rfl, Lib.hid (fun q hq => absurd hq (Nat.not_lt_zero _)), B1⟩
  case round =>
    clear B1
    obtain ⟨r, HR, rfl, HQ, HB⟩ := hrel
    by_cases hlt : r < 4
    · have d0 : decide ((r : Int) < 4) = true := by simp; omega
      have d0' : decide (r < 4) = true := by simp; omega
      have hr9 : (r : Int) < 4 := by omega
      obtain ⟨⟨a0, a1, a2, a3⟩, -⟩ := HB.out.1.four
      have e0 : wr.cell? ⟨g1, r, none⟩ = some (.int .i64 (C r)) := (HB.out.1.c r).trans (cs_get C r hlt)
      have l0 := HLE.out 0 (by decide)
      have l1 := HLE.out 1 (by decide)
      have l2 := HLE.out 2 (by decide)
      have l3 := HLE.out 3 (by decide)
      have hN2 : ¬ (0 < C r ∧ C r = C 0 + C 1 + C 2 + C 3) → ∀ q < r + 1, ¬ (0 < C q ∧ C q = C 0 + C 1 + C 2 + C 3) := fun h q hq => by
        rcases Nat.lt_or_ge q r with h' | h'
        · exact HQ.out q h'
        · obtain rfl : q = r := by omega
          exact h
      have hS2 : 0 < C r → C r = C 0 + C 1 + C 2 + C 3 → Shp C (r : Int) true := shp_some hlt HNN.out
      obtain ⟨c0, hc0⟩ : ∃ x, C 0 = x := ⟨_, rfl⟩
      obtain ⟨c1, hc1⟩ : ∃ x, C 1 = x := ⟨_, rfl⟩
      obtain ⟨c2, hc2⟩ : ∃ x, C 2 = x := ⟨_, rfl⟩
      obtain ⟨c3, hc3⟩ : ∃ x, C 3 = x := ⟨_, rfl⟩
      obtain ⟨x, hx⟩ : ∃ x, C r = x := ⟨_, rfl⟩
      rw [hc0] at a0 l0 hN2 hS2
      rw [hc1] at a1 l1 hN2 hS2
      rw [hc2] at a2 l2 hN2 hS2
      rw [hc3] at a3 l3 hN2 hS2
      rw [hx] at e0 hN2 hS2
      obtain ⟨s1, hs1⟩ : ∃ s, c0 + c1 = s := ⟨_, rfl⟩
      obtain ⟨s2, hs2⟩ : ∃ s, s1 + c2 = s := ⟨_, rfl⟩
      obtain ⟨s3, hs3⟩ : ∃ s, s2 + c3 = s := ⟨_, rfl⟩
      rw [hs1, hs2, hs3] at hN2 hS2
      have HSM : Hid (C 0 + C 1 + C 2 + C 3 = s3) := Lib.hid (by rw [hc0, hc1, hc2, hc3, hs1, hs2, hs3])
      have v1 : wrap64 (c0 + c1) = s1 := by rw [hs1]; exact IntWalk.wrap64_in _ (by omega)
      have v2 : wrap64 (s1 + c2) = s2 := by rw [hs2]; exact IntWalk.wrap64_in _ (by omega)
      have v3 : wrap64 (s2 + c3) = s3 := by rw [hs3]; exact IntWalk.wrap64_in _ (by omega)
      have v4 : IntKind.i64.wrap (c0 + c1) = s1 := by rw [hs1]; exact IntWalk.i64_in _ (by omega)
      have v5 : IntKind.i64.wrap (s1 + c2) = s2 := by rw [hs2]; exact IntWalk.i64_in _ (by omega)
      have v6 : IntKind.i64.wrap (s2 + c3) = s3 := by rw [hs3]; exact IntWalk.i64_in _ (by omega)
      have HLT := Lib.hid hlt
      have HN2 := Lib.hid hN2
      have HS2 := Lib.hid hS2
      clear hlt l0 l1 l2 l3 hN2 hS2 hc0 hc1 hc2 hc3 hx hs1 hs2 hs3
      by_cases hp : 0 < x
      · have f0 : decide (0 < x) = true := decide_eq_true hp
        by_cases he : x = s3
        · have y : (x == s3) = true := by simpa using he
          have y' : decide (x = s3) = true := decide_eq_true he
          have HR2 := Lib.hid (HS2.out hp he)
          clear hp he
          go_wp2_with fail
          go_quiet (fail)
          go_wp2_with fail
          go_ret2
          exact ⟨_, _, rfl, by rw [HC.out]; exact HR2.out, below_drewN HB.out.2 _⟩
        · have y : (x == s3) = false := by simpa using he
          have y' : decide (x = s3) = false := decide_eq_false he
          have HR2 := Lib.hid (HN2.out fun h => he h.2)
          clear hp he
          go_wp2_with fail
          go_quiet (fail)
          go_wp2_with fail
          go_roundw
          case rel => exact ⟨r + 1, Lib.hid HLT.out, by go_num, Lib.hid (by rw [HSM.out]; exact HR2.out), Lib.hid ⟨HB.out.1, below_drewN HB.out.2 _⟩⟩
          case measure => have := HLT.out; simp [intOf]; omega
      · have f0 : decide (0 < x) = false := decide_eq_false hp
        have HR2 := Lib.hid (HN2.out fun h => hp h.1)
        clear hp
        go_wp2_with fail
        go_quiet (fail)
        go_wp2_with fail
        go_roundw
        case rel => exact ⟨r + 1, Lib.hid HLT.out, by go_num, Lib.hid (by rw [HSM.out]; exact HR2.out), Lib.hid ⟨HB.out.1, below_drewN HB.out.2 _⟩⟩
        case measure => have := HLT.out; simp [intOf]; omega
    · obtain rfl : r = 4 := by have := HR.out; omega
      have d0 : decide ((4 : Int) < 4) = false := by decide
      have HR2 := Lib.hid (shp_none HNN.out HQ.out)
      clear hlt
      go_wp2_with fail
      go_ret2
      exact ⟨_, _, rfl, by rw [HC.out]; exact HR2.out, HB.out.2⟩
end Go.Proofs.Ythidfmkmklnhhaa
