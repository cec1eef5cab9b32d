/- Walks: the reference's Of. -/
import Derived.Test.YtemhoaleeefhhaaProg
import Derived.Test.YtemhoaleeefhhaaNa
import Derived.Test.YtemhoaleeefhhaaBl
import Derived.BigRegion
import Derived.Deep.RegionHeld3
namespace Go.Proofs.Ytemhoaleeefhhaa
open Go.RowKit
set_option linter.unusedVariables false

theorem or_add {x r : Nat} (h : x.testBit r = false) (hx : x < 2 ^ 64) (hr : r < 64) : x + 2 ^ r = x ||| 2 ^ r := by
  have hp : (2 : Nat) ^ r < 2 ^ 64 := Nat.pow_lt_pow_right (by decide) hr
  have ha : x &&& 2 ^ r = 0 := Nat.eq_of_testBit_eq fun j => by
    rw [Nat.testBit_and, Nat.testBit_two_pow, Nat.zero_testBit]
    by_cases hj : r = j
    · rw [← hj, h]; rfl
    · rw [decide_eq_false hj, Bool.and_false]
  have h1 := BitVec.add_eq_or_of_and_eq_zero (BitVec.ofNat 65 x) (BitVec.ofNat 65 (2 ^ r)) (by
    apply BitVec.eq_of_toNat_eq
    rw [BitVec.toNat_and, BitVec.toNat_ofNat, BitVec.toNat_ofNat, Nat.mod_eq_of_lt (by omega), Nat.mod_eq_of_lt (by omega), ha]; rfl)
  have h2 := congrArg BitVec.toNat h1
  rw [BitVec.toNat_add, BitVec.toNat_or, BitVec.toNat_ofNat, BitVec.toNat_ofNat, Nat.mod_eq_of_lt (a := x) (by omega), Nat.mod_eq_of_lt (a := 2 ^ r) (by omega), Nat.mod_eq_of_lt (by omega)] at h2
  exact h2
theorem add_p64 {x : Int} (h0 : 0 ≤ x) (h1 : x ≤ 18446744073709551615) {r : Nat} (hr : r < 64) (hb : x.toNat.testBit r = false) : IntKind.u64.wrap ((2 : Int) ^ r) = 2 ^ r ∧ IntKind.u64.wrap (x + 2 ^ r) = ((fOr x.toNat (2 ^ r) : Nat) : Int) := by
  refine ⟨(or_p64 h0 h1 hr).1, ?_⟩
  have h2 := or_add hb (by rw [e64]; omega) hr
  have h3 : x.toNat ||| 2 ^ r < 2 ^ 64 := Nat.or_lt_two_pow (by rw [e64]; omega) (Nat.pow_lt_pow_right (by decide) hr)
  have e : ((2 : Int) ^ r) = ((2 ^ r : Nat) : Int) := by push_cast; rfl
  unfold fOr
  rw [e64] at h3
  rw [e, ← h2]
  rw [← h2] at h3
  generalize 2 ^ r = p at h3
  rw [IntWalk.u64_in _ (by omega)]
  omega
theorem inB_same {l : List Int} {i : Nat} (hw : W64 l) (hi : i < 64 * l.length) (h : bt l i = true) : inB l i = l :=
  bt_ext (inB_w hw i) hw (inB_len l i) fun j _ => by
    rw [inB_bt hi]
    by_cases hj : j = i
    · rw [hj, h]; rfl
    · rw [decide_eq_false hj, Bool.or_false]

/-- What the loop of the reference's Of keeps. -/
structure OBS (w wr : World) (b6 n k : Nat) (A1 : Option Addr) (ws : List Int) : Prop where
  own : wr.ownsRow (w.heap.size + 1) 54 1 (.slice A1 k k) k (ws.map (Value.int .u64))
  bx0 : SetQ wr w.heap.size 0 none 0 0
  bx1 : SetQ wr b6 (n : Int) A1 k k
  bel : Below w.heap.size w wr
theorem OBS.drew {w wr : World} {b6 n k : Nat} {A1 : Option Addr} {ws : List Int} (h : OBS w wr b6 n k A1 ws) : OBS w wr.drew b6 n k A1 ws := ⟨h.own.drew, h.bx0, h.bx1, h.bel.drew⟩
abbrev OC (b6 ba o i k : Nat) (A1 : Option Addr) (wr : World) : Prop := wr.cell? ⟨b6, 1, none⟩ = some (.slice A1 k k) ∧ wr.cell? ⟨ba, o, none⟩ = some (.int .i64 (i : Int))
theorem keepO {w wr : World} {b6 n k ba o i : Nat} {A1 : Option Addr} {ws : List Int} (h : OC b6 ba o i k A1 wr ∧ OBS w wr b6 n k A1 ws) : OC b6 ba o i k A1 wr.drew ∧ OBS w wr.drew b6 n k A1 ws := ⟨h.1, h.2.drew⟩

set_option maxRecDepth 20000 in
set_option maxHeartbeats 1600000 in
theorem refOf_in (n : Nat) (A : Option Addr) (m c : Nat) (L : List Int) (w : World) (hn : n ≤ 65536) (hs : Sees w 1 A m c (L.map (Value.int .i64))) (hok : okAll n L) :
    Calls Try.prog 35 #[.int .i64 (n : Int), .slice A m c] w fun e w' => ∃ v, e = .returned v ∧ Made w w' n v (ofW n L) ∧ Below w.heap.size w w' := by
  have hl := hs.length
  have hcm : m ≤ 9223372036854775807 := Nat.le_trans hs.cap hs.capm
  have hba := (Below.refl w.heap.size w).alloc (Nat.le_refl _) (.cells #[.int .i64 0, .slice none 0 0] 55)
  have HB := Lib.hid hba
  have HX := Lib.hid (SetQ.new w 0 none 0 0)
  have HS := Lib.hid hs
  have HN := Lib.hid hn
  have HL := Lib.hid hl
  have HOK := Lib.hid hok
  have hn2 : (n : Int) ≤ 65536 := by omega
  obtain ⟨k, hk⟩ : ∃ k, (n + 63) / 64 = k := ⟨_, rfl⟩
  have hq : ((n : Int) + 63) / 64 = (k : Int) := by omega
  have hk2 : k ≤ 1024 := by omega
  have HK0 := Lib.hid hk
  clear hs hn hl hok hk hba
  go_enter Try.func35, Try.ntmps35
  go_wp2_with (at_make; refine wpList_mkF E_u64 rfl _ _ rfl k rfl rfl (by first | rfl | omega) (by first | rfl | omega) (by omega) (by simp [maxLen]; omega) ?_; intro w1 hown1 hg1 hb1; have HO := Lib.hid hown1; have HB1 := Lib.hid hb1; have X1 := Lib.hid (HX.out.below hb1 (Nat.le_refl _)); clear hown1 hb1 hg1)
  have O1 := HO.out
  rw [World.size_alloc] at O1
  have hz1 : w.heap.size < w1.heap.size := X1.out.lt
  have hz1b : w.heap.size + 1 ≤ w1.heap.size := hz1
  have HZ := Lib.hid hz1
  have O2 := Lib.hid (own_below O1 ((Below.refl _ _).alloc (Nat.le_refl _) (.cells #[.int .i64 (n : Int), .slice (some ⟨w.heap.size + 1, 0, none⟩) k k] 55)) (Nat.le_refl _))
  have B2 := Lib.hid ((below_step HB.out HB1.out).alloc (Nat.le_of_lt hz1) (.cells #[.int .i64 (n : Int), .slice (some ⟨w.heap.size + 1, 0, none⟩) k k] 55))
  have X2 := Lib.hid (X1.out.below ((Below.refl _ _).alloc (Nat.le_refl _) (.cells #[.int .i64 (n : Int), .slice (some ⟨w.heap.size + 1, 0, none⟩) k k] 55)) (Nat.le_refl _))
  have Y2 := Lib.hid (SetQ.new w1 (n : Int) (some ⟨w.heap.size + 1, 0, none⟩) k k)
  have NE := Lib.hid (fun e => by have h1 := (O1.lt w1.heap.size e).2; omega : (Value.slice (some ⟨w.heap.size + 1, 0, none⟩) k k).ownBlock ≠ some w1.heap.size)
  clear O1
  simp only [World.size_alloc] at *
  generalize hA1 : (some ⟨w.heap.size + 1, 0, none⟩ : Option Addr) = A1 at O2 B2 X2 Y2 NE ⊢
  generalize hW2 : w1.alloc (.cells #[.int .i64 (n : Int), .slice A1 k k] 55) = W2 at O2 B2 X2 Y2 ⊢
  generalize w1.heap.size = b6 at HZ Y2 NE hz1 hz1b ⊢
  clear hW2 X1 HX HB HB1 HO hA1
  go_loopw [6] (fun iv wr => ∃ j : Nat, Hid (j ≤ m) ∧ iv = .int .i64 (j : Int) ∧ Hid (wr.ownsRow (w.heap.size + 1) 54 1 (.slice A1 k k) k ((ofW n (L.take j)).map (Value.int .u64))) ∧ Hid (SetQ wr w.heap.size 0 none 0 0 ∧ SetQ wr b6 (n : Int) A1 k k) ∧ Hid (Below w.heap.size w wr)) (fun iv _ => m - (intOf iv).toNat)
  case atStart => exact ⟨0, Lib.hid (Nat.zero_le _), rfl, Lib.hid (by rw [List.take_zero, ofW_nil, HK0.out]; exact O2.out), Lib.hid ⟨X2.out, Y2.out⟩, B2⟩
  case round =>
    obtain ⟨j, HJ, rfl, HO, HX, HBW⟩ := hrel
    by_cases hlt : j < m
    · obtain ⟨ba, oa, rfl, g1⟩ := (HS.out.below HBW.out (Nat.le_refl _)).int hlt
      have ht := take_one (a := L) (k := j) (by rw [HL.out]; exact hlt)
      have hmem : L.getD j 0 ∈ L := by
        rw [List.getD, List.getElem?_eq_getElem (by rw [HL.out]; exact hlt)]; exact List.getElem_mem _
      generalize L.getD j 0 = x at g1 ht hmem
      have HT := Lib.hid ht
      have hx := HOK.out x hmem
      have hj2 : (j : Int) < (m : Int) := by omega
      have d0 : decide ((j : Int) < (m : Int)) = true := by simpa using hj2
      have HLT := Lib.hid hlt
      obtain ⟨i, rfl⟩ : ∃ i : Nat, x = (i : Int) := ⟨x.toNat, by omega⟩
      obtain ⟨ws, hws⟩ : ∃ ws, ofW n (L.take j) = ws := ⟨_, rfl⟩
      have hwl := ofW_len n (L.take j)
      have hww := ofW_w n (L.take j)
      rw [hws] at HO hwl hww
      have hkl : ws.length = k := by have := HO.out.1; simpa using this
      have hik : i < 64 * ws.length := by omega
      have HI9 := Lib.hid (show i ≤ 1000000000 by have := HN.out; omega)
      have hsx := Lib.hid (sees_own HO.out)
      have HWW := Lib.hid hww
      have y0 := HX.out.2.c0
      have y1 := HX.out.2.c1
      obtain ⟨b, hb⟩ : ∃ b, bt ws i = b := ⟨_, rfl⟩
      have HBT := Lib.hid hb
      have e0 := b1_eq0 b
      have hS0 : OC b6 ba (oa + j) i k A1 wr ∧ OBS w wr b6 n k A1 ws := ⟨⟨y1, g1⟩, ⟨HO.out, HX.out.1, HX.out.2, HBW.out⟩⟩
      cases b with
      | true =>
        have e1 : Hid (ofW n (L.take (j + 1)) = ws) := Lib.hid (by rw [ht, ofW_snoc, hws, Int.toNat_natCast]; exact inB_same hww hik hb)
        clear hlt ht hmem hx hws hwl hww hkl hik hb y0 y1 g1 hsx HO HX HBW
        go_wp2_with fail
        go_region_held3 (fun w' => OC b6 ba (oa + j) i k A1 w' ∧ OBS w w' b6 n k A1 ws) (first | exact keepO hS0 | assumption) ((go_at_call 64; refine (refBit_any A1 k k i ws _ (sees_own (OBS.own (And.right (by assumption)))) HWW.out HI9.out).mono ?_; rw [HBT.out]; rintro e w' ⟨rfl, rfl⟩))
        rename_i hH
        have HH := Lib.hid hH.2
        clear hH hS0
        go_wp2_with fail
        go_roundw
        case rel => exact ⟨j + 1, Lib.hid HLT.out, by go_num, Lib.hid (by rw [e1.out]; exact HH.out.own), Lib.hid ⟨HH.out.bx0, HH.out.bx1⟩, Lib.hid HH.out.bel⟩
        case measure => have := HLT.out; simp [intOf]; omega
      | false =>
        obtain ⟨q, hq⟩ : ∃ q : Nat, i / 64 = q := ⟨_, rfl⟩
        obtain ⟨r, hr⟩ : ∃ r : Nat, i % 64 = r := ⟨_, rfl⟩
        have hqk : q < k := by omega
        have hr64 : r < 64 := by omega
        have hu := hww.at_ q
        have hbt : (ws.getD q 0).toNat.testBit r = false := by rw [← hq, ← hr]; exact hb
        obtain ⟨p1, p2⟩ := add_p64 hu.1 hu.2 hr64 hbt
        have hin : inB ws i = ws.set q ((fOr (ws.getD q 0).toNat (2 ^ r) : Nat) : Int) := by unfold inB wd fOr; rw [hq, hr]
        obtain ⟨z, hz⟩ : ∃ z : Nat, fOr (ws.getD q 0).toNat (2 ^ r) = z := ⟨_, rfl⟩
        rw [hz] at p2 hin
        have e1 : Hid (ofW n (L.take (j + 1)) = ws.set q (z : Int)) := Lib.hid (by rw [ht, ofW_snoc, hws, Int.toNat_natCast]; exact hin)
        generalize hux : ws.getD q 0 = x at hu p2
        have HUX := Lib.hid hux
        have hq1 : (i : Int) / 64 = (q : Int) := by omega
        have hr1 : (i : Int) % 64 = (r : Int) := by omega
        have hr2 : (r : Int) ≤ 63 := by omega
        have hq2 : (q : Int) < (k : Int) := by omega
        have hi0 : (0 : Int) ≤ (i : Int) := by omega
        have htm : (i : Int).tmod 64 = (r : Int) := by rw [Int.tmod_eq_emod_of_nonneg (by omega)]; exact hr1
        have htd : (i : Int).tdiv 64 = (q : Int) := by rw [Int.tdiv_eq_ediv_of_nonneg (by omega)]; exact hq1
        have hwq : IntKind.i64.wrap (q : Int) = (q : Int) := IntWalk.i64_in _ (by omega)
        have hwr : IntKind.i64.wrap (r : Int) = (r : Int) := IntWalk.i64_in _ (by omega)
        have HQ := Lib.hid hqk
        clear hlt ht hmem hx hws hwl hww hkl hik hb y0 y1 g1 hsx HO HX HBW hq hr hqk hr64 hbt hin hz hux
        go_wp2_with fail
        go_region_held3 (fun w' => OC b6 ba (oa + j) i k A1 w' ∧ OBS w w' b6 n k A1 ws) (first | exact keepO hS0 | assumption) ((go_at_call 64; refine (refBit_any A1 k k i ws _ (sees_own (OBS.own (And.right (by assumption)))) HWW.out HI9.out).mono ?_; rw [HBT.out]; rintro e w' ⟨rfl, rfl⟩))
        rename_i hH
        have HH := Lib.hid hH.2
        obtain ⟨y1, g1⟩ := hH.1
        clear hH hS0
        obtain ⟨g, c', hv, hgb⟩ := own_addrK HH.out.own (by have := HQ.out; omega)
        cases hv
        obtain ⟨u0, u1⟩ := own_cellK HH.out.own HQ.out
        rw [HUX.out] at u0
        obtain ⟨hu0, hu1⟩ := hu
        have NEb : b6 ≠ g := fun e => NE.out (by rw [← e]; rfl)
        have HNG := Lib.hid (And.intro hgb NEb)
        clear hgb NEb
        go_wp2_with fail
        go_region
        go_wp2
        go_roundw
        case rel =>
          have hset := own_setK HH.out.own q (z : Int)
          have hne : w.heap.size ≠ g := by have := HNG.out.1; omega
          exact ⟨j + 1, Lib.hid HLT.out, by go_num, Lib.hid (by rw [e1.out]; exact hset.drew), Lib.hid ⟨(Below.heap_setCell _ _ _ _ hne).trans HH.out.bx0, (Below.heap_setCell _ _ _ _ HNG.out.2).trans HH.out.bx1⟩, Lib.hid (HH.out.bel.setCell (by show w.heap.size ≤ g; have := HNG.out.1; omega) _).drew⟩
        case measure => have := HLT.out; simp [intOf]; omega
    · have hjm : j = m := by have := HJ.out; omega
      have d0 : decide ((j : Int) < (m : Int)) = false := by simp; omega
      have d0' : decide (j < m) = false := by simp; omega
      have hall : L.take j = L := by rw [hjm]; exact List.take_of_length_le (by rw [HL.out]; exact Nat.le_refl _)
      rw [hall] at HO
      have x0 := HX.out.1.c0
      have x1 := HX.out.1.c1
      have f0 := HX.out.1.f 0
      have f1 := HX.out.1.f 1
      have y0 := HX.out.2.c0
      have y1 := HX.out.2.c1
      clear hlt hjm hall
      go_wp2
      have P9 := HX.out.1.put (N' := n) (A' := A1) (n' := k) (c' := k)
      have z0 := P9.c0
      have z1 := P9.c1
      exact bodyPost_ret (v := setv n A1 k k) (by simp [results, Try.results35, go_sem, z0, z1]) rfl ⟨_, rfl, ⟨_, _, _, rfl, own_base (ownsRow_setCell_below (ownsRow_setCell_below HO.out (Nat.lt_succ_self _) _) (Nat.lt_succ_self _) _) (by omega)⟩, below_put HBW.out (Nat.le_refl _) _ _⟩
end Go.Proofs.Ytemhoaleeefhhaa
