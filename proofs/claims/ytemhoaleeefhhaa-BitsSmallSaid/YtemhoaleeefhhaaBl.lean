/- Walks: Of. -/
import Derived.Test.YtemhoaleeefhhaaProg
import Derived.Test.YtemhoaleeefhhaaBk
import Derived.Test.YtemhoaleeefhhaaQ5
namespace Go.Proofs.Ytemhoaleeefhhaa
open Go.RowKit
set_option linter.unusedVariables false

theorem fMin_eq {x y : Nat} (hx : x < 18446744073709551616) (hy : y < 18446744073709551616) : x &&& (18446744073709551615 - y) = fMin x y := by
  unfold fMin
  refine Nat.eq_of_testBit_eq fun i => ?_
  have e : 18446744073709551615 - y = 2 ^ 64 - (y + 1) := by rw [e64]; omega
  rw [Nat.testBit_and, e, Nat.testBit_two_pow_sub_succ (by rw [e64]; exact hy), Nat.testBit_xor, Nat.testBit_and]
  by_cases hi : i < 64
  · simp [hi]; cases x.testBit i <;> cases y.testBit i <;> rfl
  · have hp : (2 : Nat) ^ 64 ≤ 2 ^ i := Nat.pow_le_pow_right (by decide) (by omega)
    rw [e64] at hp
    have : x.testBit i = false := Nat.testBit_lt_two_pow (by omega)
    simp [this]
theorem or_p64 {x : Int} (h0 : 0 ≤ x) (h1 : x ≤ 18446744073709551615) {r : Nat} (hr : r < 64) : IntKind.u64.wrap ((2 : Int) ^ r) = 2 ^ r ∧ bits BinOp.or IntKind.u64 x (2 ^ r) = ((fOr x.toNat (2 ^ r) : Nat) : Int) := by
  have hp : (2 : Nat) ^ r < 2 ^ 64 := Nat.pow_lt_pow_right (by decide) hr
  rw [e64] at hp
  have e : ((2 : Int) ^ r) = ((2 ^ r : Nat) : Int) := by push_cast; rfl
  rw [e]
  generalize 2 ^ r = p at hp
  refine ⟨IntWalk.u64_in _ (by omega), ?_⟩
  rw [u64_or x _ h0 (by omega) (by omega) (by omega), Int.toNat_natCast]; rfl

/-- The set of some numbers. -/
def ofW (n : Nat) (L : List Int) : List Int := L.foldl (fun zs x => inB zs x.toNat) (List.replicate ((n + 63) / 64) 0)
theorem ofW_nil (n : Nat) : ofW n [] = List.replicate ((n + 63) / 64) 0 := rfl
theorem ofW_snoc (n : Nat) (L : List Int) (x : Int) : ofW n (L ++ [x]) = inB (ofW n L) x.toNat := by
  unfold ofW; rw [List.foldl_append]; rfl
/-- All numbers are below n. -/
def okAll (n : Nat) (L : List Int) : Prop := ∀ x ∈ L, 0 ≤ x ∧ x < (n : Int)
theorem ofW_rec (n : Nat) (P : List Int → List Int → Prop) (h0 : P [] (List.replicate ((n + 63) / 64) 0)) (hs : ∀ L x zs, P L zs → P (L ++ [x]) (inB zs x.toNat)) : ∀ L, P L (ofW n L) := by
  intro L
  have : ∀ (K L : List Int) (zs : List Int), P L zs → P (L ++ K) (K.foldl (fun zs x => inB zs x.toNat) zs) := by
    intro K
    induction K with
    | nil => intro L zs h; simpa using h
    | cons x K ih =>
      intro L zs h
      rw [List.foldl_cons]
      have := ih _ _ (hs L x zs h)
      simpa using this
  have := this L [] _ h0
  rwa [List.nil_append] at this
theorem ofW_len (n : Nat) (L : List Int) : (ofW n L).length = (n + 63) / 64 :=
  ofW_rec n (fun _ zs => zs.length = (n + 63) / 64) (by simp) (fun _ _ _ h => by rw [inB_len, h]) L
theorem ofW_w (n : Nat) (L : List Int) : W64 (ofW n L) :=
  ofW_rec n (fun _ zs => W64 zs) (W64.zeros _) (fun _ _ _ h => inB_w h _) L
theorem ofW_bt {n : Nat} {L : List Int} (h : okAll n L) (i : Nat) : bt (ofW n L) i = decide ((i : Int) ∈ L) := by
  have : ∀ K, (fun L zs => okAll n L → (zs : List Int).length = (n + 63) / 64 ∧ bt zs i = decide ((i : Int) ∈ L)) K (ofW n K) := by
    refine ofW_rec n (fun L zs => okAll n L → (zs : List Int).length = (n + 63) / 64 ∧ bt zs i = decide ((i : Int) ∈ L)) (fun _ => ⟨by simp, by rw [bt_zeros]; simp⟩) ?_
    intro K x zs ih hok
    have hx := hok x (by simp)
    obtain ⟨h1, h2⟩ := ih (fun y hy => hok y (by simp [hy]))
    refine ⟨by rw [inB_len, h1], ?_⟩
    rw [inB_bt (by rw [h1]; omega), h2]
    rw [Bool.eq_iff_iff]
    have e : i = x.toNat ↔ (i : Int) = x := by omega
    simp [e]
  exact (this L h).2
theorem ofW_right {n : Nat} {L : List Int} (hn : n ≤ 65536) (h : okAll n L) : RightW (n : Int) (ofW n L) :=
  RightW.of_bits (ofW_w n L) (by omega) (by omega) (by rw [ofW_len]; omega) fun i hi _ => by
    rw [ofW_bt h, decide_eq_false_iff_not]
    intro hm
    have := h _ hm
    omega
theorem okAll_snoc {n : Nat} {L : List Int} {x : Int} (h : okAll n L) (h0 : 0 ≤ x) (h1 : x < (n : Int)) : okAll n (L ++ [x]) := by
  intro y hy
  rcases List.mem_append.1 hy with hy | hy
  · exact h y hy
  · rw [List.mem_singleton.1 hy]; exact ⟨h0, h1⟩

set_option maxRecDepth 20000 in
set_option maxHeartbeats 1600000 in
theorem Of_in (n : Nat) (A : Option Addr) (m c : Nat) (L : List Int) (w : World) (hn : n ≤ 65536) (hs : Sees w 1 A m c (L.map (Value.int .i64))) :
    Calls Try.prog 24 #[.int .i64 (n : Int), .slice A m c] w fun e w' => ((okAll n L ∧ ∃ v, e = .returned (.tuple #[v, .int .i64 0]) ∧ Made w w' n v (ofW n L)) ∨ (¬ okAll n L ∧ e = .returned (.tuple #[setv 0 none 0 0, .int .i64 2]))) ∧ Below w.heap.size w w' := by
  have hl := hs.length
  have hcm : m ≤ 9223372036854775807 := Nat.le_trans hs.cap hs.capm
  have HB := Lib.hid ((Below.refl w.heap.size w).alloc (Nat.le_refl _) (.cells #[.int .i64 0, .slice none 0 0] 24))
  have HX := Lib.hid (SetB.new w 0 none 0 0)
  have HS := Lib.hid hs
  have HN := Lib.hid hn
  have HL := Lib.hid hl
  have hn2 : (n : Int) ≤ 65536 := by omega
  clear hs hn hl
  go_enter Try.func24, Try.ntmps24
  go_wp2_with (go_at_call 37; refine (New_ok n _ HN.out).mono ?_; rintro e w1 ⟨v, rfl, ⟨A1, k, c1, rfl, ho1⟩, b1⟩; have B1 := Lib.hid b1; have O1 := Lib.hid ho1; have X1 := Lib.hid (HX.out.below b1 (Nat.le_refl _)); clear ho1 b1)
  have hz1 : w.heap.size < w1.heap.size := X1.out.lt
  have hz1b : w.heap.size + 1 ≤ w1.heap.size := hz1
  have HZ := Lib.hid hz1
  have O2 := Lib.hid (own_base (base' := w.heap.size + 1) (own_below O1.out ((Below.refl _ _).alloc (Nat.le_refl _) (.cells #[.int .i64 (n : Int), .slice A1 k c1] 24)) (Nat.le_refl _)) (by rw [World.size_alloc]; exact Nat.le_refl _))
  have B2 := Lib.hid ((below_step HB.out B1.out).alloc (Nat.le_of_lt hz1) (.cells #[.int .i64 (n : Int), .slice A1 k c1] 24))
  have X2 := Lib.hid (X1.out.alloc (.cells #[.int .i64 (n : Int), .slice A1 k c1] 24))
  have Y2 := Lib.hid (SetB.new w1 (n : Int) A1 k c1)
  have NE := Lib.hid (fun e => by have h1 := (O1.out.lt w1.heap.size e).2; omega : (Value.slice A1 k c1).ownBlock ≠ some w1.heap.size)
  generalize hW2 : w1.alloc (.cells #[.int .i64 (n : Int), .slice A1 k c1] 24) = W2 at O2 B2 X2 Y2 ⊢
  generalize w1.heap.size = b6 at HZ Y2 NE hz1 hz1b ⊢
  clear hW2 O1 B1 X1 HX HB
  go_loopw [21] (fun iv wr => ∃ j : Nat, Hid (j ≤ m) ∧ iv = .int .i64 (j : Int) ∧ Hid (okAll n (L.take j)) ∧ Hid (wr.ownsRow (w.heap.size + 1) 54 1 (.slice A1 k c1) k ((ofW n (L.take j)).map (Value.int .u64))) ∧ Hid (SetB wr w.heap.size 0 none 0 0 ∧ SetB wr b6 (n : Int) A1 k c1) ∧ Hid (Below w.heap.size w wr)) (fun iv _ => m - (intOf iv).toNat)
  case atStart => exact ⟨0, Lib.hid (Nat.zero_le _), rfl, Lib.hid (by intro x hx; simp at hx), Lib.hid (by rw [List.take_zero, ofW_nil]; exact O2.out), Lib.hid ⟨X2.out, Y2.out⟩, B2⟩
  case round =>
    obtain ⟨j, HJ, rfl, HK, HO, HX, HBW⟩ := hrel
    by_cases hlt : j < m
    · obtain ⟨ba, oa, rfl, g1⟩ := (HS.out.below HBW.out (Nat.le_refl _)).int hlt
      have ht := take_one (a := L) (k := j) (by rw [HL.out]; exact hlt)
      have hmem : L.getD j 0 ∈ L := by
        rw [List.getD, List.getElem?_eq_getElem (by rw [HL.out]; exact hlt)]; exact List.getElem_mem _
      generalize L.getD j 0 = x at g1 ht hmem
      have HT := Lib.hid ht
      have HM := Lib.hid hmem
      have hj2 : (j : Int) < (m : Int) := by omega
      have d0 : decide ((j : Int) < (m : Int)) = true := by simpa using hj2
      have HLT := Lib.hid hlt
      clear hlt ht hmem
      by_cases hx0 : x < 0
      · have d1 : decide (x < 0) = true := by simpa using hx0
        have hnot : ¬ okAll n L := fun h => by have := h x HM.out; omega
        have HNO := Lib.hid hnot
        have x0 := HX.out.1.c0
        have x1 := HX.out.1.c1
        have f0 := HX.out.1.f 0
        have f1 := HX.out.1.f 1
        clear hx0 hnot
        go_wp2
        have P9 := HX.out.1.put (N' := 0) (A' := none) (n' := 0) (c' := 0)
        have z0 := P9.c0
        have z1 := P9.c1
        exact bodyPost_ret (v := .tuple #[setv 0 none 0 0, .int .i64 2]) (by simp [results, Try.results24, go_sem, z0, z1]) rfl ⟨.inr ⟨HNO.out, rfl⟩, below_put HBW.out (Nat.le_refl _) _ _⟩
      · have d1 : decide (x < 0) = false := by simpa using hx0
        by_cases hxn : (n : Int) ≤ x
        · have d2 : decide ((n : Int) ≤ x) = true := by simpa using hxn
          have hnot : ¬ okAll n L := fun h => by have := h x HM.out; omega
          have HNO := Lib.hid hnot
          have x0 := HX.out.1.c0
          have x1 := HX.out.1.c1
          have f0 := HX.out.1.f 0
          have f1 := HX.out.1.f 1
          clear hx0 hxn hnot
          go_wp2
          have P9 := HX.out.1.put (N' := 0) (A' := none) (n' := 0) (c' := 0)
          have z0 := P9.c0
          have z1 := P9.c1
          exact bodyPost_ret (v := .tuple #[setv 0 none 0 0, .int .i64 2]) (by simp [results, Try.results24, go_sem, z0, z1]) rfl ⟨.inr ⟨HNO.out, rfl⟩, below_put HBW.out (Nat.le_refl _) _ _⟩
        · have d2 : decide ((n : Int) ≤ x) = false := by simpa using hxn
          obtain ⟨i, rfl⟩ : ∃ i : Nat, x = (i : Int) := ⟨x.toNat, by omega⟩
          obtain ⟨ws, hws⟩ : ∃ ws, ofW n (L.take j) = ws := ⟨_, rfl⟩
          have hwl := ofW_len n (L.take j)
          have hww := ofW_w n (L.take j)
          rw [hws] at HO hwl hww
          have hkl : ws.length = k := by have := HO.out.1; simpa using this
          obtain ⟨q, hq⟩ : ∃ q : Nat, i / 64 = q := ⟨_, rfl⟩
          obtain ⟨r, hr⟩ : ∃ r : Nat, i % 64 = r := ⟨_, rfl⟩
          have hqk : q < k := by omega
          have hr64 : r < 64 := by omega
          obtain ⟨g, c', hv, hgb⟩ := own_addrK HO.out (by omega)
          cases hv
          obtain ⟨u0, u1⟩ := own_cellK HO.out hqk
          have hsx := sees_own HO.out
          have hu := hww.at_ q
          obtain ⟨p1, p2⟩ := or_p64 hu.1 hu.2 hr64
          have hin : inB ws i = ws.set q ((fOr (ws.getD q 0).toNat (2 ^ r) : Nat) : Int) := by unfold inB wd fOr; rw [hq, hr]
          have HIN := Lib.hid hin
          have HWS := Lib.hid hws
          obtain ⟨z, hz⟩ : ∃ z : Nat, fOr (ws.getD q 0).toNat (2 ^ r) = z := ⟨_, rfl⟩
          rw [hz] at p2
          have HZZ := Lib.hid hz
          generalize hux : ws.getD q 0 = x at u0 hu p2
          obtain ⟨hu0, hu1⟩ := hu
          have y0 := HX.out.2.c0
          have y1 := HX.out.2.c1
          have hi0 : (0 : Int) ≤ (i : Int) := by omega
          have hq1 : (i : Int) / 64 = (q : Int) := by omega
          have hr1 : (i : Int) % 64 = (r : Int) := by omega
          have hr2 : (r : Int) ≤ 63 := by omega
          have hq2 : (q : Int) < (k : Int) := by omega
          have hi1 : (i : Int) < (n : Int) := by omega
          have HI1 := Lib.hid hi1
          have htm : (i : Int).tmod 64 = (r : Int) := by rw [Int.tmod_eq_emod_of_nonneg (by omega)]; exact hr1
          have htd : (i : Int).tdiv 64 = (q : Int) := by rw [Int.tdiv_eq_ediv_of_nonneg (by omega)]; exact hq1
          have hwq : IntKind.i64.wrap (q : Int) = (q : Int) := IntWalk.i64_in _ (by have := HN.out; omega)
          have hwr : IntKind.i64.wrap (r : Int) = (r : Int) := IntWalk.i64_in _ (by omega)
          have NEb : b6 ≠ g := fun e => NE.out (by rw [← e]; rfl)
          have HNG := Lib.hid (And.intro hgb NEb)
          clear hx0 hxn hin hws hz hwl hww hkl hqk hr64 hsx hq hr hgb NEb hux
          go_wp2_with fail
          go_region
          go_wp2
          go_roundw
          case rel =>
            have hset := own_setK HO.out q (z : Int)
            have e1 : ofW n (L.take (j + 1)) = ws.set q (z : Int) := by
              rw [HT.out, ofW_snoc, HWS.out, Int.toNat_natCast, HIN.out, HZZ.out]
            have hne : w.heap.size ≠ g := by have := HNG.out.1; omega
            exact ⟨j + 1, Lib.hid HLT.out, by go_num, Lib.hid (by rw [HT.out]; exact okAll_snoc HK.out (by omega) HI1.out), Lib.hid (by rw [e1]; exact hset.drew), Lib.hid ⟨(Below.heap_setCell _ _ _ _ hne).trans HX.out.1, (Below.heap_setCell _ _ _ _ HNG.out.2).trans HX.out.2⟩, Lib.hid (HBW.out.setCell (by show w.heap.size ≤ g; have := HNG.out.1; omega) _).drew⟩
          case measure => have := HLT.out; simp [intOf]; omega
    · have hjm : j = m := by have := HJ.out; omega
      have d0 : decide ((j : Int) < (m : Int)) = false := by simp; omega
      have d0' : decide (j < m) = false := by simp; omega
      have hall : L.take j = L := by rw [hjm]; exact List.take_of_length_le (by rw [HL.out]; exact Nat.le_refl _)
      rw [hall] at HK HO
      have x0 := HX.out.1.c0
      have x1 := HX.out.1.c1
      have f0 := HX.out.1.f 0
      have f1 := HX.out.1.f 1
      have y0 := HX.out.2.c0
      have y1 := HX.out.2.c1
      clear hlt hjm hall
      go_wp2
      have P9 := HX.out.1.put (N' := n) (A' := A1) (n' := k) (c' := c1)
      have z0 := P9.c0
      have z1 := P9.c1
      exact bodyPost_ret (v := .tuple #[setv n A1 k c1, .int .i64 0]) (by simp [results, Try.results24, go_sem, z0, z1]) rfl ⟨.inl ⟨HK.out, _, rfl, _, _, _, rfl, own_base (ownsRow_setCell_below (ownsRow_setCell_below HO.out (Nat.lt_succ_self _) _) (Nat.lt_succ_self _) _) (by omega)⟩, below_put HBW.out (Nat.le_refl _) _ _⟩
end Go.Proofs.Ytemhoaleeefhhaa
