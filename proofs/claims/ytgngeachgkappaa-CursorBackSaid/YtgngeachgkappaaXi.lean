/- Walks: pieces: fixed, write. -/
import Derived.Test.YtgngeachgkappaaProg
import Derived.Test.YtgngeachgkappaaXa
import Derived.Test.YtgngeachgkappaaWl
namespace Go.Proofs.Ytgngeachgkappaa
open Go.RowKit
set_option linter.unusedVariables false

/-- A piece's fields: kind, n, x, the slice, what it shows. -/
abbrev PieceV := Nat × Nat × Nat × Option Addr × Nat × Nat × List Int
def pcCells (a : PieceV) : List Value := [.int .u8 (a.1 : Int), .int .u8 (a.2.1 : Int), .int .u64 (a.2.2.1 : Int), .slice a.2.2.2.1 a.2.2.2.2.1 a.2.2.2.2.2.1]
/-- The bytes that a piece is written as. -/
def pcBytes (kd n x : Nat) (l : List Int) : List Int :=
  if kd % 4 = 0 then [(n : Int)] else if kd % 4 = 1 then l.take 30 else if kd % 4 = 2 then leB (1 + n % 8) (x % 256 ^ (1 + n % 8)) else enc x

theorem mask_bits {x k : Nat} (hx : x < 18446744073709551616) (hk : k < 8) : bits .and .u64 (x : Int) (IntKind.u64.wrap (IntKind.u64.wrap ((2 : Int) ^ (8 * k)) - 1)) = ((x % 256 ^ k : Nat) : Int) := by
  rw [wrap_pow hk, Int.natCast_pow]
  have e : (256 : Nat) ^ k = 2 ^ (8 * k) := by rw [Nat.pow_mul]
  have h1 : 256 ^ k ≤ 256 ^ 7 := Nat.pow_le_pow_right (by decide) (by omega)
  have h1 : 256 ^ k ≤ 72057594037927936 := Nat.le_trans h1 (by decide)
  have h0 : 0 < 256 ^ k := Nat.pow_pos (by decide)
  have ei : ((256 : Nat) : Int) ^ k = ((256 ^ k : Nat) : Int) := by rw [Int.natCast_pow]
  have hw : IntKind.u64.wrap (((256 : Nat) : Int) ^ k - 1) = ((256 ^ k - 1 : Nat) : Int) := by
    rw [ei]
    generalize 256 ^ k = P at h1 h0
    have : ((P : Nat) : Int) - 1 = ((P - 1 : Nat) : Int) := by omega
    rw [this]
    exact IntWalk.u64_in _ (by omega)
  rw [hw, u64_and_nat x _ hx (by omega), e, Nat.and_two_pow_sub_one_eq_mod]

set_option maxRecDepth 20000 in
set_option maxHeartbeats 1600000 in
theorem fixed_any (kd n x ny cy : Nat) (Y : Option Addr) (w : World) (hn : n < 256) (hx : x < 18446744073709551616) :
    Calls Try.prog 35 #[.agg #[.int .u8 (kd : Int), .int .u8 (n : Int), .int .u64 (x : Int), .slice Y ny cy]] w fun e w' => e = .returned (.tuple #[.int .i64 ((1 + n % 8 : Nat) : Int), .int .u64 ((x % 256 ^ (1 + n % 8) : Nat) : Int)]) ∧ Below w.heap.size w w' := by
  obtain ⟨k, hk, hk1, hk8⟩ : ∃ k : Nat, 1 + n % 8 = k ∧ 1 ≤ k ∧ k ≤ 8 := ⟨1 + n % 8, by omega, by omega, by omega⟩
  have hki : 1 + (n : Int) % 8 = (k : Int) := by omega
  have BL := (Below.refl w.heap.size w).alloc (Nat.le_refl _) (.cells #[.int .u8 (kd : Int), .int .u8 (n : Int), .int .u64 (x : Int), .slice Y ny cy] 33)
  rw [hk]
  by_cases h8 : k = 8
  · subst h8
    have e : x % 256 ^ 8 = x := Nat.mod_eq_of_lt (by simpa using hx)
    rw [e]
    have h9 : 1 + (n : Int) % 8 = 8 := hki
    clear hk hk1 hk8 hki
    go_enter Try.func35, Try.ntmps35
    go_wp2_with fail
    go_quiet (fail)
    go_wp2
    go_ret2
    exact ⟨rfl, below_drewN BL _⟩
  · have d1 : decide ((k : Int) = 8) = false := by simp; omega
    have hk7 : k < 8 := by omega
    have hm := mask_bits hx hk7
    clear hk h8
    go_enter Try.func35, Try.ntmps35
    go_wp2_with fail
    go_quiet (fail)
    go_wp2
    go_ret2
    refine ⟨?_, below_drewN BL _⟩
    show Ending.returned (.tuple #[.int .i64 (k : Int), .int .u64 ((x : Int) % 256 ^ k)]) = _
    rw [Int.natCast_emod, Int.natCast_pow]
    rfl

theorem WDid.pre {base p n c lim : Nat} {A : Option Addr} {bs : List Int} {w w1 w' : World} (hb : Below w.heap.size w w1) (h : WDid base p lim A n c w1 bs w') : WDid base p lim A n c w bs w' := by
  obtain ⟨A', c', h1, h2, h3⟩ := h
  exact ⟨A', c', h1, (Both.of_below hb).trans h2, lies_drop h3 hb.size⟩
theorem WDid.post {base p n c lim : Nat} {A : Option Addr} {bs : List Int} {w w1 w' : World} (h : WDid base p lim A n c w bs w1) (hb : Below w1.heap.size w1 w') : WDid base p lim A n c w bs w' := by
  obtain ⟨A', c', h1, h2, h3⟩ := h
  exact ⟨A', c', h1.below hb, h2.trans (Both.of_below hb), h3⟩
theorem step_wpX {P : Program} {ops : Array Oper} {o : Oper} {a : Act} {K : Act → World → Prop} {Q : Exit → Act → World → Prop} {w : World} {F : Prop} (hgd : o.guard = none) (h : o.wp P a w K Q) :
    if Region.wanted o (yielded ops a.tmps) = true then Oper.wp P o a w K Q else F := by
  rw [if_pos (by simp [Region.wanted, hgd])]; exact h
/-- What holds behind a call of a writer of a block that it does not own. -/
theorem did_cell {base p n c lim : Nat} {A : Option Addr} {bs' : List Int} {w w' : World} (h : WDid base p lim A n c w bs' w') {g k : Nat} (hg : g < w.heap.size) (hp : g ≠ p) (ho : (Value.slice A n c).ownBlock ≠ some g) : w'.cell? ⟨g, k, none⟩ = w.cell? ⟨g, k, none⟩ := by
  obtain ⟨_, _, _, h2, _⟩ := h
  exact World.cell?_of_block (h2.block g hg hp (fun e => ho e.symm))
theorem putFixedF_low (bs : List Int) (lim x n : Nat) : putFixedF bs lim (x % 256 ^ (1 + n % 8)) (((1 + n % 8 : Nat) : Int)) = putF bs lim (leB (1 + n % 8) (x % 256 ^ (1 + n % 8))) := by
  obtain ⟨k, hk, hk1, hk8⟩ : ∃ k : Nat, 1 + n % 8 = k ∧ 1 ≤ k ∧ k ≤ 8 := ⟨1 + n % 8, by omega, by omega, by omega⟩
  rw [hk]
  unfold putFixedF
  have h2 : x % 256 ^ k < 256 ^ k := Nat.mod_lt _ (Nat.pow_pos (by decide))
  rw [if_neg (by rw [Int.toNat_natCast]; omega), Int.toNat_natCast]

set_option maxRecDepth 20000 in
set_option maxHeartbeats 1600000 in
theorem write_any (kd m x ny cy base p n c lim : Nat) (Y A : Option Addr) (l bs : List Int) (w : World) (hk : kd < 256) (hm : m < 256) (hx : x < 18446744073709551616) (hy : Sees w 1 Y ny cy (l.map (Value.int .u8))) (h : Wtr w base p A n c bs lim) (hB : base ≤ w.heap.size) :
    Calls Try.prog 13 #[.agg #[.int .u8 (kd : Int), .int .u8 (m : Int), .int .u64 (x : Int), .slice Y ny cy], .pointer (some ⟨p, 0, none⟩)] w fun e w' =>
      e = .returned (.tuple #[.int .i64 ((pcBytes kd m x l).length : Int), .int .i64 (putF bs lim (pcBytes kd m x l)).2]) ∧ WDid base p lim A n c w (putF bs lim (pcBytes kd m x l)).1 w' := by
  have BL := Lib.hid ((Below.refl w.heap.size w).alloc (Nat.le_refl _) (.cells #[.int .u8 (kd : Int), .int .u8 (m : Int), .int .u64 (x : Int), .slice Y ny cy] 33))
  have HW := Lib.hid (h.below BL.out)
  have HY := Lib.hid (hy.below BL.out (Nat.le_refl _))
  have HBS := Lib.hid (Nat.le_trans hB BL.out.size)
  have HX := Lib.hid hx
  have HM := Lib.hid hm
  unfold pcBytes
  have r4 : kd % 4 = 0 ∨ kd % 4 = 1 ∨ kd % 4 = 2 ∨ kd % 4 = 3 := by omega
  have HP := Lib.hid h.plt
  have HO : Hid (∀ q, (Value.slice A n c).ownBlock = some q → q < w.heap.size) := Lib.hid (fun q hq => (h.own.lt q hq).2)
  clear hx hm hy h hB
  rcases r4 with r | r | r | r
  · rw [if_pos r]
    have ri : (kd : Int) % 4 = 0 := by omega
    clear r
    go_enter Try.func13, Try.ntmps13
    go_wp2_with (first
      | (go_at_call 27; refine (ByteW_any _ _ _ _ _ _ _ _ _ HW.out HBS.out).mono ?_; rintro e w1 ⟨rfl, hd1⟩))
    go_ret2
    exact ⟨rfl, WDid.pre BL.out hd1⟩
  · rw [if_neg (by omega), if_pos r]
    have ri : (kd : Int) % 4 = 1 := by omega
    have hlen := HY.out.length
    obtain ⟨q, hq0, hq20, hqmin, hqc⟩ := min_is ny 30
    have hmi : (if (30 : Int) < (ny : Int) then (30 : Int) else (ny : Int)) = (q : Int) := by split <;> omega
    have hmi' : (if 30 < ny then (30 : Int) else (ny : Int)) = (q : Int) := by split <;> omega
    have hcut := fun w => run_cutr E_u8 Y ny cy q (Nat.le_trans hq0 HY.out.cap) w
    have HS : Hid (Sees (w.alloc (.cells #[.int .u8 (kd : Int), .int .u8 (m : Int), .int .u64 (x : Int), .slice Y ny cy] 33)) 1 Y q cy ((l.take 30).map (Value.int .u8))) := Lib.hid (by
      have hs := HY.out.pre hq0
      rw [Nat.mul_one, ← List.map_take] at hs
      have e : l.take 30 = l.take q := by
        rw [List.take_eq_take_iff, hlen]
        omega
      rw [e]
      exact hs)
    have hql : (l.take 30).length = q := by rw [List.length_take, hlen]; omega
    rw [hql]
    clear r hlen hq0 hq20 hqmin hqc hql
    go_enter Try.func13, Try.ntmps13
    go_wp2_with (first
      | (go_at_call 26; refine (BytesW_any _ _ _ _ _ _ _ _ _ _ _ _ HW.out HS.out HBS.out).mono ?_; rintro e w1 ⟨rfl, hd1⟩))
    go_ret2
    exact ⟨rfl, WDid.pre BL.out hd1⟩
  · rw [if_neg (by omega), if_neg (by omega), if_pos r]
    have ri : (kd : Int) % 4 = 2 := by omega
    rw [← putFixedF_low, leB_len]
    have HXM : Hid (x % 256 ^ (1 + m % 8) < 18446744073709551616) := Lib.hid (Nat.lt_of_le_of_lt (Nat.mod_le _ _) HX.out)
    have hF := fun w' => fixed_any kd m x ny cy Y w' HM.out HX.out
    have HF := Lib.hid hF
    clear r hF
    generalize x % 256 ^ (1 + m % 8) = z at HXM HF
    generalize 1 + m % 8 = k at HF
    go_enter Try.func13, Try.ntmps13
    go_wp2_with (first
      | (go_at_call 25; refine (FixedW_any _ _ _ _ _ _ _ _ _ _ HW1.out HXM.out HBS1.out).mono ?_; rintro e w2 ⟨rfl, hd2⟩)
      | (go_at_call 35; refine (HF.out _).mono ?_; rintro e w1 ⟨rfl, k1⟩; have HW1 := Lib.hid (HW.out.below k1); have HBS1 := Lib.hid (Nat.le_trans HBS.out k1.size); have B1 := Lib.hid (below_step BL.out k1)))
    go_ret2
    exact ⟨rfl, WDid.pre B1.out hd2⟩
  · rw [if_neg (by omega), if_neg (by omega), if_neg (by omega)]
    have ri : (kd : Int) % 4 = 3 := by omega
    clear r
    go_enter Try.func13, Try.ntmps13
    go_wp2_with fail
    have c2 : (w.alloc (.cells #[.int .u8 (kd : Int), .int .u8 (m : Int), .int .u64 (x : Int), .slice Y ny cy] 33)).cell? ⟨w.heap.size, 2, none⟩ = some (.int .u64 (x : Int)) := by simp
    have hlt : w.heap.size < (w.alloc (.cells #[.int .u8 (kd : Int), .int .u8 (m : Int), .int .u64 (x : Int), .slice Y ny cy] 33)).heap.size := by simp
    have hne : w.heap.size ≠ p := by have := HP.out; omega
    have hno : (Value.slice A n c).ownBlock ≠ some w.heap.size := fun e => by have := HO.out _ e; omega
    generalize w.alloc (.cells #[.int .u8 (kd : Int), .int .u8 (m : Int), .int .u64 (x : Int), .slice Y ny cy] 33) = W at *
    have HN := Lib.hid (And.intro hlt (And.intro hne hno))
    clear hlt hne hno
    have BD := Lib.hid ((Below.refl W.heap.size W).drew)
    go_region_law (first
      | (refine step_wpX rfl ?_; go_simp; go_at_call 36; have _q := D2; refine (Size_any x HX.out _).mono ?_; rintro e w3 ⟨rfl, k3⟩; have D3 := Lib.hid (WDid.post D2.out k3); dsimp only)
      | (refine step_wpX rfl ?_; go_simp; go_at_call 34; have _q := B1; refine (NumberW_any _ _ _ _ _ _ _ _ _ (HW.out.below B1.out) HX.out (Nat.le_trans HBS.out B1.out.size)).mono ?_; rintro e w3 ⟨rfl, d3⟩; have D3 := Lib.hid (WDid.pre B1.out d3); clear d3; dsimp only)
      | (refine step_wpX rfl ?_; go_simp; go_at_call 34; refine (NumberW_any _ _ _ _ _ _ _ _ _ (HW.out.below BD.out) HX.out (Nat.le_trans HBS.out BD.out.size)).mono ?_; rintro e w2 ⟨rfl, d2⟩; have D2 := Lib.hid (WDid.pre BD.out d2); clear d2; have c22 := (did_cell (k := 2) D2.out HN.out.1 HN.out.2.1 HN.out.2.2).trans c2; dsimp only)
      | (refine step_wpX rfl ?_; go_simp; go_at_call 36; refine (Size_any x HX.out _).mono ?_; rintro e w1 ⟨rfl, k1⟩; have B1 := Lib.hid (BD.out.trans (k1.mono BD.out.size)); clear k1; have c21 := below_cellA B1.out c2; dsimp only))
    all_goals simp only [Act.put, List.getElem_toArray, List.getElem_cons_succ, List.getElem_cons_zero, List.setIfInBounds_toArray, List.set_cons_succ, List.set_cons_zero]
    all_goals go_wp2
    all_goals go_ret2
    all_goals exact ⟨rfl, WDid.pre BL.out D3.out⟩
end Go.Proofs.Ytgngeachgkappaa
