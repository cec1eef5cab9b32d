/- Walks: the reference's Join. -/
import Derived.Test.YtemhoaleeefhhaaProg
import Derived.Test.YtemhoaleeefhhaaPc
import Derived.Test.YtemhoaleeefhhaaNb
import Derived.Deep.DeepCutAuto
namespace Go.Proofs.Ytemhoaleeefhhaa
open Go.RowKit
set_option linter.unusedVariables false

/-- What Join wants of a number. -/
def wantJ (z o t h x y : Bool) : Bool := (!x && !y && z) || (x && !y && o) || (!x && y && t) || (x && y && h)
def joinL (z o t h : Bool) (a b : List Int) (N : Nat) : List Nat := (List.range N).filter fun i => wantJ z o t h (bt a i) (bt b i)
theorem joinL_some {z o t h : Bool} {a b : List Int} {j : Nat} (e : wantJ z o t h (bt a j) (bt b j) = true) : joinL z o t h a b (j + 1) = joinL z o t h a b j ++ [j] := by
  unfold joinL; rw [List.range_succ, List.filter_append, List.filter_cons_of_pos (by simpa using e)]; rfl
theorem joinL_none {z o t h : Bool} {a b : List Int} {j : Nat} (e : wantJ z o t h (bt a j) (bt b j) = false) : joinL z o t h a b (j + 1) = joinL z o t h a b j := by
  unfold joinL; rw [List.range_succ, List.filter_append, List.filter_cons_of_neg (by simpa using e)]; simp
theorem joinL_len (z o t h : Bool) (a b : List Int) (N : Nat) : (joinL z o t h a b N).length ≤ N := by
  have := List.length_filter_le (fun i => wantJ z o t h (bt a i) (bt b i)) (List.range N)
  rw [List.length_range] at this
  exact this
theorem joinL_ok (z o t h : Bool) (a b : List Int) (N : Nat) : okAll N (castN (joinL z o t h a b N)) := by
  intro x hx
  obtain ⟨i, hi, rfl⟩ := List.mem_map.1 hx
  have := (List.mem_filter.1 hi).1
  rw [List.mem_range] at this
  omega
/-- The words of Join. -/
def joinW (z o t h : Bool) (a b : List Int) (N : Nat) : List Int := ofW N (castN (joinL z o t h a b N))
theorem joinW_bt (z o t h : Bool) (a b : List Int) (N i : Nat) : bt (joinW z o t h a b N) i = (decide (i < N) && wantJ z o t h (bt a i) (bt b i)) := by
  unfold joinW
  rw [ofW_bt (joinL_ok z o t h a b N), Bool.eq_iff_iff, decide_eq_true_iff, Bool.and_eq_true, decide_eq_true_iff]
  constructor
  · intro hm
    obtain ⟨j, hj, e⟩ := List.mem_map.1 hm
    have e2 : j = i := by omega
    subst e2
    obtain ⟨h1, h2⟩ := List.mem_filter.1 hj
    exact ⟨List.mem_range.1 h1, h2⟩
  · rintro ⟨h1, h2⟩
    exact List.mem_map.2 ⟨i, List.mem_filter.2 ⟨List.mem_range.2 h1, h2⟩, rfl⟩

set_option maxRecDepth 20000 in
set_option maxHeartbeats 1600000 in
theorem refJoin_any (n : Nat) (A1 A2 : Option Addr) (n1 c1 n2 c2 : Nat) (a b : List Int) (z o t h : Bool) (w : World) (hn : n ≤ 65536) (h1 : Sees w 1 A1 n1 c1 (a.map (Value.int .u64))) (h2 : Sees w 1 A2 n2 c2 (b.map (Value.int .u64))) (ha : W64 a) (hb : W64 b) :
    Calls Try.prog 36 #[.int .i64 (n : Int), .slice A1 n1 c1, .slice A2 n2 c2, .bool z, .bool o, .bool t, .bool h] w fun e w' => ∃ v, e = .returned v ∧ Made w w' n v (joinW z o t h a b n) ∧ Below w.heap.size w w' := by
  obtain ⟨W1, hW1⟩ : ∃ W1, w.alloc (.cells #[.int .i64 0, .slice none 0 0] 55) = W1 := ⟨_, rfl⟩
  have hbw : Below w.heap.size w W1 := by rw [← hW1]; exact (Below.refl w.heap.size w).alloc (Nat.le_refl _) _
  have hz : W1.heap.size = w.heap.size + 1 := by rw [← hW1]; simp
  have HB := Lib.hid (And.intro hbw hz)
  have HS := Lib.hid (And.intro (h1.below hbw (Nat.le_refl _)) (h2.below hbw (Nat.le_refl _)))
  have HX : Hid (SetQ W1 w.heap.size 0 none 0 0) := Lib.hid (by rw [← hW1]; exact SetQ.new w 0 none 0 0)
  have HN := Lib.hid hn
  have hn5 : (n : Int) ≤ 65536 := by omega
  clear hbw h1 h2 hz hn
  go_enter Try.func36, Try.ntmps36
  go_wp2_with fail
  try rw [hW1]
  clear hW1
  go_loopw [15, 16] (fun ov iv wr => ∃ (j : Nat) (Ao : Option Addr) (co : Nat), Hid (j ≤ n) ∧ iv = .int .i64 (j : Int) ∧ ov = .slice Ao (joinL z o t h a b j).length co ∧ wr.ownsRow W1.heap.size 3 1 (.slice Ao (joinL z o t h a b j).length co) (joinL z o t h a b j).length ((castN (joinL z o t h a b j)).map (Value.int .i64)) ∧ Below W1.heap.size W1 wr) (fun _ iv _ => n - (intOf iv).toNat)
  case atStart => exact ⟨0, none, 0, Lib.hid (Nat.zero_le _), rfl, rfl, World.ownsRow_nil _ _ _ _, Below.refl _ _⟩
  case round =>
    obtain ⟨j, Ao, co, HJ, rfl, rfl, ho, hbj⟩ := hrel
    have HSj := Lib.hid (And.intro (HS.out.1.below hbj (Nat.le_refl _)) (HS.out.2.below hbj (Nat.le_refl _)))
    obtain ⟨L, hL⟩ : ∃ L, joinL z o t h a b j = L := ⟨_, rfl⟩
    obtain ⟨T, htt⟩ : ∃ T, L.length = T := ⟨_, rfl⟩
    have htj := joinL_len z o t h a b j
    rw [hL] at ho htj ⊢
    rw [htt] at ho htj ⊢
    have HTT := Lib.hid (And.intro hL htt)
    by_cases hlt : j < n
    · have d5 : decide ((j : Int) < (n : Int)) = true := by simp; omega
      have HLT := Lib.hid hlt
      have HJ9 := Lib.hid (show j ≤ 1000000000 by have := HN.out; omega)
      have HT6 := Lib.hid (show T ≤ 65536 by have := HN.out; omega)
      have hj5 : (j : Int) ≤ 65536 := by have := HN.out; omega
      obtain ⟨x, hx⟩ : ∃ x, bt a j = x := ⟨_, rfl⟩
      obtain ⟨y, hy⟩ : ∃ y, bt b j = y := ⟨_, rfl⟩
      have HXY := Lib.hid (And.intro hx hy)
      have ex := b1_eq1 x
      have ey := b1_eq1 y
      clear hlt hL htt htj hx hy
      go_upto_region 6 with (first
        | (go_at_call 64; have _q := HQ1; refine (refBit_any A2 n2 c2 j b _ HSj.out.2 hb HJ9.out).mono ?_; rw [HXY.out.2]; rintro e w' ⟨rfl, rfl⟩)
        | (go_at_call 64; refine (refBit_any A1 n1 c1 j a _ HSj.out.1 ha HJ9.out).mono ?_; rw [HXY.out.1]; rintro e w' ⟨rfl, rfl⟩; have HQ1 := HJ9))
      go_cut [69] from 32 to 69 (fun v wx => v = .bool (wantJ z o t h x y) ∧ wr = wx)
      case first =>
        clear ex ey
        cases x <;> cases y
        · cases z <;> (go_wp2_with fail; go_meet; exact ⟨by simp [wantJ], rfl⟩)
        · cases t <;> (go_wp2_with fail; go_meet; exact ⟨by simp [wantJ], rfl⟩)
        · cases o <;> (go_wp2_with fail; go_meet; exact ⟨by simp [wantJ], rfl⟩)
        · cases h <;> (go_wp2_with fail; go_meet; exact ⟨by simp [wantJ], rfl⟩)
      case rest =>
        obtain ⟨rfl, rfl⟩ := hcut
        cases hm : wantJ z o t h x y with
        | true =>
          have hmm : joinL z o t h a b (j + 1) = joinL z o t h a b j ++ [j] := joinL_some (by rw [HXY.out.1, HXY.out.2]; exact hm)
          rw [HTT.out.1] at hmm
          have HMM := Lib.hid hmm
          clear hm hmm ex ey
          go_wp2_with (at_builtin; refine wpList_app E_i64 rfl _ _ rfl rfl (ho.alloc _) rfl (Sees.one _ _ _) (one1 (u := .int .i64 (j : Int)) rfl) (by have := HT6.out; simp [maxLen]; omega) (by have := HT6.out; omega) (by have := hbj.size; simp; omega) ?_; intro A4 c4 w4 hown4 hg4 hb4)
          go_roundw
          case rel =>
            have e2 : (L ++ [j]).length = T + 1 := by rw [List.length_append, HTT.out.2]; rfl
            refine ⟨j + 1, A4, c4, Lib.hid HLT.out, by go_num, by rw [HMM.out, e2], ?_, (hbj.alloc hbj.size _).trans hb4⟩
            rw [HMM.out, e2]
            show w4.ownsRow _ _ _ _ _ (((L ++ [j]).map fun i : Nat => (i : Int)).map (Value.int .i64))
            rw [List.map_append, List.map_append]
            exact hown4
          case measure => have := HLT.out; simp [intOf]; omega
        | false =>
          have hmm : joinL z o t h a b (j + 1) = joinL z o t h a b j := joinL_none (by rw [HXY.out.1, HXY.out.2]; exact hm)
          rw [HTT.out.1] at hmm
          have HMM := Lib.hid hmm
          clear hm hmm ex ey
          go_wp2_with fail
          go_roundw
          case rel => exact ⟨j + 1, Ao, co, Lib.hid HLT.out, by go_num, by rw [HMM.out, HTT.out.2], by rw [HMM.out, HTT.out.2]; exact ho, hbj⟩
          case measure => have := HLT.out; simp [intOf]; omega
    · have hjn : j = n := by have := HJ.out; omega
      have d5 : decide ((j : Int) < (n : Int)) = false := by simp; omega
      have d5' : decide (j < n) = false := by simp; omega
      have HO := Lib.hid ho
      have HBJ := Lib.hid hbj
      have HOK : Hid (okAll n (castN L)) := Lib.hid (by rw [← hL, hjn]; exact joinL_ok z o t h a b n)
      have HW9 : Hid (ofW n (castN L) = joinW z o t h a b n) := Lib.hid (by rw [← hL, hjn]; rfl)
      clear hlt hjn hL htt htj ho hbj
      go_wp2_with (go_at_call 35; refine (refOf_in n Ao T co (castN L) _ HN.out (sees_own HO.out) HOK.out).mono ?_; rw [HW9.out]; rintro e w2 ⟨v, rfl, ⟨A3, n3, c3, rfl, o3⟩, k2⟩; have O3 := Lib.hid o3; have K2 := Lib.hid (below_step HBJ.out k2); have X2 := HX.out.below (below_step HBJ.out k2) (Nat.le_refl _); have b4 := X2.c0; have b5 := X2.c1; have f0 := X2.f 0; have f1 := X2.f 1; have X2 := Lib.hid X2; clear k2 o3)
      have P9 := X2.out.put (N' := n) (A' := A3) (n' := n3) (c' := c3)
      have z0 := P9.c0
      have z1 := P9.c1
      have hz8 : w.heap.size + 1 ≤ wr.heap.size := by have h1 := HBJ.out.size; have h2 := HB.out.2; omega
      have ho := own_base (base' := w.heap.size + 1) O3.out hz8
      exact bodyPost_ret (v := setv n A3 n3 c3) (by simp [results, Try.results36, go_sem, z0, z1]) rfl ⟨_, rfl, ⟨_, _, _, rfl, own_base (ownsRow_setCell_below (ownsRow_setCell_below ho (Nat.lt_succ_self _) _) (Nat.lt_succ_self _) _) (by omega)⟩, below_put (below_step HB.out.1 K2.out) (Nat.le_refl _) _ _⟩
end Go.Proofs.Ytemhoaleeefhhaa
