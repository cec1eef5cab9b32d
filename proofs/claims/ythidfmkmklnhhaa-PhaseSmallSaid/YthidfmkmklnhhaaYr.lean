/- Walks: the law's row. -/
import Derived.Test.YthidfmkmklnhhaaProg
import Derived.Test.YthidfmkmklnhhaaYq
import Derived.Test.YthidfmkmklnhhaaR
namespace Go.Proofs.Ythidfmkmklnhhaa
open Go.RowKit
set_option linter.unusedVariables false

/-- The first j elements, each reduced. -/
def rw40 (l : List Int) (j : Nat) : List Int := (l.take j).map fun x => x.tmod 1099511627776
theorem rw40_len {l : List Int} {j : Nat} (h : j ≤ l.length) : (rw40 l j).length = j := by simp [rw40]; omega
theorem rw40_le {l : List Int} {j : Nat} : ∀ x ∈ rw40 l j, x.natAbs ≤ 1099511627776 := fun x hx => by
  obtain ⟨y, _, rfl⟩ := List.mem_map.1 hx
  have h1 := Int.tmod_lt_of_pos y (show (0 : Int) < 1099511627776 by decide)
  have h2 := Int.lt_tmod_of_pos y (show (0 : Int) < 1099511627776 by decide)
  omega
theorem rw40_succ {l : List Int} {k : Nat} (h : k < l.length) : rw40 l (k + 1) = rw40 l k ++ [(l.getD k 0).tmod 1099511627776] := by
  unfold rw40
  rw [List.take_succ_eq_append_getElem h, List.map_append, List.getD_eq_getElem?_getD, List.getElem?_eq_getElem h]
  rfl
theorem sz_le {l : List Int} {M : Nat} (h : ∀ x ∈ l, x.natAbs ≤ M) : ∀ m, sz l m ≤ m * M := by
  intro m
  induction m with
  | zero => simp [sz]
  | succ m ih =>
    show sz l m + (l.getD m 0).natAbs ≤ (m + 1) * M
    have : (l.getD m 0).natAbs ≤ M := by
      by_cases hm : m < l.length
      · rw [List.getD_eq_getElem?_getD, List.getElem?_eq_getElem hm]; exact h _ (List.getElem_mem hm)
      · rw [List.getD_eq_getElem?_getD, List.getElem?_eq_none (by omega)]; exact Nat.zero_le _
    rw [Nat.succ_mul]
    omega

set_option maxRecDepth 20000 in
set_option maxHeartbeats 800000 in
theorem row_any (A : Option Addr) (n c : Nat) (l : List Int) (w : World) (hs : Sees w 1 A n c (l.map (Value.int .i64))) :
    Calls Try.prog 14 #[.slice A n c] w fun e w' => ∃ A' c', e = .returned (.slice A' (min n 200) c') ∧ w'.ownsRow w.heap.size 3 1 (.slice A' (min n 200) c') (min n 200) ((rw40 l (min n 200)).map (Value.int .i64)) ∧ Below w.heap.size w w' := by
  obtain ⟨j, hj0, hj2, hmin, hmc⟩ := min_is n 200
  rw [hmin]
  have hmi : (if (200 : Int) < (n : Int) then (200 : Int) else (n : Int)) = (j : Int) := by split <;> omega
  have hmi' : (if 200 < n then (200 : Int) else (n : Int)) = (j : Int) := by split <;> omega
  have hcut := fun w => run_cutr E_ii A n c j (Nat.le_trans hj0 hs.cap) w
  have hln := hs.length
  have hS2 : Sees w 1 A j c ((l.take j).map (Value.int .i64)) := by
    have := hs.pre (k := j) hj0
    rwa [Nat.mul_one, ← List.map_take] at this
  have HS := Lib.hid hS2
  have HJ := Lib.hid (And.intro hj0 (And.intro hj2 hln))
  have hjc : (j : Int) ≤ (c : Int) := by have := hs.cap; omega
  have hj9 : (j : Int) ≤ 200 := by omega
  have hj8 : (0 : Int) ≤ (j : Int) := by omega
  clear hs hmin hmc hS2 hj0 hj2 hln
  go_enter Try.func14, Try.ntmps14
  go_wp2_with fail
  go_loopw [3, 12] (fun sv iv wr => ∃ (k : Nat) (A2 : Option Addr) (c2 : Nat), Hid (k ≤ j) ∧ iv = .int .i64 (k : Int) ∧ sv = .slice A2 k c2 ∧ Hid (wr.ownsRow w.heap.size 3 1 (.slice A2 k c2) k ((rw40 l k).map (Value.int .i64)) ∧ Below w.heap.size w wr)) (fun _ iv _ => j - (intOf iv).toNat)
  case atStart => exact ⟨0, none, 0, Lib.hid (Nat.zero_le _), rfl, rfl, Lib.hid ⟨World.ownsRow_nil _ _ _ _, Below.refl _ _⟩⟩
  case round =>
    obtain ⟨k, A2, c2, HK, rfl, rfl, HO⟩ := hrel
    by_cases hlt : k < j
    · obtain ⟨g, o, hA, g1⟩ := (HS.out.below HO.out.2 (Nat.le_refl _)).int hlt
      cases hA
      have d0 : decide ((k : Int) < (j : Int)) = true := by simp; omega
      have d0' : decide (k < j) = true := by simp; omega
      have hkj : (k : Int) < (j : Int) := by omega
      have hkl : k < l.length := by have := HJ.out; omega
      have hget : (l.take j).getD k 0 = l.getD k 0 := by
        rw [List.getD_eq_getElem?_getD, List.getD_eq_getElem?_getD, List.getElem?_take_of_lt hlt]
      rw [hget] at g1
      obtain ⟨v, hv⟩ : ∃ v, l.getD k 0 = v := ⟨_, rfl⟩
      rw [hv] at g1
      obtain ⟨t, ht⟩ : ∃ t, v.tmod 1099511627776 = t := ⟨_, rfl⟩
      have h1 := Int.tmod_lt_of_pos v (show (0 : Int) < 1099511627776 by decide)
      have h2 := Int.lt_tmod_of_pos v (show (0 : Int) < 1099511627776 by decide)
      have hwt : IntKind.i64.wrap t = t := IntWalk.i64_in _ (by omega)
      have HR : Hid (rw40 l (k + 1) = rw40 l k ++ [t]) := Lib.hid (by rw [rw40_succ hkl, hv, ht])
      have HLT := Lib.hid hlt
      clear hlt hkl hget hv h1 h2
      go_wp2_with (at_builtin; refine wpList_app E_ii rfl _ _ rfl rfl (HO.out.1.alloc _) rfl (Sees.one _ _ _) (one1 rfl) (by have := HJ.out; have := HLT.out; simp [maxLen]; omega) (by have := HJ.out; have := HLT.out; omega) (by have := HO.out.2.size; simp; omega) ?_; intro A4 c4 w4 hown4 hg4 hb4; have H4 : Hid (w4.ownsRow w.heap.size 3 1 (.slice A4 (k + 1) c4) (k + 1) ((rw40 l (k + 1)).map (Value.int .i64)) ∧ Below w.heap.size w w4) := Lib.hid ⟨by rw [HR.out, List.map_append]; exact hown4, (HO.out.2.alloc HO.out.2.size _).trans hb4⟩; clear hown4 hg4 hb4)
      go_roundw
      case rel => exact ⟨k + 1, A4, c4, Lib.hid HLT.out, by go_num, rfl, H4⟩
      case measure => have := HLT.out; simp [intOf]; omega
    · obtain rfl : k = j := by have := HK.out; omega
      have d0 : decide ((k : Int) < (k : Int)) = false := by simp
      have d0' : decide (k < k) = false := by simp
      clear hlt
      go_wp2_with fail
      go_ret
      exact ⟨A2, c2, rfl, HO.out.1, HO.out.2⟩
end Go.Proofs.Ythidfmkmklnhhaa
