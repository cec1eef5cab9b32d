/- Plain law of ClockWrong. -/
import Derived.Test.YtllbcohfelgamaaProg
import Derived.Test.YtllbcohfelgamaaCm
namespace Go.Proofs.Ytllbcohfelgamaa
open Go.RowKit
set_option linter.unusedVariables false

theorem Upto.okT' {b : Int} {l : List Int} (h : Upto b l) (hb : b ≤ 281474976710656) : OkT l := fun x hx => by have := h x hx; omega
theorem runTick_bad (N : Nat) (e : Int) (he : e ≠ 0) (q : Int × Int) (r : List (Int × Int)) (hq : ∀ xs : List Int, xs.length = N → OkT xs → (tickF xs q.1 q.2).2.2 = e) : ∀ (ps : List (Int × Int)) (xs : List Int) (acc : List (Int × Int)) (b : Int), xs.length = N → Upto b xs → GoodP N ps → b + 33554428 * (ps.length : Int) ≤ 281474976710656 → runE tickF (ps ++ q :: r) xs acc = ([], e)
  | [], xs, acc, b, hl, hu, _, hb => by
    have h1 := hq xs hl (hu.okT' (by simpa using hb))
    obtain ⟨c, d⟩ := q
    rw [List.nil_append, runE, if_neg (by rw [h1]; exact he), h1]
  | (c, d) :: t, xs, acc, b, hl, hu, hg, hb => by
    obtain ⟨k, rfl, hk, h0, h1, hu'⟩ := good_step (c := c) (d := d) hl hu (hg (c, d) (by simp))
    have hd := (hg ((k : Int), d) (by simp)).2
    simp only [List.length_cons] at hb
    have ht := tick_at (xs := xs) (k := k) (d := d) hk rfl hd.1 rfl (by omega)
    rw [List.cons_append, runE, ht, if_pos rfl]
    simp only
    exact runTick_bad N e he q r hq t _ _ (b + 33554428) (by simp [hl]) hu' (fun q hq => hg q (by simp [hq])) (by omega)
theorem runUntil_bad (N : Nat) (e : Int) (he : e ≠ 0) (q : Int × Int) (r : List (Int × Int)) (hq : ∀ xs : List Int, xs.length = N → OkT xs → (untilF xs q.1 q.2).2.2 = e) : ∀ (ps : List (Int × Int)) (xs : List Int) (acc : List (Int × Int)) (b : Int), xs.length = N → Upto b xs → GoodP N ps → b + 33554428 * (ps.length : Int) ≤ 281474976710656 → runE untilF (stOf ps xs ++ q :: r) xs acc = ([], e)
  | [], xs, acc, b, hl, hu, _, hb => by
    have h1 := hq xs hl (hu.okT' (by simpa using hb))
    obtain ⟨c, d⟩ := q
    rw [stOf, List.nil_append, runE, if_neg (by rw [h1]; exact he), h1]
  | (c, d) :: t, xs, acc, b, hl, hu, hg, hb => by
    obtain ⟨k, rfl, hk, h0, h1, hu'⟩ := good_step (c := c) (d := d) hl hu (hg (c, d) (by simp))
    have hd := (hg ((k : Int), d) (by simp)).2
    simp only [List.length_cons] at hb
    have ht := until_at (xs := xs) (k := k) (y := xs.getD k 0 + d) (r := d) hk rfl (by omega) (by omega) (by omega) (by omega)
    rw [stOf, Int.toNat_natCast, List.cons_append, runE, ht, if_pos rfl]
    simp only
    exact runUntil_bad N e he q r hq t _ _ (b + 33554428) (by simp [hl]) hu' (fun q hq => hg q (by simp [hq])) (by omega)

theorem take_zip' : ∀ (a b : List Int) (k : Nat), (a.zip b).take k = (a.take k).zip (b.take k)
  | [], b, k => by simp
  | a :: r, [], k => by simp
  | a :: r, b :: t, 0 => by simp
  | a :: r, b :: t, k + 1 => by simp [take_zip' r t k]
theorem zip_cut {cs ds cs' ds' : List Int} {k : Nat} (h1 : cs'.take k = cs.take k) (h2 : ds'.take k = ds.take k) (hk : k < cs'.length) (hk' : k < ds'.length) :
    cs'.zip ds' = (cs.zip ds).take k ++ (cs'.getD k 0, ds'.getD k 0) :: (cs'.zip ds').drop (k + 1) := by
  rw [← zip_drop hk hk', take_zip', ← h1, ← h2, ← take_zip', List.take_append_drop]
theorem GoodP.take {N : Nat} {ps : List (Int × Int)} (h : GoodP N ps) (k : Nat) : GoodP N (ps.take k) := fun q hq => h q (List.mem_of_mem_take hq)

/-- Stamps at a wrong entry k. -/
theorem each_tick_bad {N : Nat} (hN : 1 ≤ N ∧ N ≤ 64) {cs ds cs' ds' : List Int} {k : Nat} {e : Int} (he : e ≠ 0) (hl : cs'.length = ds'.length) (hk : k < cs'.length) (h100 : cs'.length ≤ 100) (h1 : cs'.take k = cs.take k) (h2 : ds'.take k = ds.take k) (hg : GoodP N (cs.zip ds))
    (hq : ∀ xs : List Int, xs.length = N → OkT xs → (tickF xs (cs'.getD k 0) (ds'.getD k 0)).2.2 = e) : (eachF tickF (N : Int) cs' ds').2 = e := by
  unfold eachF
  rw [if_neg (by omega), Int.toNat_natCast, zip_cut h1 h2 hk (by omega),
    runTick_bad N e he _ _ hq ((cs.zip ds).take k) _ _ 0 (by simp) (fun x hx => by rw [List.eq_of_mem_replicate hx]; decide) (hg.take k) (by
      have : ((cs.zip ds).take k).length ≤ k := List.length_take_le _ _
      omega)]
theorem stOf_take : ∀ (ps : List (Int × Int)) (xs : List Int) (k : Nat), (stOf ps xs).take k = stOf (ps.take k) xs
  | [], xs, k => by simp [stOf]
  | (c, d) :: r, xs, 0 => by simp [stOf]
  | (c, d) :: r, xs, k + 1 => by simp [stOf, stOf_take r]
/-- Deltas at a wrong stamp k. -/
theorem each_until_bad {N : Nat} (hN : 1 ≤ N ∧ N ≤ 64) {ps st : List (Int × Int)} {k : Nat} {e : Int} (he : e ≠ 0) (hk : k < st.length) (h100 : st.length ≤ 100) (h1 : st.take k = (stOf ps (List.replicate N 0)).take k) (hg : GoodP N ps)
    (hq : ∀ xs : List Int, xs.length = N → OkT xs → (untilF xs (st.getD k (0, 0)).1 (st.getD k (0, 0)).2).2.2 = e) : (eachF untilF (N : Int) (st.map (·.1)) (st.map (·.2))).2 = e := by
  unfold eachF
  rw [if_neg (by simp; omega), Int.toNat_natCast, zip_maps]
  have e1 : st = stOf (ps.take k) (List.replicate N 0) ++ st.getD k (0, 0) :: st.drop (k + 1) := by
    rw [← stOf_take, ← h1]
    have := List.take_append_drop k st
    rw [List.drop_eq_getElem_cons hk] at this
    simp only [List.getD_eq_getElem?_getD, List.getElem?_eq_getElem hk, Option.getD_some]
    exact this.symm
  rw [e1, runUntil_bad N e he _ _ hq (ps.take k) _ _ 0 (by simp) (fun x hx => by rw [List.eq_of_mem_replicate hx]; decide) (hg.take k) (by
      have : (ps.take k).length ≤ k := List.length_take_le _ _
      omega)]
theorem each_len {f : List Int → Int → Int → List Int × Int × Int} {n : Int} {cs ds : List Int} (h : cs.length ≠ ds.length) : eachF f n cs ds = ([], 2) := by unfold eachF; rw [if_pos (by omega)]
theorem each_num {f : List Int → Int → Int → List Int × Int × Int} {n : Int} {cs ds : List Int} (h : n < 1 ∨ 64 < n) : eachF f n cs ds = ([], 2) := by unfold eachF; rw [if_pos (by omega)]

theorem tick_cpuF {xs : List Int} {c d : Int} (h : c < 0 ∨ (xs.length : Int) ≤ c) : (tickF xs c d).2.2 = 290 := by unfold tickF; rw [if_pos h]
theorem tick_negF {xs : List Int} {c d : Int} (h : 0 ≤ c ∧ c < (xs.length : Int)) (hd : d < 0) : (tickF xs c d).2.2 = 2 := by unfold tickF; rw [if_neg (by omega), if_pos hd]
theorem tick_fullF {xs : List Int} {c d : Int} (h : 0 ≤ c ∧ c < (xs.length : Int)) (ho : OkT xs) (hd : 281474976710656 < d) : (tickF xs c d).2.2 = 4 := by
  unfold tickF
  have := ho.at_ (k := c.toNat) (by omega)
  rw [if_neg (by omega), if_neg (by omega), if_pos (by omega)]
theorem until_cpuF {xs : List Int} {c d : Int} (h : c < 0 ∨ (xs.length : Int) ≤ c) : (untilF xs c d).2.2 = 290 := by unfold untilF; rw [if_pos h]
theorem until_argF {xs : List Int} {c d : Int} (h : 0 ≤ c ∧ c < (xs.length : Int)) (hd : d < 0 ∨ 281474976710656 < d) : (untilF xs c d).2.2 = 2 := by unfold untilF; rw [if_neg (by omega), if_pos hd]

/-- A stamp that goes back. -/
theorem each_back {N : Nat} (hN : 1 ≤ N ∧ N ≤ 64) {c y : Int} (hc : 0 ≤ c ∧ c < (N : Int)) (hy : 0 ≤ y ∧ y < 5) : (eachF untilF (N : Int) (([(c, 5), (c, y), (-1, 0)] : List (Int × Int)).map (·.1)) (([(c, 5), (c, y), (-1, 0)] : List (Int × Int)).map (·.2))).2 = 291 := by
  obtain ⟨k, rfl⟩ : ∃ k : Nat, c = (k : Int) := ⟨c.toNat, by omega⟩
  unfold eachF
  rw [if_neg (by simp; omega), Int.toNat_natCast, zip_maps]
  have h0 : (List.replicate N (0 : Int)).getD k 0 = 0 := by have h9 : k < N := (by omega); simp [List.getD_eq_getElem?_getD, h9]
  have h1 := until_at (xs := List.replicate N (0 : Int)) (k := k) (v := 0) (y := 5) (r := 5) (by simp; omega) h0 (by decide) (by decide) (by decide) rfl
  rw [runE, h1, if_pos rfl]
  simp only
  have h2 : (untilF ((List.replicate N (0 : Int)).set k 5) (k : Int) y).2.2 = 291 := by
    unfold untilF
    rw [if_neg (by simp; omega), if_neg (by omega), Int.toNat_natCast, getD_set (by simp; omega), if_pos (by omega)]
  rw [runE, if_neg (by rw [h2]; decide), h2]

/-- Stores into a row of stamps. -/
theorem flat_set0 (st : List (Int × Int)) : ∀ (k : Nat) (a : Int), k < st.length → (flat st).set (k * 2) (.int .i64 a) = flat (st.set k (a, (st.getD k (0, 0)).2)) := by
  induction st with
  | nil => intro k a h; simp at h
  | cons s st ih =>
    intro k a h
    cases k with
    | zero => rfl
    | succ k =>
      have := ih k a (by simpa using h)
      rw [flat_cons, show (k + 1) * 2 = k * 2 + 1 + 1 by omega, List.set_cons_succ, List.set_cons_succ, this, List.set_cons_succ, flat_cons]
      simp
theorem flat_set1 (st : List (Int × Int)) : ∀ (k : Nat) (a : Int), k < st.length → (flat st).set (k * 2 + 1) (.int .i64 a) = flat (st.set k ((st.getD k (0, 0)).1, a)) := by
  induction st with
  | nil => intro k a h; simp at h
  | cons s st ih =>
    intro k a h
    cases k with
    | zero => rfl
    | succ k =>
      have := ih k a (by simpa using h)
      rw [flat_cons, show (k + 1) * 2 + 1 = (k * 2 + 1) + 1 + 1 by omega, List.set_cons_succ, List.set_cons_succ, this, List.set_cons_succ, flat_cons]
      simp
end Go.Proofs.Ytllbcohfelgamaa
