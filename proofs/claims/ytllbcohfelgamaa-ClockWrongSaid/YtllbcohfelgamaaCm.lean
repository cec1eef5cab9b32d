/- Plain law of ClockBack. -/
import Derived.Test.YtllbcohfelgamaaProg
import Derived.Test.YtllbcohfelgamaaCl
import Derived.Test.YtllbcohfelgamaaCj
namespace Go.Proofs.Ytllbcohfelgamaa
open Go.RowKit
set_option linter.unusedVariables false

/-- The stamps that differences make. -/
def stOf : List (Int × Int) → List Int → List (Int × Int)
  | [], _ => []
  | (c, d) :: r, xs => (c, xs.getD c.toNat 0 + d) :: stOf r (xs.set c.toNat (xs.getD c.toNat 0 + d))
def GoodP (N : Nat) (ps : List (Int × Int)) : Prop := ∀ q ∈ ps, (0 ≤ q.1 ∧ q.1 < (N : Int)) ∧ 0 ≤ q.2 ∧ q.2 ≤ 33554428
theorem stOf_len (ps : List (Int × Int)) : ∀ xs, (stOf ps xs).length = ps.length := by
  induction ps with
  | nil => intro xs; rfl
  | cons q r ih => intro xs; obtain ⟨c, d⟩ := q; simp [stOf, ih]
theorem Upto.set {b : Int} {xs : List Int} (h : Upto b xs) (k : Nat) {v : Int} (hv : 0 ≤ v ∧ v ≤ b + 33554428) : Upto (b + 33554428) (xs.set k v) := fun y hy => by
  rcases List.mem_or_eq_of_mem_set hy with h' | h'
  · have := h y h'; omega
  · subst h'; exact hv
theorem good_step {N : Nat} {xs : List Int} {b : Int} {c d : Int} (hl : xs.length = N) (hu : Upto b xs) (hg : (0 ≤ c ∧ c < (N : Int)) ∧ 0 ≤ d ∧ d ≤ 33554428) : ∃ k : Nat, c = (k : Int) ∧ k < xs.length ∧ 0 ≤ xs.getD k 0 ∧ xs.getD k 0 ≤ b ∧ Upto (b + 33554428) (xs.set k (xs.getD k 0 + d)) := by
  obtain ⟨k, rfl⟩ : ∃ k : Nat, c = (k : Int) := ⟨c.toNat, by omega⟩
  have hk : k < xs.length := by omega
  have := hu.at_ hk
  exact ⟨k, rfl, hk, this.1, this.2, hu.set k (by omega)⟩
theorem runTick (N : Nat) : ∀ (ps : List (Int × Int)) (xs : List Int) (acc : List (Int × Int)) (b : Int), xs.length = N → Upto b xs → GoodP N ps → b + 33554428 * (ps.length : Int) ≤ 281474976710656 → runE tickF ps xs acc = (acc ++ stOf ps xs, 0)
  | [], xs, acc, b, _, _, _, _ => by simp [runE, stOf]
  | (c, d) :: r, xs, acc, b, hl, hu, hg, hb => by
    obtain ⟨k, rfl, hk, h0, h1, hu'⟩ := good_step (c := c) (d := d) hl hu (hg (c, d) (by simp))
    have hd := (hg ((k : Int), d) (by simp)).2
    simp only [List.length_cons] at hb
    have ht := tick_at (xs := xs) (k := k) (d := d) hk rfl hd.1 rfl (by omega)
    rw [runE, ht, if_pos rfl, stOf, Int.toNat_natCast]
    simp only
    rw [runTick N r _ _ (b + 33554428) (by simp [hl]) hu' (fun q hq => hg q (by simp [hq])) (by omega), List.append_assoc]
    rfl
theorem runUntil (N : Nat) : ∀ (ps : List (Int × Int)) (xs : List Int) (acc : List (Int × Int)) (b : Int), xs.length = N → Upto b xs → GoodP N ps → b + 33554428 * (ps.length : Int) ≤ 281474976710656 → runE untilF (stOf ps xs) xs acc = (acc ++ ps, 0)
  | [], xs, acc, b, _, _, _, _ => by simp [runE, stOf]
  | (c, d) :: r, xs, acc, b, hl, hu, hg, hb => by
    obtain ⟨k, rfl, hk, h0, h1, hu'⟩ := good_step (c := c) (d := d) hl hu (hg (c, d) (by simp))
    have hd := (hg ((k : Int), d) (by simp)).2
    simp only [List.length_cons] at hb
    have ht := until_at (xs := xs) (k := k) (y := xs.getD k 0 + d) (r := d) hk rfl (by omega) (by omega) (by omega) (by omega)
    rw [stOf, Int.toNat_natCast, runE, ht, if_pos rfl]
    simp only
    rw [runUntil N r _ _ (b + 33554428) (by simp [hl]) hu' (fun q hq => hg q (by simp [hq])) (by omega), List.append_assoc]
    rfl
theorem zip_maps (st : List (Int × Int)) : (st.map (·.1)).zip (st.map (·.2)) = st := by
  induction st with
  | nil => rfl
  | cons q r ih => simp [ih]
theorem zip_snd : ∀ (a b : List Int), a.length = b.length → (a.zip b).map (·.2) = b
  | [], [], _ => rfl
  | x :: a, y :: b, h => by simp at h; simp [zip_snd a b h]
  | [], _ :: _, h => by simp at h
  | _ :: _, [], h => by simp at h
theorem each_tick {N : Nat} (hN : 1 ≤ N ∧ N ≤ 64) {cs ds : List Int} (hl : cs.length = ds.length) (hk : cs.length ≤ 100) (hg : GoodP N (cs.zip ds)) : eachF tickF (N : Int) cs ds = (stOf (cs.zip ds) (List.replicate N 0), 0) := by
  unfold eachF
  rw [if_neg (by omega), Int.toNat_natCast, runTick N _ _ _ 0 (by simp) (fun x hx => by rw [List.eq_of_mem_replicate hx]; decide) hg (by simp [hl]; omega)]
  rfl
theorem each_until {N : Nat} (hN : 1 ≤ N ∧ N ≤ 64) {ps : List (Int × Int)} (hk : ps.length ≤ 100) (hg : GoodP N ps) : eachF untilF (N : Int) ((stOf ps (List.replicate N 0)).map (·.1)) ((stOf ps (List.replicate N 0)).map (·.2)) = (ps, 0) := by
  unfold eachF
  rw [if_neg (by simp; omega), Int.toNat_natCast, zip_maps, runUntil N _ _ _ 0 (by simp) (fun x hx => by rw [List.eq_of_mem_replicate hx]; decide) hg (by omega)]
  rfl
theorem made_good {N : Nat} (hN : 1 ≤ N) {l : List Int} (hl : U32 l) : GoodP N ((mC N l).zip (mD l)) := by
  intro q hq
  obtain ⟨i, hi, he⟩ := List.getElem_of_mem hq
  have hi' : i < l.length := by simp [mC, mD] at hi; exact hi
  have h1 := mC_at hN i hi'
  have h2 := mD_at hl i hi'
  rw [← he]
  simp [List.getD_eq_getElem?_getD, mC, mD, hi'] at h1 h2
  simp [mC, mD]
  exact ⟨h1, h2⟩
end Go.Proofs.Ytllbcohfelgamaa
