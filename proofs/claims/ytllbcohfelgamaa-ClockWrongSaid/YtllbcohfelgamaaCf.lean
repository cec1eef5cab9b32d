/- Walks: Deltas. -/
import Derived.Test.YtllbcohfelgamaaProg
import Derived.Test.YtllbcohfelgamaaCe
import Derived.Test.YtllbcohfelgamaaQ5
import Derived.Deep.RegionLaw
namespace Go.Proofs.Ytllbcohfelgamaa
open Go.RowKit
set_option linter.unusedVariables false

/-- The cells of a row of stamps. -/
def flat (st : List (Int × Int)) : List Value := st.flatMap fun s => [.int .i64 s.1, .int .i64 s.2]
theorem flat_cons (s : Int × Int) (st : List (Int × Int)) : flat (s :: st) = .int .i64 s.1 :: .int .i64 s.2 :: flat st := rfl
theorem flat_app (a b : List (Int × Int)) : flat (a ++ b) = flat a ++ flat b := by simp [flat]
theorem flat_len (st : List (Int × Int)) : (flat st).length = 2 * st.length := by
  induction st with
  | nil => rfl
  | cons s st ih => rw [flat_cons, List.length_cons, List.length_cons, ih, List.length_cons]; omega
theorem flat_get (st : List (Int × Int)) : ∀ k, k < st.length → (flat st)[2 * k]? = some (.int .i64 (st.getD k (0, 0)).1) ∧ (flat st)[2 * k + 1]? = some (.int .i64 (st.getD k (0, 0)).2) := by
  induction st with
  | nil => intro k h; simp at h
  | cons s st ih =>
    intro k h
    cases k with
    | zero => exact ⟨rfl, rfl⟩
    | succ k =>
      have := ih k (by simpa using h)
      rw [flat_cons]
      exact ⟨by simpa [Nat.mul_add] using this.1, by simpa [Nat.mul_add] using this.2⟩
theorem Sees.stamp {w : World} {A : Option Addr} {n c k : Nat} {st : List (Int × Int)} (h : Sees w 2 A n c (flat st)) (hk : k < n) :
    ∃ b o, A = some ⟨b, o, none⟩ ∧ w.cell? ⟨b, o + k * 2, none⟩ = some (.int .i64 (st.getD k (0, 0)).1) ∧ w.cell? ⟨b, o + k * 2 + 1, none⟩ = some (.int .i64 (st.getD k (0, 0)).2) := by
  have hl : st.length = n := by have := h.len; rw [flat_len] at this; omega
  obtain ⟨e1, e2⟩ := flat_get st k (by omega)
  obtain ⟨b, o, hA, c1⟩ := h.look _ _ e1
  obtain ⟨b', o', hA', c2⟩ := h.look _ _ e2
  subst hA
  cases hA'
  rw [Nat.mul_comm 2 k] at c1 c2
  exact ⟨b, o, rfl, c1, by rw [Nat.add_assoc]; exact c2⟩

theorem stamp_fst {st : List (Int × Int)} {k : Nat} (h : k < st.length) : (st.take (k + 1)).map (·.1) = (st.take k).map (·.1) ++ [(st.getD k (0, 0)).1] := by
  rw [List.take_succ_eq_append_getElem h, List.map_append]; simp [List.getD, h]
theorem stamp_snd {st : List (Int × Int)} {k : Nat} (h : k < st.length) : (st.take (k + 1)).map (·.2) = (st.take k).map (·.2) ++ [(st.getD k (0, 0)).2] := by
  rw [List.take_succ_eq_append_getElem h, List.map_append]; simp [List.getD, h]

set_option maxRecDepth 20000 in
set_option maxHeartbeats 3200000 in
theorem Deltas_any (n : Int) (A : Option Addr) (m c : Nat) (st : List (Int × Int)) (w : World) (s1 : Sees w 2 A m c (flat st)) (hb : m ≤ 10000) :
    Calls Try.prog 24 #[.int .i64 n, .slice A m c] w fun e w' => ∃ A c m, e = .returned (.tuple #[.slice A m c, .int .i64 (eachF untilF n (st.map (·.1)) (st.map (·.2))).2]) ∧ w'.ownsRow w.heap.size 3 1 (.slice A m c) m (((eachF untilF n (st.map (·.1)) (st.map (·.2))).1.map (·.2)).map (Value.int .i64)) ∧ Below w.heap.size w w' := by
  have hl : st.length = m := by have := s1.len; rw [flat_len] at this; omega
  have HL := Lib.hid (And.intro hl hb)
  have hm3 : (m : Int) ≤ 10000 := by omega
  clear hl hb
  go_enter Try.func24, Try.ntmps24
  go_wp2
  go_loopw [6, 7, 13] (fun v1 v2 i wr => ∃ (k c1 c2 : Nat) (A1 A2 : Option Addr), Hid (k ≤ m) ∧ i = .int .i64 (k : Int) ∧ v1 = .slice A1 k c1 ∧ v2 = .slice A2 k c2 ∧ wr.ownsRow w.heap.size 3 1 (.slice A1 k c1) k (((st.take k).map (·.1)).map (Value.int .i64)) ∧ wr.ownsRow w.heap.size 3 1 (.slice A2 k c2) k (((st.take k).map (·.2)).map (Value.int .i64)) ∧ (∀ q, (Value.slice A1 k c1).ownBlock = some q → (Value.slice A2 k c2).ownBlock ≠ some q) ∧ Below w.heap.size w wr) (fun _ _ i _ => m - (intOf i).toNat)
  case atStart => exact ⟨0, 0, 0, none, none, Lib.hid (Nat.zero_le _), rfl, rfl, rfl, World.ownsRow_nil _ _ _ _, World.ownsRow_nil _ _ _ _, (fun q h => by cases h), Below.refl _ _⟩
  case round =>
    obtain ⟨k, c1, c2, A1, A2, HK, rfl, rfl, rfl, o1, o2, hne, hbl⟩ := hrel
    by_cases hlt : k < m
    · obtain ⟨ba, oa, hA1, g1, g2⟩ := (s1.below hbl (Nat.le_refl _)).stamp hlt
      cases hA1
      obtain ⟨x, hx⟩ : ∃ x, (st.getD k (0, 0)).1 = x := ⟨_, rfl⟩
      obtain ⟨y, hy⟩ : ∃ x, (st.getD k (0, 0)).2 = x := ⟨_, rfl⟩
      rw [hx] at g1
      rw [hy] at g2
      have d3 : decide ((k : Int) < (m : Int)) = true := by simp; omega
      have hk2 : (k : Int) ≤ 9999 := by omega
      have HLT := Lib.hid hlt
      have HXY := Lib.hid (And.intro hx hy)
      clear hlt hx hy
      go_wp2_with fail
      have hne1 : ∀ q, wr.heap.size ≤ q → some q ≠ (Value.slice A1 k c1).ownBlock := fun q hq e => by have := (own_blk o1 q e.symm).2; omega
      have hne2 : ∀ q, wr.heap.size ≤ q → some q ≠ (Value.slice A2 k c2).ownBlock := fun q hq e => by have := (own_blk o2 q e.symm).2; omega
      have hk1 : ∀ W, wr.grownBy W none → W.ownsRow w.heap.size 3 1 (.slice A1 k c1) k (((st.take k).map (·.1)).map (Value.int .i64)) := fun W h => o1.kept h (by cases (Value.slice A1 k c1).ownBlock <;> simp)
      have HN : (Value.slice A2 k c2).ownBlock = none ∨ (Value.slice A2 k c2).ownBlock ≠ (Value.slice A1 k c1).ownBlock := by
        cases h : (Value.slice A2 k c2).ownBlock with
        | none => exact .inl rfl
        | some q => exact .inr fun e => hne q e.symm h
      have hk2 : ∀ W, wr.grownBy W none → W.ownsRow w.heap.size 3 1 (.slice A2 k c2) k (((st.take k).map (·.2)).map (Value.int .i64)) := fun W h => o2.kept h (by cases (Value.slice A2 k c2).ownBlock <;> simp)
      go_region_law (first
        | (refine step_app2 E_int rfl (.tmp 22) (.tmp 25) rfl rfl (base := w.heap.size) (by first | exact o24 | exact o24.alloc _) rfl (sees_lit (u := .int .i64 y) (e := 3) (by first | exact lit_new rfl | exact HK4 _ _ (lit_drew (lit_new (by simp))) (by omega) | exact HK4 _ _ (lit_drew (lit_skip (lit_new (by simp)))) (by omega))) (one1 (u := .int .i64 y) rfl) (by decide) (by simp [maxLen]; omega) (by omega) (by have := hbl.size; simp at hsz4 ⊢; omega) ?_; intro A7 c7 w7 hown7 hg7 hb7 hl7; have o17 := own_kept_as (by first | exact hown4 | exact hown4.alloc _) hg7 (ne_row (ne_swap hne4)); have hl8 := lies_mono (w := w4) hl7 (by simp); have hne7 := ne_swap (lies_ne hl8 (ne_swap hne4) (fun q hq => (own_blk hown4 q hq).2)); have hB7 : Below w.heap.size w w7 := (by first | exact hB4.trans hb7 | exact (hB4.alloc hB4.size _).trans hb7); clear hg7 hl7 hb7)
        | (refine step_app2 E_int rfl (.tmp 17) (.tmp 20) rfl rfl (base := w.heap.size) (hk1 _ (by first | exact gb2 wr _ _ | exact gb3 wr _ _ _)) rfl (sees_lit (u := .int .i64 x) (e := 3) (by first | exact lit_drew (lit_new (by simp)) | exact lit_drew (lit_skip (lit_new (by simp))))) (one1 (u := .int .i64 x) rfl) (by decide) (by simp [maxLen]; omega) (by omega) (by have := hbl.size; simp; omega) ?_; intro A4 c4 w4 hown4 hg4 hb4 hl4; have HK4 := grown_kept hg4 hne1; have o24 := own_kept_as (hk2 _ (by first | exact gb2 wr _ _ | exact gb3 wr _ _ _)) hg4 HN; have hS4 : w4.heap[wr.heap.size]? = some (.cells #[.int .i64 x, .int .i64 y] 52 (0, 0)) := HK4 _ _ (by first | exact lit_drew (lit_skip (lit_new rfl)) | exact lit_drew (lit_skip (lit_skip (lit_new rfl)))) (Nat.le_refl _); have hy4 := cell_one hS4; have hsz4 := hg4.size; have hl5 := lies_mono (w := wr) hl4 (by simp; omega); have hne4 := lies_ne hl5 hne (fun q hq => (own_blk o2 q hq).2); have hB4 := (hbl.grown (by first | exact gb2 wr _ _ | exact gb3 wr _ _ _) hbl.size (fun k hk => by cases hk)).trans hb4; clear hg4 hl4 hb4))
      all_goals simp only [Act.put, List.getElem_toArray, List.getElem_cons_succ, List.getElem_cons_zero, List.setIfInBounds_toArray, List.set_cons_succ, List.set_cons_zero]
      all_goals clear hk1 hk2 hne1 hne2 HN HK4 hS4 hy4 hsz4 hne o24 hl5 hl8 hne4 hB4 hown4
      all_goals go_wp2
      all_goals go_roundw
      all_goals first
        | exact ⟨k + 1, c4, c7, A4, A7, Lib.hid HLT.out, by go_num, rfl, rfl, by rw [stamp_fst (by rw [HL.out.1]; exact HLT.out), HXY.out.1, List.map_append]; exact o17, by rw [stamp_snd (by rw [HL.out.1]; exact HLT.out), HXY.out.2, List.map_append]; exact hown7, hne7, hB7⟩
        | (have := HLT.out; simp [intOf]; omega)
    · have hkm : k = m := by have := HK.out; omega
      have d3 : decide ((k : Int) < (m : Int)) = false := by simp; omega
      have d3' : decide (k < m) = false := by simp; omega
      have e1 : st.take k = st := List.take_of_length_le (by rw [HL.out.1, hkm]; exact Nat.le_refl _)
      rw [e1] at o1 o2
      have HKM := Lib.hid hkm
      have HS1 := Lib.hid (sees_own o1)
      have HS2 := Lib.hid (sees_own o2)
      clear hlt hkm e1 o1 o2 hne
      go_wp2_with (go_at_call 48; refine (eachInt_any n _ _ _ _ _ _ (st.map (·.1)) (st.map (·.2)) _ (by exact HS1.out) (by exact HS2.out) (by have := HKM.out; have := HL.out; omega)).mono ?_; rintro e w2 ⟨A5, c5, m5, rfl, o5, b5⟩)
      go_ret2
      exact ⟨A5, c5, m5, rfl, own_base o5 hbl.size, hbl.trans (b5.mono hbl.size)⟩
end Go.Proofs.Ytllbcohfelgamaa
