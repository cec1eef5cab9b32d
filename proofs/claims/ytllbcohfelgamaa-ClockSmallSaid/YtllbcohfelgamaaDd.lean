/- Walks: what ClockSmall makes. -/
import Derived.Test.YtllbcohfelgamaaProg
import Derived.Test.YtllbcohfelgamaaDb
import Derived.Test.YtllbcohfelgamaaCy
import Derived.Test.YtllbcohfelgamaaCu
namespace Go.Proofs.Ytllbcohfelgamaa
open Go.RowKit
set_option linter.unusedVariables false

theorem sees_block3 {w : World} {g n : Nat} {st : List (Int × Int × Bool)} {e : TypeId} {fz : Nat × Nat} (h : w.heap[g]? = some (.cells (flatA st).toArray e fz)) (hn : st.length = n) (hc : n ≤ maxLen) : Sees w 3 (some ⟨g, 0, none⟩) n n (flatA st) :=
  ⟨by rw [flatA_len, hn]; omega, Nat.le_refl _, hc, (fun h => by cases h), fun k u hu => ⟨g, 0, rfl, by simp [World.cell?, h, hu]⟩⟩

theorem below_new (w : World) (o : Obj) : Below w.heap.size w (w.alloc o) := (Below.refl _ _).alloc (Nat.le_refl _) _
theorem five (wr W : World) (a b : Int) (hW : ((((((wr.alloc (.cells #[.int .i64 0] 3)).alloc (.cells #[.int .i64 1, .int .i64 281474976710656] 3)).alloc (.cells #[.int .i64 3, .int .i64 3, .int .i64 3] 3)).alloc (.cells #[.int .i64 a, .int .i64 b] 3)).alloc (.cells #[.int .i64 b] 3)).alloc (.cells #[.slice (some ⟨wr.heap.size, 0, none⟩) 1 1, .slice (some ⟨wr.heap.size + 1, 0, none⟩) 2 2, .slice (some ⟨wr.heap.size + 1 + 1, 0, none⟩) 3 3, .slice (some ⟨wr.heap.size + 1 + 1 + 1, 0, none⟩) 2 2, .slice (some ⟨wr.heap.size + 1 + 1 + 1 + 1, 0, none⟩) 1 1] 29)) = W) :
    Below wr.heap.size wr W ∧ wr.heap.size + 1 + 1 + 1 + 1 + 1 < W.heap.size ∧ ∀ i, i < 5 → ∃ A n c l, W.cell? ⟨wr.heap.size + 1 + 1 + 1 + 1 + 1, i, none⟩ = some (.slice A n c) ∧ Sees W 1 A n c (List.map (Value.int .i64) l) := by
  obtain ⟨w1, h1⟩ : ∃ x, wr.alloc (.cells #[.int .i64 0] 3) = x := ⟨_, rfl⟩
  rw [h1] at hW
  obtain ⟨w2, h2⟩ : ∃ x, w1.alloc (.cells #[.int .i64 1, .int .i64 281474976710656] 3) = x := ⟨_, rfl⟩
  rw [h2] at hW
  obtain ⟨w3, h3⟩ : ∃ x, w2.alloc (.cells #[.int .i64 3, .int .i64 3, .int .i64 3] 3) = x := ⟨_, rfl⟩
  rw [h3] at hW
  obtain ⟨w4, h4⟩ : ∃ x, w3.alloc (.cells #[.int .i64 a, .int .i64 b] 3) = x := ⟨_, rfl⟩
  rw [h4] at hW
  obtain ⟨w5, h5⟩ : ∃ x, w4.alloc (.cells #[.int .i64 b] 3) = x := ⟨_, rfl⟩
  rw [h5] at hW
  have n1 : w1.heap.size = wr.heap.size + 1 := by rw [← h1]; simp
  have n2 : w2.heap.size = wr.heap.size + 1 + 1 := by rw [← h2]; simp [n1]
  have n3 : w3.heap.size = wr.heap.size + 1 + 1 + 1 := by rw [← h3]; simp [n2]
  have n4 : w4.heap.size = wr.heap.size + 1 + 1 + 1 + 1 := by rw [← h4]; simp [n3]
  have n5 : w5.heap.size = wr.heap.size + 1 + 1 + 1 + 1 + 1 := by rw [← h5]; simp [n4]
  have n6 : W.heap.size = wr.heap.size + 1 + 1 + 1 + 1 + 1 + 1 := by rw [← hW]; simp [n5]
  have k0 : Below wr.heap.size wr w1 := h1 ▸ below_new _ _
  have k1 : Below w1.heap.size w1 w2 := h2 ▸ below_new _ _
  have k2 : Below w2.heap.size w2 w3 := h3 ▸ below_new _ _
  have k3 : Below w3.heap.size w3 w4 := h4 ▸ below_new _ _
  have k4 : Below w4.heap.size w4 w5 := h5 ▸ below_new _ _
  have k5 : Below w5.heap.size w5 W := hW ▸ below_new _ _
  have j4 := below_step k4 k5
  have j3 := below_step k3 j4
  have j2 := below_step k2 j3
  have j1 := below_step k1 j2
  have s1 : Sees w1 1 (some ⟨wr.heap.size, 0, none⟩) 1 1 (List.map (Value.int .i64) [0]) := by
    rw [← h1]; exact sees_block (heap_alloc_new _ _) rfl (by decide) (by decide) ⟨[], rfl⟩
  have s2 : Sees w2 1 (some ⟨wr.heap.size + 1, 0, none⟩) 2 2 (List.map (Value.int .i64) [1, 281474976710656]) := by
    rw [← h2, ← n1]; exact sees_block (heap_alloc_new _ _) rfl (by decide) (by decide) ⟨[], rfl⟩
  have s3 : Sees w3 1 (some ⟨wr.heap.size + 1 + 1, 0, none⟩) 3 3 (List.map (Value.int .i64) [3, 3, 3]) := by
    rw [← h3, ← n2]; exact sees_block (heap_alloc_new _ _) rfl (by decide) (by decide) ⟨[], rfl⟩
  have s4 : Sees w4 1 (some ⟨wr.heap.size + 1 + 1 + 1, 0, none⟩) 2 2 (List.map (Value.int .i64) [a, b]) := by
    rw [← h4, ← n3]; exact sees_block (heap_alloc_new _ _) rfl (by decide) (by decide) ⟨[], rfl⟩
  have s5 : Sees w5 1 (some ⟨wr.heap.size + 1 + 1 + 1 + 1, 0, none⟩) 1 1 (List.map (Value.int .i64) [b]) := by
    rw [← h5, ← n4]; exact sees_block (heap_alloc_new _ _) rfl (by decide) (by decide) ⟨[], rfl⟩
  refine ⟨below_step k0 j1, by omega, fun i hi => ?_⟩
  have hc : W.heap[wr.heap.size + 1 + 1 + 1 + 1 + 1]? = some (.cells #[.slice (some ⟨wr.heap.size, 0, none⟩) 1 1, .slice (some ⟨wr.heap.size + 1, 0, none⟩) 2 2, .slice (some ⟨wr.heap.size + 1 + 1, 0, none⟩) 3 3, .slice (some ⟨wr.heap.size + 1 + 1 + 1, 0, none⟩) 2 2, .slice (some ⟨wr.heap.size + 1 + 1 + 1 + 1, 0, none⟩) 1 1] 29 (0, 0)) := by
    rw [← hW, ← n5]; exact heap_alloc_new _ _
  match i, hi with
  | 0, _ => exact ⟨_, _, _, _, by simp only [World.cell?, hc]; rfl, s1.below j1 (Nat.le_refl _)⟩
  | 1, _ => exact ⟨_, _, _, _, by simp only [World.cell?, hc]; rfl, s2.below j2 (Nat.le_refl _)⟩
  | 2, _ => exact ⟨_, _, _, _, by simp only [World.cell?, hc]; rfl, s3.below j3 (Nat.le_refl _)⟩
  | 3, _ => exact ⟨_, _, _, _, by simp only [World.cell?, hc]; rfl, s4.below j4 (Nat.le_refl _)⟩
  | 4, _ => exact ⟨_, _, _, _, by simp only [World.cell?, hc]; rfl, s5.below k5 (Nat.le_refl _)⟩
theorem below3 {F w : World} (h : Below F.heap.size F w) (o1 o2 o3 : Obj) : Below F.heap.size F (((w.alloc o1).alloc o2).alloc o3) := by
  have h1 := h.alloc h.size o1
  have h2 := h1.alloc h1.size o2
  exact h2.alloc h2.size o3
theorem sees31 (w : World) (st : List (Int × Int)) (n : Nat) (e : TypeId) (o2 o3 : Obj) (hn : st.length = n) (hm : n ≤ maxLen) : Sees (((w.alloc (.cells (flat st).toArray e)).alloc o2).alloc o3) 2 (some ⟨w.heap.size, 0, none⟩) n n (flat st) :=
  (sees_block2 (heap_alloc_new _ _) hn hm).below (below_step (below_new _ _) (below_new _ _)) (Nat.le_refl _)
theorem sees32 (w : World) (l : List Int) (n g : Nat) (e : TypeId) (o1 o3 : Obj) (hg : g = w.heap.size + 1) (hn : l.length = n) (hm : n ≤ maxLen) : Sees (((w.alloc o1).alloc (.cells (l.map (Value.int .i64)).toArray e)).alloc o3) 1 (some ⟨g, 0, none⟩) n n (l.map (Value.int .i64)) := by
  have e1 : g = (w.alloc o1).heap.size := by simp [hg]
  rw [e1]
  exact (sees_block (heap_alloc_new _ _) (by simp [hn]) (Nat.le_refl _) hm ⟨[], by simp⟩ : Sees ((w.alloc o1).alloc (.cells (l.map (Value.int .i64)).toArray e)) 1 (some ⟨(w.alloc o1).heap.size, 0, none⟩) n n (l.map (Value.int .i64))).below (below_new _ _) (Nat.le_refl _)
theorem sees33 (w : World) (l : List Int) (n g : Nat) (e : TypeId) (o1 o2 : Obj) (hg : g = w.heap.size + 1 + 1) (hn : l.length = n) (hm : n ≤ maxLen) : Sees (((w.alloc o1).alloc o2).alloc (.cells (l.map (Value.int .i64)).toArray e)) 1 (some ⟨g, 0, none⟩) n n (l.map (Value.int .i64)) := by
  have e1 : g = ((w.alloc o1).alloc o2).heap.size := by simp [hg]
  rw [e1]
  exact sees_block (heap_alloc_new _ _) (by simp [hn]) (Nat.le_refl _) hm ⟨[], by simp⟩
theorem six_at (i : Nat) (hi : i < 6) : ∃ n : Nat, n ≤ 100 ∧ ([0, 1, 63, 64, 65, 100] : List Int).getD i 0 = (n : Int) := by
  match i, hi with
  | 0, _ => exact ⟨0, by decide, rfl⟩
  | 1, _ => exact ⟨1, by decide, rfl⟩
  | 2, _ => exact ⟨63, by decide, rfl⟩
  | 3, _ => exact ⟨64, by decide, rfl⟩
  | 4, _ => exact ⟨65, by decide, rfl⟩
  | 5, _ => exact ⟨100, by decide, rfl⟩
end Go.Proofs.Ytllbcohfelgamaa
