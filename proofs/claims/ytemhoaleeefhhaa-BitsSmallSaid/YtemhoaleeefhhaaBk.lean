/- Walks: New. -/
import Derived.Test.YtemhoaleeefhhaaProg
import Derived.Test.YtemhoaleeefhhaaBi
import Derived.Test.YtemhoaleeefhhaaBp
namespace Go.Proofs.Ytemhoaleeefhhaa
open Go.RowKit
set_option linter.unusedVariables false

/-- A set made: its own words. -/
def Made (w w' : World) (N : Int) (v : Value) (zs : List Int) : Prop := ∃ A n c, v = setv N A n c ∧ w'.ownsRow w.heap.size 54 1 (.slice A n c) n (zs.map (Value.int .u64))
/-- A set in a box. -/
def SetB (w : World) (b : Nat) (N : Int) (A : Option Addr) (n c : Nat) : Prop := w.heap[b]? = some (.cells #[.int .i64 N, .slice A n c] 24 (0, 0))
theorem SetB.new (w : World) (N : Int) (A : Option Addr) (n c : Nat) : SetB (w.alloc (.cells #[.int .i64 N, .slice A n c] 24)) w.heap.size N A n c := heap_alloc_new _ _
theorem SetB.lt {w : World} {b n c : Nat} {N : Int} {A : Option Addr} (h : SetB w b N A n c) : b < w.heap.size := lt_of_heap h
theorem SetB.c0 {w : World} {b n c : Nat} {N : Int} {A : Option Addr} (h : SetB w b N A n c) : w.cell? ⟨b, 0, none⟩ = some (.int .i64 N) := by
  unfold SetB at h; simp [World.cell?, h]
theorem SetB.c1 {w : World} {b n c : Nat} {N : Int} {A : Option Addr} (h : SetB w b N A n c) : w.cell? ⟨b, 1, none⟩ = some (.slice A n c) := by
  unfold SetB at h; simp [World.cell?, h]
theorem SetB.f {w : World} {b n c : Nat} {N : Int} {A : Option Addr} (h : SetB w b N A n c) (k : Nat) : w.frozen? ⟨b, k, none⟩ = false := by
  unfold SetB at h; simp [World.frozen?, h]
theorem SetB.below {w w' : World} {b n c M : Nat} {N : Int} {A : Option Addr} (h : SetB w b N A n c) (hb : Below M w w') (hM : w.heap.size ≤ M) : SetB w' b N A n c := (hb.block b (Nat.lt_of_lt_of_le h.lt hM)).trans h
theorem SetB.put {w : World} {b n c n' c' : Nat} {N N' : Int} {A A' : Option Addr} (h : SetB w b N A n c) : SetB ((w.setCell ⟨b, 0, none⟩ (.int .i64 N')).setCell ⟨b, 1, none⟩ (.slice A' n' c')) b N' A' n' c' := by
  have e := heap_setCell_same w b 0 _ _ (.int .i64 N') h
  have e2 := heap_setCell_same _ b 1 _ _ (.slice A' n' c') e
  unfold SetB
  simpa using e2
theorem SetB.drew {w : World} {b n c : Nat} {N : Int} {A : Option Addr} (h : SetB w b N A n c) : SetB w.drew b N A n c := h
theorem SetB.alloc {w : World} {b n c : Nat} {N : Int} {A : Option Addr} (h : SetB w b N A n c) (o : Obj) : SetB (w.alloc o) b N A n c := lit_skipB h
theorem below_put {w w' : World} {M b : Nat} (h : Below M w w') (hb : M ≤ b) (u v : Value) : Below M w ((w'.setCell ⟨b, 0, none⟩ u).setCell ⟨b, 1, none⟩ v) := (h.setCell hb _).setCell hb _
theorem made_step {w w1 w2 : World} {N : Int} {v : Value} {zs : List Int} (h : Made w1 w2 N v zs) (hs : w.heap.size ≤ w1.heap.size) : Made w w2 N v zs := by
  obtain ⟨A, n, c, hv, ho⟩ := h
  exact ⟨A, n, c, hv, own_base ho hs⟩
theorem Made.below {w w1 w2 : World} {N : Int} {v : Value} {zs : List Int} {M : Nat} (h : Made w w1 N v zs) (hb : Below M w1 w2) (hM : w1.heap.size ≤ M) : Made w w2 N v zs := by
  obtain ⟨A, n, c, hv, ho⟩ := h
  exact ⟨A, n, c, hv, own_below ho hb hM⟩

set_option maxRecDepth 20000 in
set_option maxHeartbeats 800000 in
theorem New_bad (n : Int) (w : World) (h : n < 0 ∨ 65536 < n) :
    Calls Try.prog 37 #[.int .i64 n] w fun e w' => e = .returned (.tuple #[setv 0 none 0 0, .int .i64 2]) ∧ Below w.heap.size w w' := by
  have HB := Lib.hid ((Below.refl w.heap.size w).alloc (Nat.le_refl _) (.cells #[.int .i64 0, .slice none 0 0] 24))
  by_cases h0 : n < 0
  · have d0 : decide (n < 0) = true := by simpa using h0
    clear h h0
    go_enter Try.func37, Try.ntmps37
    go_wp2
    exact bodyPost_ret (v := .tuple #[.agg #[.int .i64 0, .slice none 0 0], .int .i64 2]) (by simp [results, Try.results37, go_sem]) rfl ⟨rfl, HB.out⟩
  · have d0 : decide (n < 0) = false := by simpa using h0
    have d1 : decide (65536 < n) = true := by simp; omega
    clear h h0
    go_enter Try.func37, Try.ntmps37
    go_wp2
    exact bodyPost_ret (v := .tuple #[.agg #[.int .i64 0, .slice none 0 0], .int .i64 2]) (by simp [results, Try.results37, go_sem]) rfl ⟨rfl, HB.out⟩

set_option maxRecDepth 20000 in
set_option maxHeartbeats 800000 in
theorem New_ok (n : Nat) (w : World) (h : n ≤ 65536) :
    Calls Try.prog 37 #[.int .i64 (n : Int)] w fun e w' => ∃ v, e = .returned (.tuple #[v, .int .i64 0]) ∧ Made w w' n v (List.replicate ((n + 63) / 64) 0) ∧ Below w.heap.size w w' := by
  have HB := Lib.hid ((Below.refl w.heap.size w).alloc (Nat.le_refl _) (.cells #[.int .i64 0, .slice none 0 0] 24))
  have HX := Lib.hid (SetB.new w 0 none 0 0)
  have d0 : decide ((n : Int) < 0) = false := by simp
  have d1 : decide (65536 < (n : Int)) = false := by simp; omega
  obtain ⟨k, hk⟩ : ∃ k, (n + 63) / 64 = k := ⟨_, rfl⟩
  have hq : ((n : Int) + 63) / 64 = (k : Int) := by omega
  have hk2 : k ≤ 1024 := by omega
  have hn2 : (n : Int) ≤ 65536 := by omega
  rw [hk]
  clear hk h
  go_enter Try.func37, Try.ntmps37
  go_wp2_with (at_make; refine wpList_mkF E_u64 rfl _ _ rfl k rfl rfl (by first | rfl | omega) (by first | rfl | omega) (by omega) (by simp [maxLen]; omega) ?_; intro w1 hown1 hg1 hb1; have HO := Lib.hid hown1; have HB1 := Lib.hid hb1; have x1 := HX.out.below hb1 (Nat.le_refl _); have y0 := x1.c0; have y1 := x1.c1; have f0 := x1.f 0; have f1 := x1.f 1; have X1 := Lib.hid x1; clear hown1 hb1 hg1 x1)
  have x2 := X1.out.put (N' := n) (A' := some ⟨w.heap.size + 1, 0, none⟩) (n' := k) (c' := k)
  have z0 := x2.c0
  have z1 := x2.c1
  have ho := HO.out
  rw [World.size_alloc] at ho
  refine bodyPost_ret (v := .tuple #[setv n (some ⟨w.heap.size + 1, 0, none⟩) k k, .int .i64 0]) (by simp [results, Try.results37, go_sem, z0, z1]) rfl ⟨_, rfl, ⟨_, _, _, rfl, ?_⟩, below_put (below_step HB.out HB1.out) (Nat.le_refl _) _ _⟩
  exact own_base (ownsRow_setCell_below (ownsRow_setCell_below ho (Nat.lt_succ_self _) _) (Nat.lt_succ_self _) _) (by omega)
end Go.Proofs.Ytemhoaleeefhhaa
