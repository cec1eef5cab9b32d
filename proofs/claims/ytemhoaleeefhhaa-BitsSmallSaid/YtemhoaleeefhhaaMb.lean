/- Ranks of members: plain laws; Pick; what the laws keep of a set. -/
import Derived.Test.YtemhoaleeefhhaaProg
import Derived.Test.YtemhoaleeefhhaaMa
namespace Go.Proofs.Ytemhoaleeefhhaa
open Go.RowKit
set_option linter.unusedVariables false

theorem mem_nodup (l : List Int) (N : Nat) : (mem l N).Nodup := by
  unfold mem
  rw [mem_nil_f]
  exact List.Pairwise.filter _ List.nodup_range
theorem nodup_at {L : List Nat} (h : L.Nodup) {i j x : Nat} (hi : L[i]? = some x) (hj : L[j]? = some x) : i = j := by
  obtain ⟨h1, e1⟩ := List.getElem?_eq_some_iff.1 hi
  obtain ⟨h2, e2⟩ := List.getElem?_eq_some_iff.1 hj
  have hp := List.pairwise_iff_getElem.1 h
  rcases Nat.lt_trichotomy i j with hl | rfl | hl
  · exact absurd (e1.trans e2.symm) (hp i j h1 h2 hl)
  · rfl
  · exact absurd (e2.trans e1.symm) (hp j i h2 h1 hl)
theorem mem_at {l : List Int} {N k m : Nat} (h : (mem l N)[k]? = some m) : m < N ∧ bt l m = true := by
  have := mem_iff.1 (List.mem_of_getElem? h)
  exact ⟨this.2.1, this.2.2⟩
theorem rank_at {l : List Int} {N k m : Nat} (h : (mem l N)[k]? = some m) : cnt l m = k := by
  obtain ⟨h1, h2⟩ := mem_at h
  exact nodup_at (mem_nodup l N) (mem_rank h1 h2) h
theorem rank_at1 {l : List Int} {N k m : Nat} (h : (mem l N)[k]? = some m) : cnt l (m + 1) = k + 1 := by
  rw [cnt_succ, rank_at h, (mem_at h).2]; rfl
theorem next_at {l : List Int} {N f : Nat} (hf : f ≤ N) : (memF l f N).head? = (mem l N)[cnt l f]? := by
  have := mem_drop l f N 0 hf
  rw [Nat.add_zero] at this
  rw [this, List.head?_eq_getElem?]
theorem nextF_at {l : List Int} {N f : Nat} (hr : RightW (N : Int) l) (hf : f ≤ N) : nextF l N f = (mem l N)[cnt l f]? := by
  unfold nextF
  rw [if_pos hr, show (max (f : Int) 0).toNat = f by omega, Int.toNat_natCast, next_at hf]
theorem rankF_at {l : List Int} {N f : Nat} (hr : RightW (N : Int) l) (hf : f ≤ N) : rankF l N f = cnt l f := by
  unfold rankF
  rw [if_pos hr, show (min (f : Int) (N : Int)).toNat = f by omega]
theorem rankF_top {l : List Int} {N : Nat} {i : Int} (hr : RightW (N : Int) l) (hi : (N : Int) ≤ i) : rankF l N i = (mem l N).length := by
  unfold rankF
  rw [if_pos hr, show (min i (N : Int)).toNat = N by omega, mem_len]
theorem rankF_low {l : List Int} {N : Nat} {i : Int} (hr : RightW (N : Int) l) (hi : i ≤ 0) : rankF l N i = 0 := by
  unfold rankF
  rw [if_pos hr, show (min i (N : Int)).toNat = 0 by omega]; rfl
theorem selF_at {l : List Int} {N k : Nat} (hr : RightW (N : Int) l) : selF l N (k : Int) = (mem l N)[k]? := by
  unfold selF
  rw [if_pos ⟨hr, by omega⟩, Int.toNat_natCast, Int.toNat_natCast]
theorem selF_neg {l : List Int} {N k : Int} (hk : k < 0) : selF l N k = none := by
  unfold selF
  rw [if_neg (by omega)]
theorem selF_over {l : List Int} {N : Nat} {k : Int} (hr : RightW (N : Int) l) (hk : ((mem l N).length : Int) ≤ k) : selF l N k = none := by
  obtain ⟨j, rfl⟩ : ∃ j : Nat, k = (j : Int) := ⟨k.toNat, by omega⟩
  rw [selF_at hr, List.getElem?_eq_none (by omega)]
theorem before_zero {l : List Int} {N m : Nat} (hr : RightW (N : Int) l) (h : (mem l N)[0]? = some m) : beforeF l N m = none := by
  unfold beforeF
  rw [rankF_at hr (Nat.le_of_lt (mem_at h).1), rank_at h]
  exact selF_neg (by decide)
theorem before_succ {l : List Int} {N k m : Nat} (hr : RightW (N : Int) l) (h : (mem l N)[k + 1]? = some m) : beforeF l N m = (mem l N)[k]? := by
  unfold beforeF
  rw [rankF_at hr (Nat.le_of_lt (mem_at h).1), rank_at h, show ((k + 1 : Nat) : Int) - 1 = (k : Int) by omega, selF_at hr]
theorem hasF_at {l : List Int} {N m : Nat} (hr : RightW (N : Int) l) (hm : m < N) : hasF l N m = bt l m := by
  unfold hasF
  have h1 : decide ((m : Int) < (N : Int)) = true := by simp; omega
  have h0 : decide ((0 : Int) ≤ (m : Int)) = true := by simp
  rw [decide_eq_true hr, h0, h1, Int.toNat_natCast]; simp
theorem hasF_mem {l : List Int} {N k m : Nat} (hr : RightW (N : Int) l) (h : (mem l N)[k]? = some m) : hasF l N m = true := by
  rw [hasF_at hr (mem_at h).1, (mem_at h).2]
theorem hasF_next {l : List Int} {N a : Nat} (hr : RightW (N : Int) l) : hasF l N a = decide ((mem l N)[cnt l a]? = some a) := by
  by_cases ha : a < N
  · rw [hasF_at hr ha]
    cases hb : bt l a with
    | true => rw [mem_rank ha hb]; simp
    | false =>
      rw [eq_comm, decide_eq_false_iff_not]
      intro h
      have := (mem_at h).2
      rw [hb] at this; cases this
  · have h1 : hasF l N a = false := by
      unfold hasF
      have : decide ((a : Int) < (N : Int)) = false := by simp; omega
      rw [this]; simp
    rw [h1, eq_comm, decide_eq_false_iff_not]
    intro h
    exact ha (mem_at h).1
theorem mem_le (l : List Int) (N : Nat) : (mem l N).length ≤ N := by rw [mem_len]; exact cnt_le l N
theorem cnt_top (l : List Int) (N a : Nat) (ha : a ≤ N) : cnt l a ≤ (mem l N).length := by rw [mem_len]; exact cnt_mono ha

abbrev castN (L : List Nat) : List Int := L.map fun i : Nat => (i : Int)
theorem intsN_cast (L : List Nat) : intsN L = (castN L).map (Value.int .i64) := by simp [intsN]
theorem castN_at {L : List Nat} {k m : Nat} (h : L[k]? = some m) : (castN L).getD k 0 = (m : Int) := by
  rw [List.getD, List.getElem?_map, h]; rfl

/-- A set in a box, as the laws hold it. -/
structure BS (w W : World) (b : Nat) (N : Int) (A : Option Addr) (n c : Nat) (zs : List Int) : Prop where
  bel : Below w.heap.size w W
  box : SetB W b N A n c
  see : Sees W 1 A n c (zs.map (Value.int .u64))
theorem BS.step {w W W' : World} {b n c : Nat} {N : Int} {A : Option Addr} {zs : List Int} (h : BS w W b N A n c zs) (k : Below W.heap.size W W') : BS w W' b N A n c zs := ⟨below_step h.bel k, h.box.below k (Nat.le_refl _), h.see.below k (Nat.le_refl _)⟩
theorem BS.alloc {w W : World} {b n c : Nat} {N : Int} {A : Option Addr} {zs : List Int} (h : BS w W b N A n c zs) (o : Obj) : BS w (W.alloc o) b N A n c zs := h.step ((Below.refl _ _).alloc (Nat.le_refl _) _)
theorem BS.new {w W : World} {n c : Nat} {N : Int} {A : Option Addr} {zs : List Int} (hb : Below w.heap.size w W) (h : Sees W 1 A n c (zs.map (Value.int .u64))) : BS w (W.alloc (.cells #[.int .i64 N, .slice A n c] 24)) W.heap.size N A n c zs :=
  ⟨hb.alloc hb.size _, SetB.new _ _ _ _ _, h.below ((Below.refl _ _).alloc (Nat.le_refl _) _) (Nat.le_refl _)⟩

set_option maxRecDepth 20000 in
theorem Pick_any (x : Int) (n : Nat) (w : World) (hn : 1 ≤ n) (hn2 : n ≤ 1000000) :
    Calls Try.prog 23 #[.int .i64 x, .int .i64 (n : Int)] w fun e w' => e = .returned (.int .i64 (x % (n : Int))) ∧ w = w' := by
  have d0 : decide ((n : Int) < 1) = false := by simp; omega
  have d1 : ((n : Int) == 0) = false := by simp; omega
  obtain ⟨y, hy⟩ : ∃ y, x.tmod (n : Int) = y := ⟨_, rfl⟩
  have h1 : x % (n : Int) = if y < 0 then y + (n : Int) else y := by
    rw [← hy, Int.tmod_eq_emod]
    have h2 := Int.emod_nonneg x (show (n : Int) ≠ 0 by omega)
    have h3 := Int.emod_lt_of_pos x (show (0 : Int) < (n : Int) by omega)
    have h4 : ((n : Int).natAbs : Int) = (n : Int) := by omega
    split <;> split <;> omega
  have hb : -(n : Int) ≤ y ∧ y < (n : Int) := by
    have h2 := Int.emod_nonneg x (show (n : Int) ≠ 0 by omega)
    have h3 := Int.emod_lt_of_pos x (show (0 : Int) < (n : Int) by omega)
    rw [h1] at h2 h3
    split at h2 <;> split at h3 <;> omega
  have hn3 : (n : Int) ≤ 1000000 := by omega
  have hwy : IntKind.i64.wrap y = y := IntWalk.i64_in _ (by omega)
  have hwy2 : IntKind.i64.wrap (y + (n : Int)) = y + (n : Int) := IntWalk.i64_in _ (by omega)
  obtain ⟨hb1, hb2⟩ := hb
  rw [h1]
  clear h1
  by_cases h0 : y < 0
  · rw [if_pos h0]
    have d2 : decide (y < 0) = true := by simpa using h0
    clear h0
    go_enter Try.func23, Try.ntmps23
    go_wp2
    go_ret
    exact ⟨rfl, rfl⟩
  · rw [if_neg h0]
    have d2 : decide (y < 0) = false := by simpa using h0
    clear h0
    go_enter Try.func23, Try.ntmps23
    go_wp2
    go_ret
    exact ⟨rfl, rfl⟩
end Go.Proofs.Ytemhoaleeefhhaa
