/- Walks: OverInts, Len; the reference's Right, with, Until, Tick, Behind, Ahead. -/
import Derived.Test.YtllbcohfelgamaaProg
import Derived.Test.YtllbcohfelgamaaCo
namespace Go.Proofs.Ytllbcohfelgamaa
open Go.RowKit
set_option linter.unusedVariables false

set_option maxRecDepth 20000 in
theorem Len_any (B p g c n : Nat) (xs : List Int) (w : World) (h : Clk w B p g c n xs) (hn : n ≤ 100000) :
    Calls Try.prog 37 #[.pointer (some ⟨p, 0, none⟩)] w fun e w' => e = .returned (.int .i64 (n : Int)) ∧ Below w.heap.size w w' := by
  have HC := Lib.hid h
  have HN := Lib.hid hn
  clear h hn
  go_enter Try.func37, Try.ntmps37
  go_wp2_with (go_at_call 15; refine (All_any _ _ _ _ _ _ _ HC.out HN.out).mono ?_; rintro e w1 ⟨A1, c1, rfl, o1, b1⟩)
  go_ret
  exact ⟨rfl, b1⟩

set_option maxRecDepth 20000 in
set_option maxHeartbeats 800000 in
theorem OverInts_any (B g c n : Nat) (xs : List Int) (w : World) (h : w.ownsRow B 3 1 (.slice (some ⟨g, 0, none⟩) (n + 12) c) (n + 12) (xs.map (Value.int .i64))) (hn : n ≤ 100000) :
    Calls Try.prog 35 #[.slice (some ⟨g, 0, none⟩) n c] w fun e w' => e = .returned (.tuple #[]) ∧ Keeps g w w' := by
  have hc := (sees_own h).cap
  have hm : (if (n : Int) + 12 < (c : Int) then (n : Int) + 12 else (c : Int)) = ((n + 12 : Nat) : Int) := by split <;> omega
  have hm' : (if n + 12 < c then (n : Int) + 12 else (c : Int)) = ((n + 12 : Nat) : Int) := by split <;> omega
  have hcut := fun w => run_cutr E_int (some ⟨g, 0, none⟩) n c (n + 12) hc w
  have hn2 : (n : Int) ≤ 100000 := by omega
  have HN := Lib.hid hn
  clear hc hn
  obtain ⟨m, hmn⟩ : ∃ m, n + 12 = m := ⟨_, rfl⟩
  rw [hmn] at h hm hm' hcut
  have hm2 : (m : Int) ≤ 100012 := by omega
  have HMN := Lib.hid hmn
  clear hmn
  go_enter Try.func35, Try.ntmps35
  go_wp2
  go_loopw [3] (fun i wr => ∃ (k : Nat) (ys : List Int), Hid (k ≤ m) ∧ i = .int .i64 (k : Int) ∧ wr.ownsRow B 3 1 (.slice (some ⟨g, 0, none⟩) m c) m (ys.map (Value.int .i64)) ∧ Keeps g w wr) (fun i _ => m - (intOf i).toNat)
  case atStart => exact ⟨0, xs, Lib.hid (Nat.zero_le _), rfl, h, Keeps.refl _ _⟩
  case round =>
    obtain ⟨k, ys, HK, rfl, ho, hkp⟩ := hrel
    by_cases hlt : k < m
    · obtain ⟨g1, g2⟩ := own_cellK ho hlt
      have d1 : decide ((k : Int) < (m : Int)) = true := by simp; omega
      have hk2 : (k : Int) < (m : Int) := by omega
      have HLT := Lib.hid hlt
      obtain ⟨v, hv⟩ : ∃ v : Int, 1000003 * (2 + 7) + (k : Int) = v := ⟨_, rfl⟩
      have HV := Lib.hid hv
      have hset := own_setK ho k v
      clear hlt hv
      go_wp2_with (go_at_call 50; refine (mark_any _ _ _ (by omega) (by omega) (by omega) (by omega)).mono ?_; rw [HV.out]; rintro e w1 ⟨rfl, rfl⟩)
      go_roundw
      case rel => exact ⟨k + 1, ys.set k v, Lib.hid HLT.out, by go_num, hset, hkp.trans (Keeps.set _ _ _ _)⟩
      case measure => have := HLT.out; simp [intOf]; omega
    · have d1 : decide ((k : Int) < (m : Int)) = false := by simp; omega
      have d1' : decide (k < m) = false := by simp; omega
      clear hlt
      go_wp2
      go_end0
      exact ⟨rfl, hkp⟩

/-- The address is the same one, or one of a new block. -/
def From (w : World) (A A' : Option Addr) : Prop := A' = A ∨ ∃ g, A' = some ⟨g, 0, none⟩ ∧ w.heap.size ≤ g

set_option maxRecDepth 20000 in
theorem with_any (A : Option Addr) (n c k : Nat) (l : List Int) (t : Int) (w : World) (h : Sees w 1 A n c (l.map (Value.int .i64))) (hn : n ≤ 100000) (hk : k < n) :
    Calls Try.prog 51 #[.slice A n c, .int .i64 (k : Int), .int .i64 t] w fun e w' => ∃ A' c', e = .returned (.slice A' n c') ∧ Sees w' 1 A' n c' ((l.set k t).map (Value.int .i64)) ∧ From w A A' ∧ Below w.heap.size w w' := by
  have HK := Lib.hid hk
  have hk2 : (k : Int) < (n : Int) := by omega
  clear hk
  go_enter Try.func51, Try.ntmps51
  go_wp2_with (at_builtin; refine wpList_app E_int rfl _ _ rfl rfl (World.ownsRow_lit (base := w.heap.size) (e := 3) (size := 1) w #[] 0 (Nat.le_refl _) (by decide) rfl) rfl (h.below ((Below.refl _ _).alloc (Nat.le_refl _) _) (Nat.le_refl _)) (ints1 _ _) (by simp [maxLen]; omega) (by omega) (by simp) ?_; intro A2 c2 w2 hown2 hg2 hb2; simp only [Nat.zero_add] at hown2 ⊢; obtain ⟨g, c3, hA2, hg⟩ := own_addrK hown2 (by have := HK.out; omega); cases hA2; have ho : w2.ownsRow w.heap.size 3 1 (.slice (some ⟨g, 0, none⟩) n c2) n (l.map (Value.int .i64)) := (by simpa using hown2); obtain ⟨g1, g2⟩ := own_cellK ho HK.out; have hset := own_setK ho k t; have B2 := ((Below.refl w.heap.size w).alloc (Nat.le_refl _) (.cells #[] 3)).trans hb2; have HG := Lib.hid hg; clear hown2 hg2 hb2)
  go_ret
  exact ⟨_, c2, rfl, sees_own hset, Or.inr ⟨_, rfl, HG.out⟩, B2.setCell HG.out _⟩
end Go.Proofs.Ytllbcohfelgamaa
