/- Walks: sameRuns, is, asked. -/
import Derived.Test.YtemhoaleeefhhaaProg
import Derived.Test.YtemhoaleeefhhaaBj2
import Derived.Test.YtemhoaleeefhhaaBr
import Derived.Test.YtemhoaleeefhhaaSb64
import Derived.Laws.StructEq
namespace Go.Proofs.Ytemhoaleeefhhaa
open Go.RowKit
set_option linter.unusedVariables false

theorem arr2_sameB (w : World) (d : Nat) (a b : Int) : (Op.equalIn (d + 2) 47 (.agg #[.int .i64 a, .int .i64 b]) (.agg #[.int .i64 a, .int .i64 b])).run Try.prog w = .ok true w := by
  have e1 := Try.underlying47
  have e3 := fun w a b => run_equalIn_int (P := Try.prog) w d 3 .i64 .i64 a b Try.underlying3
  unfold Op.equalIn
  simp [run_underlying e1, go_sem, List.range', isAgg, run_underlying Try.underlying3, e3, sizeOf, show Try.t3.size = 1 from rfl]
theorem arr2_neq (w : World) (a b : Int) : (binOp .neq 47 (.agg #[.int .i64 a, .int .i64 b]) (.agg #[.int .i64 a, .int .i64 b])).run Try.prog w = .ok (.bool false) w := by
  rw [run_neq_struct, arr2_sameB w 9998 a b]
  rfl

theorem SeesR.at_ {w : World} {A : Option Addr} {n c k : Nat} {rs : List (Nat × Nat)} (h : Sees w 2 A n c (flatR rs)) (hk : k < n) :
    ∃ b o, A = some ⟨b, o, none⟩ ∧ w.cell? ⟨b, o + k * 2, none⟩ = some (.int .i64 ((rs.getD k (0, 0)).1 : Int)) ∧ w.cell? ⟨b, o + k * 2 + 1, none⟩ = some (.int .i64 ((rs.getD k (0, 0)).2 : Int)) := by
  have hl : rs.length = n := by have := h.len; rw [flatR_len] at this; omega
  have e : rs = rs.take k ++ (rs.getD k (0, 0)) :: rs.drop (k + 1) := by
    rw [show rs.getD k (0, 0) = rs[k]'(by omega) by simp [List.getD, show k < rs.length by omega], ← List.drop_eq_getElem_cons (by omega), List.take_append_drop]
  have ht : (rs.take k).length = k := by rw [List.length_take]; omega
  generalize rs.getD k (0, 0) = r at e ⊢
  rw [e] at h
  have g0 : (flatR (rs.take k ++ r :: rs.drop (k + 1)))[k * 2]? = some (.int .i64 (r.1 : Int)) := by
    rw [flatR_app, List.getElem?_append_right (by rw [flatR_len, ht]; omega), flatR_len, ht, Nat.sub_self]; rfl
  have g1 : (flatR (rs.take k ++ r :: rs.drop (k + 1)))[k * 2 + 1]? = some (.int .i64 (r.2 : Int)) := by
    rw [flatR_app, List.getElem?_append_right (by rw [flatR_len, ht]; omega), flatR_len, ht, Nat.add_sub_cancel_left]; rfl
  obtain ⟨b, o, hA, c0⟩ := Sees.look h _ _ g0
  obtain ⟨b1, o1, hA1, c1⟩ := Sees.look h _ _ g1
  subst hA
  cases hA1
  exact ⟨b, o, rfl, c0, by rw [Nat.add_assoc]; exact c1⟩

set_option maxRecDepth 20000 in
set_option maxHeartbeats 800000 in
theorem sameRuns_same (A1 A2 : Option Addr) (n c1 c2 : Nat) (rs : List (Nat × Nat)) (w : World) (h1 : Sees w 2 A1 n c1 (flatR rs)) (h2 : Sees w 2 A2 n c2 (flatR rs)) (hn : n ≤ 100000) :
    Calls Try.prog 43 #[.slice A1 n c1, .slice A2 n c2] w fun e w' => e = .returned (.bool true) ∧ Below w.heap.size w w' := by
  have hq := arr2_neq
  go_enter Try.func43, Try.ntmps43
  go_wp2
  go_loopw [5, 13] (fun _ i wr => ∃ k : Nat, k ≤ n ∧ i = .int .i64 (k : Int) ∧ Below w.heap.size w wr) (fun _ i _ => n - (intOf i).toNat)
  case atStart => exact ⟨0, Nat.zero_le _, rfl, Below.refl _ _⟩
  case round =>
    obtain ⟨k, hk, rfl, hb⟩ := hrel
    by_cases hlt : k < n
    · obtain ⟨b1, o1, rfl, g0, g1⟩ := SeesR.at_ (h1.below hb (Nat.le_refl _)) hlt
      obtain ⟨b2, o2, rfl, g2, g3⟩ := SeesR.at_ (h2.below hb (Nat.le_refl _)) hlt
      generalize ((rs.getD k (0, 0)).1 : Int) = x at g0 g2
      generalize ((rs.getD k (0, 0)).2 : Int) = y at g1 g3
      go_wp2_with fail
      go_quiet (fail)
      go_wp2
      go_roundw
      case rel => exact ⟨k + 1, by omega, by go_num, below_drewN hb _⟩
      case measure => simp [intOf]; omega
    · obtain rfl : k = n := by omega
      go_wp2
      go_ret
      exact ⟨rfl, hb⟩

/-- What asked is told where there is none: -1. -/
def wantV (o : Option Nat) : Int := match o with
  | some m => (m : Int)
  | none => -1
set_option maxRecDepth 20000 in
theorem asked_same (o : Option Nat) (a : Int) (b : Bool) (w : World) (h : optV o = .tuple #[.int .i64 a, .bool b]) :
    Calls Try.prog 48 #[.int .i64 a, .bool b, .int .i64 (wantV o)] w fun e w' => e = .returned (.bool true) ∧ w = w' := by
  cases o with
  | none =>
    simp only [optV, Value.tuple.injEq, Array.mk.injEq, List.cons.injEq, Value.int.injEq, Value.bool.injEq, and_true, true_and] at h
    obtain ⟨rfl, rfl⟩ := h
    simp only [wantV]
    go_enter Try.func48, Try.ntmps48
    go_wp2
    go_ret
    exact ⟨rfl, rfl⟩
  | some m =>
    simp only [optV, Value.tuple.injEq, Array.mk.injEq, List.cons.injEq, Value.int.injEq, Value.bool.injEq, and_true, true_and] at h
    obtain ⟨rfl, rfl⟩ := h
    simp only [wantV]
    have d0 : decide ((0 : Int) ≤ (m : Int)) = true := by simp
    have hm : (if (m : Int) < 0 then (0 : Int) else (m : Int)) = (m : Int) := by split <;> omega
    have hm2 : (if (0 : Int) < (m : Int) then (m : Int) else 0) = (m : Int) := by split <;> omega
    have hm3 : (if 0 < m then (m : Int) else 0) = (m : Int) := by split <;> omega
    go_enter Try.func48, Try.ntmps48
    go_wp2
    go_ret
    exact ⟨rfl, rfl⟩

set_option maxRecDepth 20000 in
theorem is_same (N : Int) (A1 A2 : Option Addr) (n1 n2 c1 c2 : Nat) (l : List Int) (w : World) (h1 : Sees w 1 A1 n1 c1 (l.map (Value.int .u64))) (h2 : Sees w 1 A2 n2 c2 (l.map (Value.int .u64))) :
    Calls Try.prog 41 #[setv N A1 n1 c1, setv N A2 n2 c2] w fun e w' => e = .returned (.bool true) ∧ Below w.heap.size w w' := by
  have hb1 := (Below.refl w.heap.size w).alloc (Nat.le_refl _) (.cells #[.int .i64 N, .slice A1 n1 c1] 24)
  have hb2 := Lib.hid (hb1.alloc hb1.size (.cells #[.int .i64 N, .slice A2 n2 c2] 55))
  have H1 := Lib.hid h1
  have H2 := Lib.hid h2
  clear h1 h2 hb1
  go_enter Try.func41, Try.ntmps41
  go_wp2_with (go_at_call 25; refine (SameNums_any A1 A2 n1 n2 c1 c2 l l _ (H1.out.below hb2.out (Nat.le_refl _)) (H2.out.below hb2.out (Nat.le_refl _))).mono ?_; rw [eqL_self]; rintro e w1 ⟨rfl, k1⟩)
  go_ret
  exact ⟨rfl, below_step hb2.out k1⟩
end Go.Proofs.Ytemhoaleeefhhaa
