/- Walks: slices.Grow of nil, slices.Concat of three rows. -/
import Derived.Test.YthidfmkmklnhhaaProg
import Derived.Test.YthidfmkmklnhhaaYy
import Derived.Test.YthidfmkmklnhhaaQ8
import Derived.Test.YthidfmkmklnhhaaQ9
import Derived.Test.YthidfmkmklnhhaaR
import Derived.Deep.DeepCutAuto
namespace Go.Proofs.Ythidfmkmklnhhaa
open Go.RowKit
set_option linter.unusedVariables false

set_option maxRecDepth 20000 in
theorem Grow0_any (n : Nat) (w : World) (hn : n ≤ 100000) : Calls Try.prog 36 #[.slice none 0 0, .int .i64 (n : Int)] w fun e w' => ∃ A c, e = .returned (.slice A 0 c) ∧ w'.ownsRow w.heap.size 3 1 (.slice A 0 c) 0 [] ∧ Below w.heap.size w w' := by
  have hcut0 := fun w => run_cutr E_ii none 0 0 0 (Nat.le_refl _) w
  have hcutA := fun A m c w => run_cutr E_ii A m c 0 (Nat.zero_le _) w
  have hn9 : (n : Int) ≤ 100000 := by omega
  have HN := Lib.hid hn
  rcases Nat.eq_zero_or_pos n with h0 | h0
  · subst h0
    clear hn
    go_enter Try.func36, Try.ntmps36
    go_wp2_with fail
    go_ret
    exact ⟨none, 0, rfl, World.ownsRow_nil _ _ _ _, Below.refl _ _⟩
  · have d0 : decide ((0 : Int) < (n : Int)) = true := by simp; omega
    have d0' : decide (0 < n) = true := by simp; omega
    have H0 := Lib.hid h0
    have hwn : IntKind.i64.wrap (n : Int) = (n : Int) := IntWalk.i64_in _ (by omega)
    have hwn2 : wrap64 (n : Int) = (n : Int) := IntWalk.wrap64_in _ (by omega)
    clear hn h0
    go_enter Try.func36, Try.ntmps36
    go_wp2_with (at_builtin; refine wpList_appZ E_ii Try.underlying3 rfl _ _ rfl rfl (base := w.heap.size) (xs := []) (World.ownsRow_nil _ _ _ _) (m := n) rfl rfl (by have := HN.out; simp [maxLen]; omega) (by have := HN.out; omega) (Nat.le_refl _) ?_; intro A1 c1 w1 o1 b1; have O1 : Hid (w1.ownsRow w.heap.size 3 1 (.slice A1 (0 + n) c1) (0 + n) ((([] : List Int) ++ List.replicate n 0).map (Value.int .i64)) ∧ Below w.heap.size w w1) := Lib.hid ⟨o1, b1⟩; clear o1 b1)
    go_ret
    have o := O1.out.1
    obtain ⟨g, c', hv, hgb⟩ := own_addrK o (by have := H0.out; omega)
    cases hv
    exact ⟨_, _, rfl, own_pre (n := 0) (xs := []) (by simpa using o) rfl (Nat.zero_le _), O1.out.2⟩

/-- How many elements the first j rows have; what they are. -/
def tn (n : Nat → Nat) : Nat → Nat
  | 0 => 0
  | j + 1 => tn n j + n j
def flt (L : Nat → List Int) : Nat → List Int
  | 0 => []
  | j + 1 => flt L j ++ L j
theorem tn_le {n : Nat → Nat} (h : ∀ j < 3, n j ≤ 200) : ∀ j, j ≤ 3 → tn n j ≤ 200 * j := by
  intro j
  induction j with
  | zero => intro _; exact Nat.le_refl _
  | succ j ih => intro hj; have := ih (by omega); have := h j (by omega); show tn n j + n j ≤ _; omega

set_option maxRecDepth 20000 in
set_option maxHeartbeats 1600000 in
theorem Concat3_any (g : Nat) (A : Nat → Option Addr) (n c : Nat → Nat) (L : Nat → List Int) (w : World) (hg : Arr 22 w g #[.slice (A 0) (n 0) (c 0), .slice (A 1) (n 1) (c 1), .slice (A 2) (n 2) (c 2)]) (hs : ∀ j < 3, Sees w 1 (A j) (n j) (c j) ((L j).map (Value.int .i64))) (hn : ∀ j < 3, n j ≤ 200) :
    Calls Try.prog 17 #[.slice (some ⟨g, 0, none⟩) 3 3] w fun e w' => ∃ A' c', e = .returned (.slice A' (tn n 3) c') ∧ w'.ownsRow w.heap.size 3 1 (.slice A' (tn n 3) c') (tn n 3) ((flt L 3).map (Value.int .i64)) ∧ Below w.heap.size w w' := by
  have HG := Lib.hid hg
  have HS := Lib.hid hs
  have HN := Lib.hid hn
  have hcell : ∀ j < 3, w.cell? ⟨g, j, none⟩ = some (.slice (A j) (n j) (c j)) := fun j hj => by
    rw [hg.c j]
    rcases (show j = 0 ∨ j = 1 ∨ j = 2 by omega) with rfl | rfl | rfl <;> rfl
  have HCC := Lib.hid hcell
  clear hg hs hn hcell
  go_enter Try.func17, Try.ntmps17
  go_wp2_with fail
  go_loopw [3, 11] (fun sv iv wr => ∃ k : Nat, Hid (k ≤ 3) ∧ iv = .int .i64 (k : Int) ∧ sv = .int .i64 (tn n k : Int) ∧ Hid (Below w.heap.size w wr)) (fun _ iv _ => 3 - (intOf iv).toNat)
  case atStart => exact ⟨0, Lib.hid (Nat.zero_le _), rfl, rfl, Lib.hid (Below.refl _ _)⟩
  case round =>
    obtain ⟨k, HK, rfl, rfl, HB⟩ := hrel
    have htn := tn_le HN.out k HK.out
    by_cases hlt : k < 3
    · have d0 : decide ((k : Int) < 3) = true := by simp; omega
      have d0' : decide (k < 3) = true := by simp; omega
      have hk3 : (k : Int) < 3 := by omega
      have e0 : wr.cell? ⟨g, k, none⟩ = some (.slice (A k) (n k) (c k)) := by
        rw [HB.out.cell (show (⟨g, k, none⟩ : Addr).block < w.heap.size from HG.out.lt)]; exact HCC.out k hlt
      have hnk := HN.out k hlt
      have hsm : (tn n k : Int) + (n k : Int) = (tn n (k + 1) : Int) := by show _ = ((tn n k + n k : Nat) : Int); push_cast; rfl
      obtain ⟨s, hsd⟩ : ∃ s, tn n (k + 1) = s := ⟨_, rfl⟩
      have hs9 : s ≤ 2000 := by rw [← hsd]; have := tn_le HN.out (k + 1) (by omega); omega
      rw [hsd] at hsm
      have hw : IntKind.i64.wrap (s : Int) = (s : Int) := IntWalk.i64_in _ (by omega)
      have hw2 : wrap64 (s : Int) = (s : Int) := IntWalk.wrap64_in _ (by omega)
      have d1 : decide ((s : Int) < 0) = false := by simp
      have HLT := Lib.hid hlt
      have HSD := Lib.hid hsd
      clear hlt hsd htn
      go_wp2_with fail
      go_roundw
      case rel => exact ⟨k + 1, Lib.hid HLT.out, by go_num, by rw [HSD.out], HB⟩
      case measure => have := HLT.out; simp [intOf]; omega
    · obtain rfl : k = 3 := by have := HK.out; omega
      clear hlt HK
      go_wp2_with (go_at_call 36; refine (Grow0_any (tn n 3) _ (by omega)).mono ?_; rintro e w1 ⟨A1, c1, rfl, o1, k1⟩; have O1 : Hid (w1.ownsRow w.heap.size 3 1 (.slice A1 0 c1) 0 [] ∧ Below w.heap.size w w1) := Lib.hid ⟨own_base o1 HB.out.size, below_step HB.out k1⟩; clear o1 k1)
      go_loopw [6, 27] (fun sv iv wr => ∃ (k : Nat) (A2 : Option Addr) (c2 : Nat), Hid (k ≤ 3) ∧ iv = .int .i64 (k : Int) ∧ sv = .slice A2 (tn n k) c2 ∧ Hid (wr.ownsRow w.heap.size 3 1 (.slice A2 (tn n k) c2) (tn n k) ((flt L k).map (Value.int .i64)) ∧ Below w.heap.size w wr)) (fun _ iv _ => 3 - (intOf iv).toNat)
      case atStart => exact ⟨0, A1, c1, Lib.hid (Nat.zero_le _), rfl, rfl, O1⟩
      case round =>
        clear O1 HB
        obtain ⟨k, A2, c2, HK, rfl, rfl, HO⟩ := hrel
        have htn := tn_le HN.out k HK.out
        by_cases hlt : k < 3
        · have d0 : decide ((k : Int) < 3) = true := by simp; omega
          have d0' : decide (k < 3) = true := by simp; omega
          have hk3 : (k : Int) < 3 := by omega
          have e0 : wr.cell? ⟨g, k, none⟩ = some (.slice (A k) (n k) (c k)) := by
            rw [HO.out.2.cell (show (⟨g, k, none⟩ : Addr).block < w.heap.size from HG.out.lt)]; exact HCC.out k hlt
          have HNK := Lib.hid (HN.out k hlt)
          have HT := Lib.hid htn
          have HLT := Lib.hid hlt
          have HSK := Lib.hid ((HS.out k hlt).below HO.out.2 (Nat.le_refl _))
          clear hlt htn
          go_wp2_with (at_builtin; refine wpList_app E_ii rfl _ _ rfl rfl (base := w.heap.size) HO.out.1 rfl HSK.out (ints1 _ _) (by have := HNK.out; have := HT.out; have := HK.out; simp [maxLen]; omega) (by have := HNK.out; have := HT.out; have := HK.out; omega) HO.out.2.size ?_; intro A4 c4' w4 hown4 hg4 hb4; have H4 : Hid (w4.ownsRow w.heap.size 3 1 (.slice A4 (tn n (k + 1)) c4') (tn n (k + 1)) ((flt L (k + 1)).map (Value.int .i64)) ∧ Below w.heap.size w w4) := Lib.hid ⟨by show w4.ownsRow w.heap.size 3 1 (.slice A4 (tn n k + n k) c4') (tn n k + n k) ((flt L k ++ L k).map (Value.int .i64)); rw [List.map_append]; exact hown4, HO.out.2.trans hb4⟩; clear hown4 hg4 hb4)
          go_roundw
          case rel => exact ⟨k + 1, A4, c4', Lib.hid HLT.out, by go_num, rfl, H4⟩
          case measure => have := HLT.out; simp [intOf]; omega
        · obtain rfl : k = 3 := by have := HK.out; omega
          clear hlt
          go_wp2_with fail
          go_ret
          exact ⟨A2, c2, rfl, HO.out.1, HO.out.2⟩
end Go.Proofs.Ythidfmkmklnhhaa
