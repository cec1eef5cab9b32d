/- Walks: stands (RingTells). -/
import Derived.Test.YtgomnifcgaigkaaProg
import Derived.Test.YtgomnifcgaigkaaGx
import Derived.Test.YtgomnifcgaigkaaGt2
import Derived.Test.YtgomnifcgaigkaaHa
import Derived.Deep.RegionHeld3
namespace Go.Proofs.Ytgomnifcgaigkaa
open Go.RowKit Go.Shelf
set_option linter.unusedVariables false

set_option maxRecDepth 20000 in
set_option maxHeartbeats 1600000 in
theorem stands_cons (x1 x2 o ac rf cap : Int) (L : List (Int × Int)) (n B p g c : Nat) (A : Option Addr) (w : World) (h : RngI w B p g ⟨o, ac, rf, cap, ((x1, x2) :: L)⟩) (hr : RefRow w A c ((x1, x2) :: L) p g) (hn : (((x1, x2) :: L) : List (Int × Int)).length = n) (hl : n ≤ 65536) :
    Calls Try.prog 45 #[.pointer (some ⟨p, 0, none⟩), .agg #[.int .i64 cap, .int .i64 o, .int .i64 ac, .int .i64 rf, .slice A n c]] w fun e w' => e = .returned (.bool true) ∧ Below w.heap.size w w' := by
  have hn0 : decide ((0 : Int) < (n : Int)) = true := by simp at hn ⊢; omega
  have hn1 : (0 : Int) < (n : Int) := by simpa using hn0
  have hn2 : decide (0 < n) = true := by simpa using hn0
  have H := Lib.hid (And.intro h (And.intro hr (And.intro hl hn)))
  clear h hr hl hn
  have HW0 := Lib.hid (show Below w.heap.size w (w.alloc (.cells #[.int .i64 cap, .int .i64 o, .int .i64 ac, .int .i64 rf, .slice A n c] 88)) from (Below.refl w.heap.size w).alloc (Nat.le_refl _) _)
  go_enter Try.func45, Try.ntmps45
  go_wp2_with (first
    | (go_at_call 47; have _q := R1; refine (FirstR_some B p g o ac rf cap (x1, x2) L _ (H.out.1.below R1.out.2.1 H.out.1.plt H.out.1.glt)).mono ?_; rintro e w2 ⟨rfl, hb2⟩; have R2 := Lib.hid hb2; clear hb2)
    | (go_at_call 26; have hb0 := HW0.out; refine (AllR_any B p g ⟨o, ac, rf, cap, ((x1, x2) :: L)⟩ _ (H.out.1.below hb0 H.out.1.plt H.out.1.glt)).mono ?_; rintro e w1 ⟨v1, rfl, ⟨A1, c1, rfl, own1⟩, hb1⟩; rw [H.out.2.2.2] at own1 ⊢; have own1 : w1.ownsRow (w.heap.size + 1) 29 2 (.slice A1 n c1) n ((((x1, x2) :: L) : List (Int × Int)).flatMap ceI) := (by simpa using own1); have hz1 : w.heap.size + 1 ≤ w1.heap.size := (by simpa using hb1.size); have hx1 : w1.heap[w.heap.size]? = some (.cells #[.int .i64 cap, .int .i64 o, .int .i64 ac, .int .i64 rf, .slice A n c] 88 (0, 0)) := (hb1.block _ (by simp)).trans (heap_alloc_new w _); have R1 := Lib.hid (And.intro own1 (And.intro (below_step hb0 hb1) (And.intro hz1 hx1))); clear own1 hb1 hz1 hx1 hb0))
  have hx2 := (R2.out.block _ (show w.heap.size < w1.heap.size by have := R1.out.2.2.1; omega)).trans R1.out.2.2.2
  have hz2 := R2.out.size
  have hbW : Below w2.heap.size w2 (w2.alloc (.cells #[.int .i64 x1, .int .i64 x2] 29)) := (Below.refl _ w2).alloc (Nat.le_refl _) _
  have hy2 := heap_alloc_new w2 (.cells #[.int .i64 x1, .int .i64 x2] 29)
  have hsz : w2.heap.size + 1 = (w2.alloc (.cells #[.int .i64 x1, .int .i64 x2] 29)).heap.size := by simp
  generalize w2.alloc (.cells #[.int .i64 x1, .int .i64 x2] 29) = W2 at hbW hy2 hsz ⊢
  have hb3 := below_step R2.out hbW
  have hx3 := (hbW.block _ (show w.heap.size < w2.heap.size by have := R1.out.2.2.1; omega)).trans hx2
  have xc0 : W2.cell? ⟨w.heap.size, 0, none⟩ = some (.int .i64 cap) := by simp [World.cell?, hx3]
  have xc1 : W2.cell? ⟨w.heap.size, 1, none⟩ = some (.int .i64 o) := by simp [World.cell?, hx3]
  have xc2 : W2.cell? ⟨w.heap.size, 2, none⟩ = some (.int .i64 ac) := by simp [World.cell?, hx3]
  have xc3 : W2.cell? ⟨w.heap.size, 3, none⟩ = some (.int .i64 rf) := by simp [World.cell?, hx3]
  have xc4 : W2.cell? ⟨w.heap.size, 4, none⟩ = some (.slice A n c) := by simp [World.cell?, hx3]
  have ho2 := own_below R1.out.1 hb3 (Nat.le_refl _)
  have hlw := R1.out.2.2.1
  have hz3 := hb3.size
  have HS := Lib.hid (show Sees W2 2 A1 n c1 ((((x1, x2) :: L) : List (Int × Int)).flatMap ceI) ∧ Sees W2 2 A n c ((((x1, x2) :: L) : List (Int × Int)).flatMap ceI) ∧ RngI W2 B p g ⟨o, ac, rf, cap, ((x1, x2) :: L)⟩ ∧ p < W2.heap.size ∧ g < W2.heap.size from ⟨sees_own ho2, by have := HeldRow.sees H.out.2.1; rw [H.out.2.2.2] at this; exact this.below (R1.out.2.1.trans (hb3.mono (by omega))) (Nat.le_refl _), H.out.1.below (R1.out.2.1.trans (hb3.mono (by omega))) H.out.1.plt H.out.1.glt, by have := H.out.1.plt; omega, by have := H.out.1.glt; omega⟩)
  have HO := Lib.hid (And.intro ho2 (And.intro hb3 (And.intro hy2 (And.intro hlw (And.intro hz3 hsz)))))
  have hS8 : W2.cell? ⟨w.heap.size, 0, none⟩ = some (.int .i64 cap) ∧ W2.cell? ⟨w.heap.size, 1, none⟩ = some (.int .i64 o) ∧ W2.cell? ⟨w.heap.size, 2, none⟩ = some (.int .i64 ac) ∧ W2.cell? ⟨w.heap.size, 3, none⟩ = some (.int .i64 rf) ∧ W2.cell? ⟨w.heap.size, 4, none⟩ = some (.slice A n c) ∧ Below W2.heap.size W2 W2 := ⟨xc0, xc1, xc2, xc3, xc4, Below.refl _ _⟩
  clear xc0 xc1 xc2 xc3 xc4 hx2 hx3 hbW hy2 hb3 ho2 hlw hz3 hsz hz2
  go_region_held3 (fun w' => w'.cell? ⟨w.heap.size, 0, none⟩ = some (.int .i64 cap) ∧ w'.cell? ⟨w.heap.size, 1, none⟩ = some (.int .i64 o) ∧ w'.cell? ⟨w.heap.size, 2, none⟩ = some (.int .i64 ac) ∧ w'.cell? ⟨w.heap.size, 3, none⟩ = some (.int .i64 rf) ∧ w'.cell? ⟨w.heap.size, 4, none⟩ = some (.slice A n c) ∧ Below W2.heap.size W2 w') (first | exact keep5d hS8 | exact keep5s (by assumption) (by assumption) | assumption) (first
          | (go_at_call 57; refine (same_any A1 A n c1 c ((x1, x2) :: L) _ (HS.out.1.below (And.right (And.right (And.right (And.right (And.right (by assumption)))))) (Nat.le_refl _)) (HS.out.2.1.below (And.right (And.right (And.right (And.right (And.right (by assumption)))))) (Nat.le_refl _)) H.out.2.2.1).mono ?_; rintro e w' ⟨rfl, kk⟩)
          | (go_at_call 19; refine (LenN_any B p g ⟨o, ac, rf, cap, ((x1, x2) :: L)⟩ _ (HS.out.2.2.1.below (And.right (And.right (And.right (And.right (And.right (by assumption)))))) HS.out.2.2.2.1 HS.out.2.2.2.2) n H.out.2.2.2).mono ?_; rintro e w' ⟨rfl, rfl⟩)
          | (go_at_call 48; refine (CapacityR_any B p g ⟨o, ac, rf, cap, ((x1, x2) :: L)⟩ _ (HS.out.2.2.1.below (And.right (And.right (And.right (And.right (And.right (by assumption)))))) HS.out.2.2.2.1 HS.out.2.2.2.2)).mono ?_; rintro e w' ⟨rfl, rfl⟩)
          | (go_at_call 20; refine (OpenR_any B p g ⟨o, ac, rf, cap, ((x1, x2) :: L)⟩ _ (HS.out.2.2.1.below (And.right (And.right (And.right (And.right (And.right (by assumption)))))) HS.out.2.2.2.1 HS.out.2.2.2.2)).mono ?_; rintro e w' ⟨rfl, rfl⟩)
          | (go_at_call 17; refine (AcceptedR_any B p g ⟨o, ac, rf, cap, ((x1, x2) :: L)⟩ _ (HS.out.2.2.1.below (And.right (And.right (And.right (And.right (And.right (by assumption)))))) HS.out.2.2.2.1 HS.out.2.2.2.2)).mono ?_; rintro e w' ⟨rfl, rfl⟩)
          | (go_at_call 18; refine (RefusedR_any B p g ⟨o, ac, rf, cap, ((x1, x2) :: L)⟩ _ (HS.out.2.2.1.below (And.right (And.right (And.right (And.right (And.right (by assumption)))))) HS.out.2.2.2.1 HS.out.2.2.2.2)).mono ?_; rintro e w' ⟨rfl, rfl⟩))
  rename_i hH
  have hHB := hH.2.2.2.2.2
  have hy3 := (hHB.block w2.heap.size (by have := HO.out.2.2.2.2.2; omega)).trans HO.out.2.2.1
  have ho3 := own_below HO.out.1 hHB (Nat.le_refl _)
  have gc0 : w'.cell? ⟨w2.heap.size, 0, none⟩ = some (.int .i64 x1) := by simp [World.cell?, hy3]
  have gc1 : w'.cell? ⟨w2.heap.size, 1, none⟩ = some (.int .i64 x2) := by simp [World.cell?, hy3]
  obtain ⟨q, c1', hq1, hq2⟩ := own_addrK ho3 (by omega)
  cases hq1
  have lc0 : w'.cell? ⟨q, 0, none⟩ = some (.int .i64 x1) := (ho3.cellAt 0 (by have := ho3.1; omega)).trans rfl
  have lc1 : w'.cell? ⟨q, 1, none⟩ = some (.int .i64 x2) := (ho3.cellAt 1 (by have := ho3.1; omega)).trans rfl
  have HE := Lib.hid (And.intro hHB ho3)
  clear hHB hy3 ho3 hH hS8 hq2 hn2
  go_wp2
  go_quiet (fail)
  go_wp2_with (go_at_call 58; refine (spoil_any _ _ _ w.heap.size _ _ (own_lower (own_below HE.out.2 (below_drewN (Below.refl _ w') _) (Nat.le_refl _)) (by omega)) H.out.2.2.1).mono ?_; rintro e w5 ⟨⟨v, rfl⟩, b5⟩; have R5 := Lib.hid b5; clear b5)
  go_ret
  exact ⟨rfl, (below_drewN (R1.out.2.1.trans ((HO.out.2.1.trans (HE.out.1.mono (by have := HO.out.2.2.2.2.1; omega))).mono (by have := HO.out.2.2.2.1; omega))) _).trans R5.out⟩
end Go.Proofs.Ytgomnifcgaigkaa
