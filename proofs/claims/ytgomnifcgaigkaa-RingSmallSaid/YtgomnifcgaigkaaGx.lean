/- Walks: act (RingTells). -/
import Derived.Test.YtgomnifcgaigkaaProg
import Derived.Test.YtgomnifcgaigkaaGw
import Derived.Test.YtgomnifcgaigkaaQ5
namespace Go.Proofs.Ytgomnifcgaigkaa
open Go.RowKit Go.Shelf
set_option linter.unusedVariables false

set_option maxRecDepth 20000 in
set_option maxHeartbeats 800000 in
theorem act_put (S S' : RS (Int × Int)) (N r k x : Int) (B p g c : Nat) (A : Option Addr) (w : World) (h : RngI w B p g S) (hc : Cnt N S) (hN : N ≤ 1000000) (hr : RefRow w A c S.L p g) (hl : S.L.length ≤ 65536) (hk : 0 ≤ k ∧ k < 256) (hk8 : k % 8 < 5) (hS : putR (fun o => (x, o)) S = (S', r)) :
    Calls Try.prog 46 #[.pointer (some ⟨p, 0, none⟩), refV S A c, .agg #[.int .u8 k, .int .i64 x]] w fun e w' => ∃ g' A' c', e = .returned (.tuple #[refV S' A' c', .bool true]) ∧ RngI w' B p g' S' ∧ Cnt (N + 1) S' ∧ RefRow w' A' c' S'.L p g' ∧ (g' = g ∨ w.heap.size ≤ g') ∧ Lies w (.slice A S.L.length c) (.slice A' S'.L.length c') ∧ Spared p g w w' := by
  obtain ⟨o, ac, rf, cap, L⟩ := S
  obtain ⟨o2, ac2, rf2, cap2, L2⟩ := S'
  obtain ⟨q, hq⟩ : ∃ q, k % 8 = q := ⟨_, rfl⟩
  have hq2 : 0 ≤ q ∧ q < 5 := by omega
  have d5 : (q == 5) = false := by simp; omega
  have d6 : (q == 6) = false := by simp; omega
  have d7 : (q == 7) = false := by simp; omega
  have e8 : k.tmod 8 = q := by rw [Int.tmod_eq_emod_of_nonneg hk.1]; exact hq
  have H := Lib.hid (And.intro h (And.intro hc (And.intro hN (And.intro hr (And.intro hl hS)))))
  have HB := Lib.hid h.bp
  unfold refV
  simp only []
  clear h hc hN hr hl hS hk hk8 hq hq2
  have HW0 := Lib.hid (show Below w.heap.size w (((w.alloc (.cells #[.int .i64 cap, .int .i64 o, .int .i64 ac, .int .i64 rf, .slice A L.length c] 88)).alloc (.cells #[.int .u8 k, .int .i64 x] 60)).alloc (.cells #[.int .i64 0, .int .i64 0, .int .i64 0, .int .i64 0, .slice none 0 0] 88)) from (((Below.refl w.heap.size w).alloc (Nat.le_refl _) _).alloc (by simp) _).alloc (by simp <;> omega) _)
  go_enter Try.func46, Try.ntmps46
  go_wp2_with (first
    | (go_at_call 61; have _q := R1; refine (refPut_to ⟨o, ac, rf, cap, L⟩ ⟨o2, ac2, rf2, cap2, L2⟩ r x p g1 c A w1 R1.out.2.2.1 R1.out.1.plt R1.out.1.glt H.out.2.2.2.2.1 (H.out.2.1.mono (by have := H.out.2.2.1; omega)) H.out.2.2.2.2.2).mono ?_; rintro e w2 ⟨A2, c2, rfl, rr, hli, b2⟩; simp only [refV]; have hs1 := R1.out.2.2.2.2.1; have hx2 := (b2.block _ (show w.heap.size < w1.heap.size by omega)).trans R1.out.2.2.2.2.2.2.1; have hz2 := (b2.block _ (show w.heap.size + 1 + 1 < w1.heap.size by omega)).trans R1.out.2.2.2.2.2.2.2.2; have yc0 : w2.cell? ⟨w.heap.size, 0, none⟩ = some (.int .i64 cap) := (by simp [World.cell?, hx2]); have yf0 : w2.frozen? ⟨w.heap.size, 0, none⟩ = false := (by simp [World.frozen?, hx2]); have yc1 : w2.cell? ⟨w.heap.size, 1, none⟩ = some (.int .i64 o) := (by simp [World.cell?, hx2]); have yf1 : w2.frozen? ⟨w.heap.size, 1, none⟩ = false := (by simp [World.frozen?, hx2]); have yc2 : w2.cell? ⟨w.heap.size, 2, none⟩ = some (.int .i64 ac) := (by simp [World.cell?, hx2]); have yf2 : w2.frozen? ⟨w.heap.size, 2, none⟩ = false := (by simp [World.frozen?, hx2]); have yc3 : w2.cell? ⟨w.heap.size, 3, none⟩ = some (.int .i64 rf) := (by simp [World.cell?, hx2]); have yf3 : w2.frozen? ⟨w.heap.size, 3, none⟩ = false := (by simp [World.frozen?, hx2]); have yc4 : w2.cell? ⟨w.heap.size, 4, none⟩ = some (.slice A L.length c) := (by simp [World.cell?, hx2]); have yf4 : w2.frozen? ⟨w.heap.size, 4, none⟩ = false := (by simp [World.frozen?, hx2]); have zc0 : w2.cell? ⟨w.heap.size + 1 + 1, 0, none⟩ = some (.int .i64 0) := (by simp [World.cell?, hz2]); have zf0 : w2.frozen? ⟨w.heap.size + 1 + 1, 0, none⟩ = false := (by simp [World.frozen?, hz2]); have zc1 : w2.cell? ⟨w.heap.size + 1 + 1, 1, none⟩ = some (.int .i64 0) := (by simp [World.cell?, hz2]); have zf1 : w2.frozen? ⟨w.heap.size + 1 + 1, 1, none⟩ = false := (by simp [World.frozen?, hz2]); have zc2 : w2.cell? ⟨w.heap.size + 1 + 1, 2, none⟩ = some (.int .i64 0) := (by simp [World.cell?, hz2]); have zf2 : w2.frozen? ⟨w.heap.size + 1 + 1, 2, none⟩ = false := (by simp [World.frozen?, hz2]); have zc3 : w2.cell? ⟨w.heap.size + 1 + 1, 3, none⟩ = some (.int .i64 0) := (by simp [World.cell?, hz2]); have zf3 : w2.frozen? ⟨w.heap.size + 1 + 1, 3, none⟩ = false := (by simp [World.frozen?, hz2]); have zc4 : w2.cell? ⟨w.heap.size + 1 + 1, 4, none⟩ = some (.slice none 0 0) := (by simp [World.cell?, hz2]); have zf4 : w2.frozen? ⟨w.heap.size + 1 + 1, 4, none⟩ = false := (by simp [World.frozen?, hz2]); have R2 := Lib.hid (And.intro rr (And.intro hli b2)); clear rr hli b2 hs1 hx2 hz2)
    | (go_at_call 14; have hb0 := HW0.out; refine (PutI_to B p g B N x ⟨o, ac, rf, cap, L⟩ ⟨o2, ac2, rf2, cap2, L2⟩ r w _ (H.out.1.below hb0 H.out.1.plt H.out.1.glt) H.out.2.1 H.out.2.2.1 (hb0.mono (by have := HB.out; have := H.out.1.plt; omega)) (Nat.le_refl _) H.out.2.2.2.2.2).mono ?_; rintro e w1 ⟨g1, rfl, h1, c1, hgg, hsp, hb1⟩; have n1 := H.out.1.plt; have n2 := H.out.1.glt; have hx1 : w1.heap[w.heap.size]? = some (.cells #[.int .i64 cap, .int .i64 o, .int .i64 ac, .int .i64 rf, .slice A L.length c] 88 (0, 0)) := (hsp.block _ (by simp <;> omega) (by omega) (by omega)).trans (by exact (Below.heap_alloc _ _ _ (by simp <;> omega)).trans ((Below.heap_alloc _ _ _ (by simp <;> omega)).trans (heap_alloc_new w _))); have ha1 : w1.heap[w.heap.size + 1]? = some (.cells #[.int .u8 k, .int .i64 x] 60 (0, 0)) := (hsp.block _ (by simp <;> omega) (by omega) (by omega)).trans (lit_skip (lit_new (by simp <;> omega))); have hz1 : w1.heap[w.heap.size + 1 + 1]? = some (.cells #[.int .i64 0, .int .i64 0, .int .i64 0, .int .i64 0, .slice none 0 0] 88 (0, 0)) := (hsp.block _ (by simp <;> omega) (by omega) (by omega)).trans (lit_new (by simp <;> omega)); have hg1 : g1 = g ∨ w.heap.size + 1 + 1 + 1 ≤ g1 := (by simpa using hgg); have hs1 : w.heap.size + 1 + 1 + 1 ≤ w1.heap.size := (by simpa using hsp.size); have rr1 : RefRow w1 A c L p g1 := HeldRow.spared (HeldRow.below H.out.2.2.2.1 hb0 (Nat.le_refl _)) hsp hgg; have xc0 : w1.cell? ⟨w.heap.size, 0, none⟩ = some (.int .i64 cap) := (by simp [World.cell?, hx1]); have xc1 : w1.cell? ⟨w.heap.size, 1, none⟩ = some (.int .i64 o) := (by simp [World.cell?, hx1]); have xc2 : w1.cell? ⟨w.heap.size, 2, none⟩ = some (.int .i64 ac) := (by simp [World.cell?, hx1]); have xc3 : w1.cell? ⟨w.heap.size, 3, none⟩ = some (.int .i64 rf) := (by simp [World.cell?, hx1]); have xc4 : w1.cell? ⟨w.heap.size, 4, none⟩ = some (.slice A L.length c) := (by simp [World.cell?, hx1]); have ac0 : w1.cell? ⟨w.heap.size + 1, 0, none⟩ = some (.int .u8 k) := (by simp [World.cell?, ha1]); have ac1 : w1.cell? ⟨w.heap.size + 1, 1, none⟩ = some (.int .i64 x) := (by simp [World.cell?, ha1]); have R1 := Lib.hid (And.intro h1 (And.intro c1 (And.intro rr1 (And.intro ((Spared.of_below hb0 (Nat.le_refl _)).trans hsp) (And.intro hs1 (And.intro hg1 (And.intro hx1 (And.intro ha1 hz1)))))))); clear h1 c1 hgg hsp hb1 n1 n2 hx1 ha1 hz1 hg1 hs1 rr1 hb0))
  have n1 := H.out.1.plt
  have n2 := H.out.1.glt
  have n3 := HB.out
  have hg1 := R1.out.2.2.2.2.2.1
  have hs1 := R1.out.2.2.2.2.1
  have hA2 : ∀ q, w.heap.size ≤ q → q < w1.heap.size → (Value.slice A2 L2.length c2).ownBlock ≠ some q := fun q h1 h2 e => by
    rcases R2.out.2.1 with h | h
    · obtain ⟨b, hr, _⟩ := H.out.2.2.2.1
      have := (own_blk hr q (h.symm.trans e)).2
      omega
    · have := h q e
      omega
  have K1 := Lib.hid (R1.out.1.below R2.out.2.2 R1.out.1.plt R1.out.1.glt)
  have K2 := Lib.hid (R1.out.2.2.2.1.then R2.out.2.2 (Nat.le_refl _))
  refine bodyPost_ret (v := .tuple #[.agg #[.int .i64 cap2, .int .i64 o2, .int .i64 ac2, .int .i64 rf2, .slice A2 L2.length c2], .bool true]) (by simp [results, Try.results46, go_sem, yc0, zc0, yc1, zc1, yc2, zc2, yc3, zc3, yc4, zc4, yf0, zf0, yf1, zf1, yf2, zf2, yf3, zf3, yf4, zf4]) rfl ⟨g1, A2, c2, rfl, ?_, R1.out.2.1, ?_, by omega, R2.out.2.1.imp id (fun h q hq => Nat.le_trans (by omega) (h q hq)), ?_⟩
  · repeat (refine RngI.setO ?_ _ _ _ (by omega) (by omega))
    exact K1.out
  · unfold RefRow
    repeat (refine HeldRow.setO ?_ _ _ _ (hA2 _ (by omega) (by omega)))
    exact R2.out.1
  · repeat (refine Spared.setN ?_ (by omega) _ _)
    exact K2.out
end Go.Proofs.Ytgomnifcgaigkaa
