/- Walks: the reference's Put. -/
import Derived.Test.YtgomnifcgaigkaaProg
import Derived.Test.YtgomnifcgaigkaaGu
import Derived.Test.YtgomnifcgaigkaaQ5
import Derived.Deep.RegionLaw
namespace Go.Proofs.Ytgomnifcgaigkaa
open Go.RowKit Go.Shelf
set_option linter.unusedVariables false

theorem step_app1 {P : Program} {t e : TypeId} {z : Value} {s bytes : Nat} (E : Elem P t e z s bytes) {ops : Array Oper} {o : Oper} {a : Act} {K : Act → World → Prop} {Q : Exit → Act → World → Prop} {w : World} {F : Prop}
    (hgd : o.guard = none) (x y : Operand) (ho : o.op = .call { callee := .builtin .append, args := #[x, y], argTypes := #[t, t] })
    {base : Nat} {A0 : Option Addr} {n c0 : Nat} {xs : List Value} (hs : a.eval x = .slice A0 n c0) (hown : w.ownsRow base e s (.slice A0 n c0) n xs)
    {A : Option Addr} {m c : Nat} {news : List Value} (hx : a.eval y = .slice A m c) (hsee : Sees w s A m c news) (h1 : ∀ u ∈ news, u.oneCell' = true) (h63 : n + m ≤ maxLen) (hb : (n + m) * bytes ≤ 140737488355328) (hbase : base ≤ w.heap.size)
    (h : ∀ A' c' w', w'.ownsRow base e s (.slice A' (n + m) c') (n + m) (xs ++ news) → w.grownBy w' (Value.slice A0 n c0).ownBlock → Below base w w' → K (a.put o.dst (.slice A' (n + m) c')) w') :
    if Region.wanted o (yielded ops a.tmps) = true then Oper.wp P o a w K Q else F := by
  rw [if_pos (by simp [Region.wanted, hgd])]
  obtain ⟨A', c', w', hr, h2, h3, h4⟩ := run_app (ty := o.type) E hown hsee h1 h63 hb hbase
  unfold Oper.wp execOp
  simp only [ho, resolve, invoke, builtin, Sem.run_bind, Sem.run_pure, Result.andThen_ok, List.map_toArray, List.map_cons, List.map_nil, hs, hx, hr]
  exact h A' c' w' h2 h3 h4

theorem sees_lit2 {w : World} {g : Nat} {u v : Value} {e : TypeId} (h : w.heap[g]? = some (.cells #[u, v] e (0, 0))) : Sees w 2 (some ⟨g, 0, none⟩) 1 1 [u, v] :=
  sees_blockS h rfl (Nat.le_refl _) (by decide) ⟨[], rfl⟩

theorem own_empty {W : World} {B g : Nat} (h : W.heap[g]? = some (.cells #[] 116 (0, 0))) (hb : B ≤ g) : W.ownsRow B 116 2 (.slice (some ⟨g, 0, none⟩) 0 0) 0 [] :=
  ⟨rfl, .inr ⟨g, 0, #[], rfl, hb, h, Nat.le_refl _, by decide, rfl, rfl⟩⟩
theorem grown_keep {w w' : World} {r : Option Nat} (h : w.grownBy w' r) : ∀ (g : Nat) (o : Obj), w.heap[g]? = some o → some g ≠ r → w'.heap[g]? = some o := fun g o ho hg =>
  (h.block g (Nat.lt_of_not_le fun h' => by rw [Array.getElem?_eq_none h'] at ho; cases ho) hg).trans ho

theorem grown_below {B : Nat} {a W w' : World} (h : Below B a W) (hB : B ≤ W.heap.size) (g : W.grownBy w' none) : Below B a w' := h.grown g hB (fun k hk => by cases hk)

set_option maxRecDepth 20000 in
theorem refPut_full (S : RS (Int × Int)) (A : Option Addr) (c : Nat) (x : Int) (w : World) (h : (S.L.length : Int) = S.cap) (hc : Cnt 1000000000 S) :
    Calls Try.prog 61 #[refV S A c, .int .i64 x] w fun e w' => e = .returned (.tuple #[refV (putR (fun o => (x, o)) S).1 A c, .int .i64 4]) ∧ Below w.heap.size w w' := by
  obtain ⟨o, ac, rf, cap, L⟩ := S
  have HC := Lib.hid hc
  simp only [] at h
  simp only [putR, if_pos h, refV]
  generalize hn : L.length = n at h
  have d1 : ((n : Int) == cap) = true := by simpa using h
  have e1 : wrap64 (o + 1) = o + 1 := by have := HC.out; simp [Cnt] at this; unfold wrap64; omega
  have e2 : wrap64 (rf + 1) = rf + 1 := by have := HC.out; simp [Cnt] at this; unfold wrap64; omega
  clear hc
  go_enter Try.func61, Try.ntmps61
  go_wp2
  exact bodyPost_ret (v := .tuple #[.agg #[.int .i64 cap, .int .i64 (o + 1), .int .i64 ac, .int .i64 (rf + 1), .slice A n c], .int .i64 4]) (by simp [results, Try.results61, go_sem]) rfl ⟨rfl, below_two _ _ _⟩

set_option maxRecDepth 20000 in
set_option maxHeartbeats 3200000 in
theorem refPut_ok (o ac rf cap x : Int) (L : List (Int × Int)) (n c : Nat) (A : Option Addr) (w : World) (h : Sees w 2 A n c (L.flatMap ceI)) (hn : n ≤ 65536) (hne : (n : Int) ≠ cap) (hac : 0 ≤ ac ∧ ac ≤ 1000000000) :
    Calls Try.prog 61 #[.agg #[.int .i64 cap, .int .i64 o, .int .i64 ac, .int .i64 rf, .slice A n c], .int .i64 x] w fun e w' => ∃ A2 c2, e = .returned (.tuple #[.agg #[.int .i64 cap, .int .i64 0, .int .i64 (ac + 1), .int .i64 rf, .slice A2 (n + 1) c2], .int .i64 0]) ∧ w'.ownsRow w.heap.size 116 2 (.slice A2 (n + 1) c2) (n + 1) ((L ++ [(x, o)]).flatMap ceI) ∧ Below w.heap.size w w' := by
  have d1 : ((n : Int) == cap) = false := by simpa using hne
  have e1 : wrap64 (ac + 1) = ac + 1 := by unfold wrap64; omega
  have HS := Lib.hid h
  have HN := Lib.hid hn
  have hn9 : (n : Int) ≤ 65536 := by omega
  obtain ⟨W2, hW2⟩ : ∃ W2, (w.alloc (.cells #[.int .i64 cap, .int .i64 o, .int .i64 ac, .int .i64 rf, .slice A n c] 88)).alloc (.cells #[.int .i64 0, .int .i64 0, .int .i64 0, .int .i64 0, .slice none 0 0] 88) = W2 := ⟨_, rfl⟩
  have hb2 : Below w.heap.size w W2 := by rw [← hW2]; exact below_two _ _ _
  have hx : W2.heap[w.heap.size]? = some (.cells #[.int .i64 cap, .int .i64 o, .int .i64 ac, .int .i64 rf, .slice A n c] 88 (0, 0)) := by
    rw [← hW2]; exact (Below.heap_alloc _ _ _ (by simp)).trans (heap_alloc_new w _)
  have hy : W2.heap[w.heap.size + 1]? = some (.cells #[.int .i64 0, .int .i64 0, .int .i64 0, .int .i64 0, .slice none 0 0] 88 (0, 0)) := by
    rw [← hW2]; have := heap_alloc_new (w.alloc (.cells #[.int .i64 cap, .int .i64 o, .int .i64 ac, .int .i64 rf, .slice A n c] 88)) (.cells #[.int .i64 0, .int .i64 0, .int .i64 0, .int .i64 0, .slice none 0 0] 88); rwa [World.size_alloc] at this
  have HX := Lib.hid (And.intro hx (And.intro hy (And.intro hb2 hW2)))
  have Hs := Lib.hid (show W2.heap.size = w.heap.size + 2 by rw [← hW2]; simp)
  have hlt2 : w.heap.size < W2.heap.size := by rw [Hs.out]; omega
  have hx1 : W2.cell? ⟨w.heap.size, 1, none⟩ = some (.int .i64 o) := by simp [World.cell?, hx]
  have hx4 : W2.cell? ⟨w.heap.size, 4, none⟩ = some (.slice A n c) := by simp [World.cell?, hx]
  clear h hn hne hac hb2 hx hy hW2
  go_enter Try.func61, Try.ntmps61
  go_upto_region 5 with fail
  rw [HX.out.2.2.2]
  go_region_law (first
    | (have _q := O3; refine step_app1 E_ref rfl (.tmp 24) (.tmp 29) rfl rfl (base := W2.heap.size) (by first | exact O3.out.1 | exact O3.out.1.alloc _) rfl (sees_lit2 (u := .int .i64 x) (v := .int .i64 o) (e := 116) (by first | exact lit_new rfl | exact lit_new (by simp) | exact HK3 _ _ (by first | exact lit_new rfl | exact lit_new (by simp) | exact lit_drew (lit_new (by simp)) | exact lit_skip (lit_new (by simp)) | exact lit_drew (lit_skip (lit_new (by simp)))) (by simp [Value.ownBlock]))) (by intro u hu; simp at hu; rcases hu with rfl | rfl <;> rfl) (by simp [maxLen] <;> omega) (by omega) (by have := O3.out.2.size; simp <;> omega) ?_; intro A4 c4 w4 o4 g4 b4; have bb4 : Below W2.heap.size w3 w4 := (by first | exact b4 | exact ((Below.refl _ _).alloc O3.out.2.size _).trans b4); have hx4' := (bb4.block _ hlt2).trans HX3.out.1; have hy4 := (bb4.block _ (by have := Hs.out; omega)).trans HX3.out.2; have hlt4 := Nat.lt_of_lt_of_le hlt3 bb4.size; have p0 : w4.cell? ⟨w.heap.size, 0, none⟩ = some (.int .i64 cap) := (by simp [World.cell?, hx4']); have r0 : w4.frozen? ⟨w.heap.size, 0, none⟩ = false := (by simp [World.frozen?, hx4']); have q0 : w4.cell? ⟨w.heap.size + 1, 0, none⟩ = some (.int .i64 0) := (by simp [World.cell?, hy4]); have u0 : w4.frozen? ⟨w.heap.size + 1, 0, none⟩ = false := (by simp [World.frozen?, hy4]); have p1 : w4.cell? ⟨w.heap.size, 1, none⟩ = some (.int .i64 o) := (by simp [World.cell?, hx4']); have r1 : w4.frozen? ⟨w.heap.size, 1, none⟩ = false := (by simp [World.frozen?, hx4']); have q1 : w4.cell? ⟨w.heap.size + 1, 1, none⟩ = some (.int .i64 0) := (by simp [World.cell?, hy4]); have u1 : w4.frozen? ⟨w.heap.size + 1, 1, none⟩ = false := (by simp [World.frozen?, hy4]); have p2 : w4.cell? ⟨w.heap.size, 2, none⟩ = some (.int .i64 ac) := (by simp [World.cell?, hx4']); have r2 : w4.frozen? ⟨w.heap.size, 2, none⟩ = false := (by simp [World.frozen?, hx4']); have q2 : w4.cell? ⟨w.heap.size + 1, 2, none⟩ = some (.int .i64 0) := (by simp [World.cell?, hy4]); have u2 : w4.frozen? ⟨w.heap.size + 1, 2, none⟩ = false := (by simp [World.frozen?, hy4]); have p3 : w4.cell? ⟨w.heap.size, 3, none⟩ = some (.int .i64 rf) := (by simp [World.cell?, hx4']); have r3 : w4.frozen? ⟨w.heap.size, 3, none⟩ = false := (by simp [World.frozen?, hx4']); have q3 : w4.cell? ⟨w.heap.size + 1, 3, none⟩ = some (.int .i64 0) := (by simp [World.cell?, hy4]); have u3 : w4.frozen? ⟨w.heap.size + 1, 3, none⟩ = false := (by simp [World.frozen?, hy4]); have p4 : w4.cell? ⟨w.heap.size, 4, none⟩ = some (.slice A n c) := (by simp [World.cell?, hx4']); have r4 : w4.frozen? ⟨w.heap.size, 4, none⟩ = false := (by simp [World.frozen?, hx4']); have q4 : w4.cell? ⟨w.heap.size + 1, 4, none⟩ = some (.slice none 0 0) := (by simp [World.cell?, hy4]); have u4 : w4.frozen? ⟨w.heap.size + 1, 4, none⟩ = false := (by simp [World.frozen?, hy4]); have O4 := Lib.hid (And.intro o4 (O3.out.2.trans bb4)); clear o4 g4 b4 bb4 hx4' hy4)
    | (refine step_app1 E_ref rfl (.tmp 21) (.tmp 23) rfl rfl (base := W2.heap.size) (own_empty (by first | exact lit_new rfl | exact lit_new (by simp) | exact lit_drew (lit_new (by simp)) | exact lit_skip (lit_new (by simp)) | exact lit_drew (lit_skip (lit_new (by simp)))) (by simp)) rfl (HS.out.below (grown_below HX.out.2.2.1 HX.out.2.2.1.size (by (repeat (first | with_reducible apply grown_drew | with_reducible apply grown_alloc)); exact World.grownBy.refl _ _)) (Nat.le_refl _)) (flat_one _) (by simp [maxLen] <;> omega) (by omega) (by simp <;> omega) ?_; intro A3 c3 w3 o3 g3 b3; have HK3 := grown_keep g3; have bb3 : Below W2.heap.size W2 w3 := (grown_below (Below.refl W2.heap.size W2) (Nat.le_refl _) (by (repeat (first | with_reducible apply grown_drew | with_reducible apply grown_alloc)); exact World.grownBy.refl _ _)).trans b3; have hx3 : w3.heap[w.heap.size]? = some (.cells #[.int .i64 cap, .int .i64 o, .int .i64 ac, .int .i64 rf, .slice A n c] 88 (0, 0)) := (bb3.block _ hlt2).trans HX.out.1; have hy3 : w3.heap[w.heap.size + 1]? = some (.cells #[.int .i64 0, .int .i64 0, .int .i64 0, .int .i64 0, .slice none 0 0] 88 (0, 0)) := (bb3.block _ (by have := Hs.out; omega)).trans HX.out.2.1; have hc31 : w3.cell? ⟨w.heap.size, 1, none⟩ = some (.int .i64 o) := (by simp [World.cell?, hx3]); have hlt3 : w.heap.size < w3.heap.size := Nat.lt_of_lt_of_le hlt2 bb3.size; have HX3 := Lib.hid (And.intro hx3 hy3); have o3 : w3.ownsRow W2.heap.size 116 2 (.slice A3 n c3) n (L.flatMap ceI) := (by have := o3; simpa only [Nat.zero_add, List.nil_append] using this); have O3 := Lib.hid (And.intro o3 bb3); clear o3 g3 b3 bb3 hx3 hy3))
  all_goals have k4 : w4.ownsRow W2.heap.size 116 2 (.slice A4 (n + 1) c4) (n + 1) ((L ++ [(x, o)]).flatMap ceI) := by have := O4.out.1; simpa only [List.flatMap_append, List.flatMap_cons, List.flatMap_nil, List.append_nil, ceI] using this
  all_goals have b9 : Below w.heap.size w w4 := HX.out.2.2.1.trans (O4.out.2.mono HX.out.2.2.1.size)
  all_goals have K4 := Lib.hid (And.intro k4 b9)
  all_goals clear k4 b9 O4 _q HK3 HX3 O3 hc31 hlt3 hx1 hx4
  all_goals go_wp2
  all_goals refine bodyPost_ret (v := .tuple #[.agg #[.int .i64 cap, .int .i64 0, .int .i64 (ac + 1), .int .i64 rf, .slice A4 (n + 1) c4], .int .i64 0]) (by simp [results, Try.results61, go_sem, p0, p1, p2, p3, p4, q0, q1, q2, q3, q4, r0, r1, r2, r3, r4, u0, u1, u2, u3, u4]) rfl ⟨A4, c4, rfl, own_lower (b := W2.heap.size) ?_ (Nat.le_of_lt hlt2), ?_⟩
  all_goals first
    | ((repeat (refine ownsRow_setCell_below ?_ (by have := Hs.out; simp; omega) _)); exact K4.out.1)
    | ((repeat (refine Below.setCell ?_ (by first | exact Nat.le_refl _ | exact Nat.le_succ _) _)); exact K4.out.2)
end Go.Proofs.Ytgomnifcgaigkaa
