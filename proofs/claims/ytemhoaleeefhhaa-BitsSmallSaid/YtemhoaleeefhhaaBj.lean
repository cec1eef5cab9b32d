/- Walks: Runs. -/
import Derived.Test.YtemhoaleeefhhaaProg
import Derived.Test.YtemhoaleeefhhaaBi
import Derived.Test.YtemhoaleeefhhaaBp
namespace Go.Proofs.Ytemhoaleeefhhaa
open Go.RowKit Go.Shelf
set_option linter.unusedVariables false
attribute [local go_sem] Oper.semAt_some

theorem E_run : Elem Try.prog 45 47 (.agg #[.int .i64 0, .int .i64 0]) 2 16 := elem_of Try.underlying45 (by kernel_rfl) rfl (by decide)
def runC (r : Nat × Nat) : List Value := [.int .i64 (r.1 : Int), .int .i64 (r.2 : Int)]
abbrev flatR (rs : List (Nat × Nat)) : List Value := rs.flatMap runC
theorem flatR_len (rs : List (Nat × Nat)) : (flatR rs).length = rs.length * 2 := by
  induction rs with
  | nil => rfl
  | cons r rs ih =>
    show (runC r ++ flatR rs).length = _
    rw [List.length_append, ih]; simp [runC]; omega
theorem flatR_app (a b : List (Nat × Nat)) : flatR (a ++ b) = flatR a ++ flatR b := List.flatMap_append
theorem flatR_one (r : Nat × Nat) : flatR [r] = [.int .i64 (r.1 : Int), .int .i64 (r.2 : Int)] := rfl
theorem sees_run {w : World} {g : Nat} {u v : Value} {e : TypeId} (h : w.heap[g]? = some (.cells #[u, v] e)) : Sees w 2 (some ⟨g, 0, none⟩) 1 1 [u, v] :=
  ⟨rfl, Nat.le_refl _, by decide, fun h => by (cases h), fun k u' hu => ⟨g, 0, rfl, by
    rw [Nat.zero_add, cell_of_row w g k _ e _ h]
    simpa using hu⟩⟩
theorem addRun_len (rs : List (Nat × Nat)) (i : Nat) : (addRun rs i).length ≤ rs.length + 1 := by
  unfold addRun
  split
  · split
    · simp
    · simp
  · simp
theorem runsL_len (ms : List Nat) : (runsL ms).length ≤ ms.length := by
  have : ∀ (ms : List Nat) (rs : List (Nat × Nat)), (ms.foldl addRun rs).length ≤ rs.length + ms.length := by
    intro ms
    induction ms with
    | nil => intro rs; simp
    | cons m ms ih =>
      intro rs
      have h1 := ih (addRun rs m)
      have h2 := addRun_len rs m
      rw [List.foldl_cons, List.length_cons]; omega
  have := this ms []
  simpa [runsL] using this
theorem snoc_cases {α : Type} (l : List α) : l = [] ∨ ∃ (k : List α) (x : α), l = k ++ [x] := by
  by_cases h : l = []
  · exact .inl h
  · exact .inr ⟨l.dropLast, l.getLast h, (List.dropLast_concat_getLast h).symm⟩
/-- The runs as the loop makes them: of any numbers. -/
def addRunW (rs : List (Int × Int)) (i : Nat) : List (Int × Int) := match rs.getLast? with
  | some r => if r.2 = (i : Int) then rs.dropLast ++ [(r.1, IntKind.i64.wrap ((i : Int) + 1))] else rs ++ [((i : Int), IntKind.i64.wrap ((i : Int) + 1))]
  | none => [((i : Int), IntKind.i64.wrap ((i : Int) + 1))]
def runsW (ms : List Nat) : List (Int × Int) := ms.foldl addRunW []
theorem runsW_snoc (ms : List Nat) (i : Nat) : runsW (ms ++ [i]) = addRunW (runsW ms) i := by
  unfold runsW; rw [List.foldl_append]; rfl
theorem addRunW_nil (i : Nat) : addRunW [] i = [((i : Int), IntKind.i64.wrap ((i : Int) + 1))] := rfl
theorem addRunW_on (rs : List (Int × Int)) (a : Int) (i : Nat) : addRunW (rs ++ [(a, (i : Int))]) i = rs ++ [(a, IntKind.i64.wrap ((i : Int) + 1))] := by
  unfold addRunW; simp
theorem addRunW_new (rs : List (Int × Int)) (a b : Int) (i : Nat) (h : b ≠ (i : Int)) : addRunW (rs ++ [(a, b)]) i = rs ++ [(a, b)] ++ [((i : Int), IntKind.i64.wrap ((i : Int) + 1))] := by
  unfold addRunW; simp [h]
theorem addRunW_len (rs : List (Int × Int)) (i : Nat) : (addRunW rs i).length ≤ rs.length + 1 := by
  unfold addRunW
  split
  · split
    · simp
    · simp
  · simp
theorem runsW_len (ms : List Nat) : (runsW ms).length ≤ ms.length := by
  have : ∀ (ms : List Nat) (rs : List (Int × Int)), (ms.foldl addRunW rs).length ≤ rs.length + ms.length := by
    intro ms
    induction ms with
    | nil => intro rs; simp
    | cons m ms ih =>
      intro rs
      have h1 := ih (addRunW rs m)
      have h2 := addRunW_len rs m
      rw [List.foldl_cons, List.length_cons]; omega
  have := this ms []
  simpa [runsW] using this
def castR (r : Nat × Nat) : Int × Int := ((r.1 : Int), (r.2 : Int))
theorem addRunW_cast (rs : List (Nat × Nat)) (i : Nat) (hi : i < 65536) : addRunW (rs.map castR) i = (addRun rs i).map castR := by
  have hw : IntKind.i64.wrap ((i : Int) + 1) = (((i + 1 : Nat)) : Int) := by rw [show (((i + 1 : Nat)) : Int) = (i : Int) + 1 by omega]; exact IntWalk.i64_in _ (by omega)
  rcases snoc_cases rs with rfl | ⟨rs, ⟨a, b⟩, rfl⟩
  · rw [List.map_nil, addRunW_nil, hw]; rfl
  · rw [List.map_append]
    show addRunW (rs.map castR ++ [((a : Int), (b : Int))]) i = _
    by_cases hb : b = i
    · subst hb
      rw [addRunW_on, hw, addRun_on, List.map_append]; rfl
    · rw [addRunW_new _ _ _ _ (by omega), hw, addRun_new (by intro r hr; simp at hr; subst hr; exact hb), List.map_append, List.map_append]; rfl
theorem runsW_cast (ms : List Nat) (h : ∀ m ∈ ms, m < 65536) : runsW ms = (runsL ms).map castR := by
  have : ∀ (ms : List Nat) (rs : List (Nat × Nat)), (∀ m ∈ ms, m < 65536) → ms.foldl addRunW (rs.map castR) = (ms.foldl addRun rs).map castR := by
    intro ms
    induction ms with
    | nil => intro rs _; rfl
    | cons m ms ih =>
      intro rs h
      rw [List.foldl_cons, List.foldl_cons, addRunW_cast _ _ (h m (by simp))]
      exact ih _ (fun m' h' => h m' (by simp [h']))
  exact this ms [] h
def runI (r : Int × Int) : List Value := [.int .i64 r.1, .int .i64 r.2]
abbrev flatI (rs : List (Int × Int)) : List Value := rs.flatMap runI
theorem flatI_cast (rs : List (Nat × Nat)) : flatI (rs.map castR) = flatR rs := by
  rw [flatI, List.flatMap_map]; rfl
theorem flatI_len (rs : List (Int × Int)) : (flatI rs).length = rs.length * 2 := by
  induction rs with
  | nil => rfl
  | cons r rs ih =>
    show (runI r ++ flatI rs).length = _
    rw [List.length_append, ih]; simp [runI]; omega
theorem flatI_app (a b : List (Int × Int)) : flatI (a ++ b) = flatI a ++ flatI b := List.flatMap_append
theorem flatI_one (r : Int × Int) : flatI [r] = [.int .i64 r.1, .int .i64 r.2] := rfl
theorem flatI_last (rs : List (Int × Int)) (a b : Int) : (flatI (rs ++ [(a, b)]))[rs.length * 2 + 1]? = some (.int .i64 b) := by
  rw [flatI_app, flatI_one, List.getElem?_append_right (by rw [flatI_len]; omega), flatI_len, Nat.add_sub_cancel_left]; rfl
theorem flatI_set (rs : List (Int × Int)) (a b c : Int) : (flatI (rs ++ [(a, b)])).set (rs.length * 2 + 1) (.int .i64 c) = flatI (rs ++ [(a, c)]) := by
  rw [flatI_app, flatI_one, List.set_append_right _ _ (by rw [flatI_len]; omega), flatI_len, Nat.add_sub_cancel_left, flatI_app]; rfl
theorem keepsO_drew {A B : World} (h : KeepsOthers A B) : KeepsOthers A B.drew := h.trans (KeepsOthers.drew _)
theorem oneI (r : Int × Int) : ∀ u ∈ [Value.int .i64 r.1, Value.int .i64 r.2], u.oneCell' = true := by
  intro u hu
  simp at hu
  rcases hu with rfl | rfl <;> rfl
theorem rn_cast (l : List Int) {N : Nat} (h : N ≤ 65536) : runsW (mem l N) = (rn l N).map castR := runsW_cast _ fun m hm => by
  have := (mem_iff.1 hm).2.1; omega
/-- What Runs tells. -/
def runsF (l : List Int) (N : Int) : List (Nat × Nat) := if RightW N l then runsL (mem l N.toNat) else []

def RnI (w : World) (Bs : Nat) (cs : Array Value) (pre : List Nat) (W : World) : Prop := ((∃ v, Boxed W (w.heap.size + 1) 45 v ∧ W.ownsRow w.heap.size 47 2 v (runsW pre).length (flatI (runsW pre)) ∧ True) ∧ W.heap[Bs]? = some (.cells cs 24 (0, 0))) ∧ Below w.heap.size w W

set_option maxRecDepth 100000 in
set_option maxHeartbeats 3200000 in
theorem Runs_in (N : Nat) (A : Option Addr) (n c : Nat) (l : List Int) (w : World) (hs : Sees w 1 A n c (l.map (Value.int .u64))) (hw : W64 l) (hr : RightW (N : Int) l) :
    CallsIn Fence.wide 9 Try.prog 29 #[setv (N : Int) A n c] w fun e w' => ∃ A' c', e = .returned (.slice A' (rn l N).length c') ∧ w'.ownsRow w.heap.size 47 2 (.slice A' (rn l N).length c') (rn l N).length (flatR (rn l N)) ∧ Below w.heap.size w w' := by
  have hF : ∀ k, Fence.wide.fn k := fun _ => trivial
  have hl := hs.length
  have HNN := Lib.hid (show N ≤ 64 * n ∧ N ≤ 65536 by have h1 := hr.2.1; have h2 := hr.2.2.1; omega)
  obtain ⟨wA, hwA⟩ : ∃ wA, (w.alloc (.cells #[.int .i64 (N : Int), .slice A n c] 24)).alloc (.cells #[.slice none 0 0] 45) = wA := ⟨_, rfl⟩
  have hB0 : Below w.heap.size w wA := by rw [← hwA]; exact ((Below.refl _ _).alloc (Nat.le_refl _) _).alloc (by simp) _
  have hsz0 : wA.heap.size = w.heap.size + 2 := by rw [← hwA]; simp
  have bO : Boxed wA (w.heap.size + 1) 45 (.slice none 0 0) := by rw [← hwA]; exact lit_newB (by simp)
  have bS : wA.heap[w.heap.size]? = some (.cells #[.int .i64 (N : Int), .slice A n c] 24 (0, 0)) := by rw [← hwA]; exact lit_skipB (lit_newB rfl)
  have HRT := Lib.hid (decide_eq_true hr)
  have HSE := Lib.hid hs
  have HWA := Lib.hid hwA
  have HW0 := Lib.hid (And.intro hB0 (And.intro hsz0 (And.intro bO bS)))
  clear hs hr hl hB0 hsz0 bO bS hwA
  refine callsIn_of_wp_marks Try.func29 rfl trivial ?_ rfl
  simp only [Try.ntmps29, List.size_toArray, List.length_cons, List.length_nil, Nat.reduceAdd, Nat.reduceSub, Array.replicate_succ, Array.replicate_zero, List.push_toArray, List.append_toArray, List.nil_append, List.cons_append]
  gi_wp2_with (first
    | (gi_at_call 52; have _q := R1; refine (callsIn_wide.2 (members_any (N : Int) 0 A n c _)).mono ?_; rintro e w2 ⟨rfl, rfl⟩)
    | (gi_at_call 34; rw [HWA.out]; refine (callsIn_wide.2 (Right_any (N : Int) A n c l _ (HSE.out.below HW0.out.1 (Nat.le_refl _)) hw)).mono ?_; rw [HRT.out]; rintro e w1 ⟨rfl, k1⟩; have X1 := (k1.block w.heap.size (by rw [HW0.out.2.1]; omega)).trans HW0.out.2.2.2; have y0 : w1.cell? ⟨w.heap.size, 0, none⟩ = some (.int .i64 (N : Int)) := (by simp [World.cell?, X1]); have y1 : w1.cell? ⟨w.heap.size, 1, none⟩ = some (.slice A n c) := (by simp [World.cell?, X1]); have R1 := Lib.hid k1; clear k1 X1))
  have hb1 : Below w.heap.size w w1 := HW0.out.1.trans (R1.out.mono (by rw [HW0.out.2.1]; omega))
  have hz1 : w.heap.size + 2 ≤ w1.heap.size := by have h9 := R1.out.size; rw [HW0.out.2.1] at h9; exact h9
  obtain ⟨W0, hW0⟩ : ∃ W0, (w1.alloc (.cells #[.int .i64 (N : Int), .slice A n c] 24)).alloc (.cells #[.int .i64 0] 3) = W0 := ⟨_, rfl⟩
  have bO : Boxed W0 (w.heap.size + 1) 45 (.slice none 0 0) := by
    rw [← hW0]; exact lit_skipB (lit_skipB ((R1.out.block (w.heap.size + 1) (by rw [HW0.out.2.1]; omega)).trans HW0.out.2.2.1))
  have bS : W0.heap[w1.heap.size]? = some (.cells #[.int .i64 (N : Int), .slice A n c] 24 (0, 0)) := by
    rw [← hW0]; exact lit_skipB (lit_newB rfl)
  have bF : W0.cell? ⟨w1.heap.size + 1, 0, none⟩ = some (.int .i64 0) := by
    have h9 : W0.heap[w1.heap.size + 1]? = some (.cells #[.int .i64 0] 3 (0, 0)) := by rw [← hW0]; exact lit_newB (by simp)
    simp [World.cell?, h9]
  have hB2 : Below w.heap.size w W0 := by rw [← hW0]; exact (hb1.alloc (by omega) _).alloc (by simp; omega) _
  have hz2 : W0.heap.size = w1.heap.size + 2 := by rw [← hW0]; simp
  rw [hW0]
  clear R1 y0 y1 hb1 hW0
  generalize w1.heap.size = Bs at bS bF hz1 hz2 ⊢
  have hI0 : OwnFrom W0.heap.size (RnI w Bs #[.int .i64 (N : Int), .slice A n c]) :=
    OwnFrom.and (OwnFrom.and (Own.from (holdsRow_own _ _ _ _ 2 (fun (pre : List Nat) => (runsW pre).length) (fun pre => flatI (runsW pre)) (fun _ _ => True)) _) (Own.from (block_ownB _ _ _ _) _)) (ownFrom_below (Nat.le_refl _) (by omega))
  refine wpIn_rangeFunc_ownH rfl (by decide) (gf := 68) (lb := #[.pointer (some ⟨Bs + 1, 0, none⟩), .pointer (some ⟨Bs, 0, none⟩)]) rfl trivial (enters_of Try.func68 (by kernel_rfl) rfl)
    (members_stops _ Bs (Bs + 1) w.heap.size N 0 0 A n c l W0 HNN.out.1 HNN.out.2 (by rfl) hw (by omega) (by omega) bS bF (fun W' hW' => HSE.out.below (hB2.trans hW') (Nat.le_refl _))) KeepsO.trans (keepsO_b (by omega) (by omega)) (Below.refl _ _) (fun _ => rfl)
    (RnI w Bs #[.int .i64 (N : Int), .slice A n c])
    (fun _ _ _ => False)
    hI0
    (fun _ => fun _ _ _ _ hs _ _ => hs)
    ⟨⟨⟨_, bO, World.ownsRow_nil _ _ _ _, trivial⟩, bS⟩, hB2⟩
    (fun x a' W => a' = { tmps := #[setv (N : Int) A n c, .pointer (some ⟨w.heap.size, 0, none⟩), .slice none 0 0, .pointer (some ⟨w.heap.size + 1, 0, none⟩), .int .i64 (x : Int), undef, .agg #[.int .i64 (N : Int), .slice A n c], .bool true, .bool false, undef, .agg #[.int .i64 (N : Int), .slice A n c], .func (.func 68) #[] #[.pointer (some ⟨Bs + 1, 0, none⟩), .pointer (some ⟨Bs, 0, none⟩)], .int .i64 (x : Int), undef, undef, undef, undef, undef, undef, undef, undef, undef, undef, undef, undef, undef, undef, undef, undef, undef, undef, undef, undef, undef, undef, undef, undef, undef, undef, undef, undef, undef, undef, undef], defers := [] })
    (fun x a' => fun _ X Y row hs hg hr => hs) ?assign ?body ?done ?stop
  case assign =>
    rintro y pre x W K hi hK
    unfold enM
    gi_wp2
    exact hK _ _ ((KeepsOthers.refl _).from _) (KeepsO.refl _ _ _) hi rfl
  case body =>
    rintro y pre x a' W hl ⟨r, hr⟩ ⟨⟨⟨v, hv, hrow, _⟩, hE⟩, hB⟩ rfl hlt
    obtain ⟨A', c', rfl⟩ := own_form hrow
    have hvc := hv.cell
    have hvf := hv.frozen
    have HLT := Lib.hid (show (runsW pre).length ≤ 65536 by have h9 := mem_len l N; have h8 := cnt_le l N; have h7 := HNN.out.2; have h6 := runsW_len pre; unfold mem at h9; omega)
    have hsn := runsW_snoc pre x
    obtain ⟨rs, hrs⟩ : ∃ rs, runsW pre = rs := ⟨_, rfl⟩
    rw [hrs] at hrow HLT hsn hvc hv
    clear hlt hl hr hrs
    obtain ⟨m, hm⟩ : ∃ m, rs.length = m := ⟨_, rfl⟩
    rw [hm] at hrow HLT hvc hv
    obtain ⟨xw, hxw⟩ : ∃ xw, IntKind.i64.wrap ((x : Int) + 1) = xw := ⟨_, rfl⟩
    have hm1 : (m : Int) ≤ 65536 := by have := HLT.out; omega
    by_cases hon : ∃ rs' a, rs = rs' ++ [(a, (x : Int))]
    · obtain ⟨rs', a, rfl⟩ := hon
      rw [addRunW_on, hxw] at hsn
      have HSN := Lib.hid hsn
      obtain ⟨k, hk⟩ : ∃ k, rs'.length = k := ⟨_, rfl⟩
      have hmk : m = k + 1 := by rw [← hm, List.length_append, hk]; rfl
      obtain ⟨g, c2, hv2, hgb⟩ := own_addrK hrow (by omega)
      cases hv2
      have hlast := flatI_last rs' a (x : Int)
      rw [hk] at hlast
      obtain ⟨b2, o2, hA2, g1⟩ := Sees.look (sees_own hrow) _ _ hlast
      cases hA2
      rw [Nat.zero_add] at g1
      have gf := hrow.frozenAt (k * 2 + 1)
      have hst := (hrow.stored (k * 2 + 1) (.int .i64 xw)).1
      have hfs := flatI_set rs' a (x : Int) xw
      rw [hk] at hfs
      rw [hfs] at hst
      have HST := Lib.hid hst
      have hm2 : (m : Int) - 1 = (k : Int) := by omega
      have hm3 : (0 : Int) < (m : Int) := by omega
      have hk2 : (k : Int) < (m : Int) := by omega
      have d1 : decide ((0 : Int) < (m : Int)) = true := by simpa using hm3
      have d1' : decide (0 < m) = true := by simp; omega
      have hwk : IntKind.i64.wrap (k : Int) = (k : Int) := IntWalk.i64_in _ (by omega)
      have HG := Lib.hid (show w.heap.size ≤ g ∧ Bs ≠ g ∧ w.heap.size + 1 ≠ g from ⟨hgb, fun e => own_typeB hrow hE (by decide) (by rw [e]; rfl), fun e => own_typeB hrow hv (by decide) (by rw [e]; rfl)⟩)
      have HMK := Lib.hid (And.intro hm (And.intro hmk hk))
      clear hsn hlast hst hfs hm hmk hgb hk
      gi_wp2
      gi_region
      all_goals have e1 : (rs' ++ [(a, xw)]).length = m := by rw [HMK.out.2.1, List.length_append, HMK.out.2.2]; rfl
      all_goals have hE2 : (W.setCell ⟨g, k * 2 + 1, none⟩ (.int .i64 xw)).drew.heap[Bs]? = some (.cells #[.int .i64 (N : Int), .slice A n c] 24 (0, 0)) := (Below.heap_setCell _ _ _ _ HG.out.2.1).trans hE
      all_goals have hV2 : Boxed (W.setCell ⟨g, k * 2 + 1, none⟩ (.int .i64 xw)).drew (w.heap.size + 1) 45 (.slice (some ⟨g, 0, none⟩) m c') := (Below.heap_setCell _ _ _ _ HG.out.2.2).trans hv
      all_goals have hb2 : Below w.heap.size W (W.setCell ⟨g, k * 2 + 1, none⟩ (.int .i64 xw)).drew := ((Below.refl _ _).setCell (by show w.heap.size ≤ g; exact HG.out.1) _).drew
      all_goals exact ⟨(keepsO_drew (KeepsOthers.setCell _ _ _)).from _, ⟨hb2, fun o e => by rw [hE] at e; cases e; exact hE2⟩, ⟨⟨_, hV2, by rw [HSN.out, e1]; exact HST.out.drew, trivial⟩, hE2⟩, hB.trans hb2⟩
    · rcases snoc_cases rs with rfl | ⟨rs', ⟨a, b⟩, rfl⟩
      · rw [addRunW_nil, hxw] at hsn
        have HSN := Lib.hid hsn
        have hm0 : m = 0 := by rw [← hm]; rfl
        have d1 : decide ((0 : Int) < (m : Int)) = false := by simp; omega
        have d1' : decide (0 < m) = false := by simp; omega
        have HM := Lib.hid hm0
        clear hon hsn hm hm0
        gi_wp2_with (gi_at_builtin; refine wpListIn_app E_run rfl _ _ rfl rfl (hrow.alloc _) rfl (sees_run (heap_alloc_new _ _)) (oneI ((x : Int), xw)) (by have := HLT.out; simp [maxLen]; omega) (by have := HLT.out; omega) (by have := hB.size; simp; omega) ?_; intro A4 c4 w4 hown' hgrow hb'; obtain ⟨hv1, hv2, hr2, hk2, hb2⟩ := hv.appended (by decide) hrow hB.size (by omega) hown' hgrow; have hE2 : (w4.setCell ⟨w.heap.size + 1, 0, none⟩ (.slice A4 (m + 1) c4)).heap[Bs]? = some (.cells #[.int .i64 (N : Int), .slice A n c] 24 (0, 0)) := (by rw [Below.heap_setCell _ _ _ _ (by show Bs ≠ w.heap.size + 1; omega)]; exact (hgrow.block Bs (by have := lt_of_heap hE; simp; omega) (fun e => own_typeB hrow hE (by decide) e.symm)).trans ((heap_alloc_old _ _ (lt_of_heap hE)).trans hE)); have hc1 := hv1.cell; have hf1 := hv1.frozen)
        exact ⟨hk2.from _, ⟨hb2, fun o e => by rw [hE] at e; cases e; exact hE2⟩, ⟨⟨_, hv2, by rw [HSN.out, show [((x : Int), xw)].length = m + 1 by rw [HM.out]; rfl]; exact hr2, trivial⟩, hE2⟩, hB.trans hb2⟩
      · have hbx : b ≠ (x : Int) := fun e => hon ⟨rs', a, by rw [e]⟩
        rw [addRunW_new _ _ _ _ hbx, hxw] at hsn
        have HSN := Lib.hid hsn
        obtain ⟨k, hk⟩ : ∃ k, rs'.length = k := ⟨_, rfl⟩
        have hmk : m = k + 1 := by rw [← hm, List.length_append, hk]; rfl
        obtain ⟨g, c2, hv2, hgb⟩ := own_addrK hrow (by omega)
        cases hv2
        have hlast := flatI_last rs' a b
        rw [hk] at hlast
        obtain ⟨b2, o2, hA2, g1⟩ := Sees.look (sees_own hrow) _ _ hlast
        cases hA2
        rw [Nat.zero_add] at g1
        have hm2 : (m : Int) - 1 = (k : Int) := by omega
        have hm3 : (0 : Int) < (m : Int) := by omega
        have hk2 : (k : Int) < (m : Int) := by omega
        have d1 : decide ((0 : Int) < (m : Int)) = true := by simpa using hm3
        have d1' : decide (0 < m) = true := by simp; omega
        have d2 : (b == (x : Int)) = false := by simpa using hbx
        have hwk : IntKind.i64.wrap (k : Int) = (k : Int) := IntWalk.i64_in _ (by omega)
        have HM := Lib.hid hm
        clear hsn hlast hm hmk hgb hk hon hbx
        gi_wp2_with (gi_at_builtin; refine wpListIn_app E_run rfl _ _ rfl rfl (hrow.alloc _) rfl (sees_run (heap_alloc_new _ _)) (oneI ((x : Int), xw)) (by have := HLT.out; simp [maxLen]; omega) (by have := HLT.out; omega) (by have := hB.size; simp; omega) ?_; intro A4 c4 w4 hown' hgrow hb'; obtain ⟨hv1, hv2, hr2, hk2, hb2⟩ := hv.appended (by decide) hrow hB.size (by omega) hown' hgrow; have hE2 : (w4.setCell ⟨w.heap.size + 1, 0, none⟩ (.slice A4 (m + 1) c4)).heap[Bs]? = some (.cells #[.int .i64 (N : Int), .slice A n c] 24 (0, 0)) := (by rw [Below.heap_setCell _ _ _ _ (by show Bs ≠ w.heap.size + 1; omega)]; exact (hgrow.block Bs (by have := lt_of_heap hE; simp; omega) (fun e => own_typeB hrow hE (by decide) e.symm)).trans ((heap_alloc_old _ _ (lt_of_heap hE)).trans hE)); have hc1 := hv1.cell; have hf1 := hv1.frozen)
        have e1 : (rs' ++ [(a, b)] ++ [((x : Int), xw)]).length = m + 1 := by rw [List.length_append, HM.out]; rfl
        exact ⟨hk2.from _, ⟨hb2, fun o e => by rw [hE] at e; cases e; exact hE2⟩, ⟨⟨_, hv2, by rw [HSN.out, e1, flatI_app]; exact hr2, trivial⟩, hE2⟩, hB.trans hb2⟩
  case done =>
    rintro D ys W hD rfl ⟨⟨⟨v, hv, hrow, _⟩, hE⟩, hB⟩ hK
    have hcast := rn_cast l HNN.out.2
    unfold mem at hcast
    rw [hcast, List.length_map, flatI_cast] at hrow
    obtain ⟨A', c', rfl⟩ := own_form hrow
    have hvc := hv.cell
    gi_wp2
    refine ⟨by simp, .inl ⟨_, _, rfl, run_takeDeferred hK, ?_⟩⟩
    exact ⟨_, results_tmp rfl _ _ _, A', c', rfl, ownsRow_putObj hrow _ hK rfl, hB.trans ((Below.refl w.heap.size W).grown (grownBy_putObj' W D _) hB.size (fun k e => by cases e; omega))⟩
  case stop =>
    rintro D c pre W _ _ h _
    exact h.elim
end Go.Proofs.Ytemhoaleeefhhaa
