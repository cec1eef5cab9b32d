/- Take. -/
import Derived.Test.YtgomnifcgaigkaaProg
import Derived.Test.YtgomnifcgaigkaaGe
namespace Go.Proofs.Ytgomnifcgaigkaa
open Go.RowKit Go.Shelf
set_option linter.unusedVariables false
attribute [local go_sem] Oper.semAt_some

/-- What holds between two rounds of Take; what holds when it has broken off. -/
def TkI (w : World) (m p : Nat) (pre : List (Int × Int)) (W : World) : Prop := ((∃ v, Boxed W (w.heap.size + 1) 27 v ∧ W.ownsRow w.heap.size 29 2 v pre.length (pre.flatMap ceI) ∧ True) ∧ Boxed W w.heap.size 3 (.int .i64 (m : Int)) ∧ Boxed W (w.heap.size + 1 + 1) 24 (.pointer (some ⟨p, 0, none⟩))) ∧ pre.length ≤ m ∧ Below w.heap.size w W
def TkX (w : World) (m p : Nat) (j : Code) (pre : List (Int × Int)) (W : World) : Prop := j = Code.exit 1 ∧ ∃ pre0 x, pre = pre0 ++ [x] ∧ pre0.length = m ∧ TkI w m p pre0 W

set_option maxRecDepth 100000 in
set_option maxHeartbeats 3200000 in
theorem TakeI_in (B p g : Nat) (A : Option Addr) (n c f m : Nat) (o ac rf cap k : Int) (L : List (Int × Int)) (w : World) (h : RingI w B p g A n c f o ac rf cap L) (hk : 0 ≤ k) (hm : (if (L.length : Int) < k then (L.length : Int) else k) = (m : Int)) :
    CallsIn Fence.wide 9 Try.prog 15 #[.pointer (some ⟨p, 0, none⟩), .int .i64 k] w fun e w' => ∃ A' c', e = .returned (.tuple #[.slice A' m c', .int .i64 0]) ∧ w'.ownsRow w.heap.size 29 2 (.slice A' m c') m ((L.take m).flatMap ceI) ∧ RingI w' B p g A n c ((f + m) % n) o ac rf cap (L.drop m) ∧ Spared p g w w' := by
  have hml : m ≤ L.length := by split at hm <;> omega
  have hF : ∀ k, Fence.wide.fn k := fun _ => trivial
  have c2 := h.c2
  have H := Lib.hid (h.below ((Below.refl _ _).alloc (Nat.le_refl _) (.cells #[.int .i64 k] 3)) h.plt h.glt)
  have hp := h.plt
  have hg := h.glt
  have hL : L.length ≤ 65536 := by have := h.le; have := h.nle; have := h.cap1; omega
  have HL := Lib.hid (And.intro hL hml)
  have HH := Lib.hid h
  have d0 : decide (k < 0) = false := by simp; omega
  clear h hL hml hk
  refine callsIn_of_wp_marks Try.func15 rfl trivial ?_ rfl
  simp only [Try.ntmps15, List.size_toArray, List.length_cons, List.length_nil, Nat.reduceAdd, Nat.reduceSub, Array.replicate_succ, Array.replicate_zero, List.push_toArray, List.append_toArray, List.nil_append, List.cons_append]
  gi_wp2_with (gi_at_call 36; refine (callsIn_wide.2 (noneI_any _ _ _ _ _ _ _ _ _ _ _ _ _ H.out)).mono ?_; rintro e w' ⟨rfl, rfl⟩)
  refine wpInW_region_still_tail 6 (by kernel_rfl) (by kernel_rfl) ?_
  simp only [List.take_succ_cons, List.take_zero, List.drop_succ_cons, List.drop_zero]
  repeat still_step
  refine wpStill_nil ?_
  gi_wp2_with (gi_at_call 39; refine (callsIn_wide.2 (eachI_any _ _)).mono ?_; rintro e w' ⟨rfl, rfl⟩)
  have bN : Boxed (((w.alloc (.cells #[.int .i64 (m : Int)] 3)).alloc (.cells #[.slice none 0 0] 27)).alloc (.cells #[.pointer (some ⟨p, 0, none⟩)] 24)).drew w.heap.size 3 (.int .i64 (m : Int)) := ((Boxed.new w _ _).alloc _).alloc _
  have bO : Boxed (((w.alloc (.cells #[.int .i64 (m : Int)] 3)).alloc (.cells #[.slice none 0 0] 27)).alloc (.cells #[.pointer (some ⟨p, 0, none⟩)] 24)).drew (w.heap.size + 1) 27 (.slice none 0 0) := by
    have := (Boxed.new (w.alloc (.cells #[.int .i64 (m : Int)] 3)) 27 (.slice none 0 0)).alloc (.cells #[.pointer (some ⟨p, 0, none⟩)] 24)
    rw [World.size_alloc] at this
    exact this
  have bE : Boxed (((w.alloc (.cells #[.int .i64 (m : Int)] 3)).alloc (.cells #[.slice none 0 0] 27)).alloc (.cells #[.pointer (some ⟨p, 0, none⟩)] 24)).drew (w.heap.size + 1 + 1) 24 (.pointer (some ⟨p, 0, none⟩)) := by
    have := Boxed.new ((w.alloc (.cells #[.int .i64 (m : Int)] 3)).alloc (.cells #[.slice none 0 0] 27)) 24 (.pointer (some ⟨p, 0, none⟩))
    rw [World.size_alloc, World.size_alloc] at this
    exact this
  have hB0 : Below w.heap.size w (((w.alloc (.cells #[.int .i64 (m : Int)] 3)).alloc (.cells #[.slice none 0 0] 27)).alloc (.cells #[.pointer (some ⟨p, 0, none⟩)] 24)).drew := ((((Below.refl _ w).alloc (Nat.le_refl _) _).alloc (by simp) _).alloc (by simp; omega) _).drew
  have hsz : (((w.alloc (.cells #[.int .i64 (m : Int)] 3)).alloc (.cells #[.slice none 0 0] 27)).alloc (.cells #[.pointer (some ⟨p, 0, none⟩)] 24)).drew.heap.size = w.heap.size + 3 := by show (((w.alloc _).alloc _).alloc _).heap.size = _; simp
  generalize (((w.alloc (.cells #[.int .i64 (m : Int)] 3)).alloc (.cells #[.slice none 0 0] 27)).alloc (.cells #[.pointer (some ⟨p, 0, none⟩)] 24)).drew = W0 at bN bO bE hB0 hsz ⊢
  have hI0 : OwnFrom W0.heap.size (TkI w m p) :=
    OwnFrom.and (OwnFrom.and (Own.from (holdsRow_own _ _ _ _ 2 (fun (pre : List (Int × Int)) => pre.length) (fun pre => pre.flatMap ceI) (fun _ _ => True)) _) (OwnFrom.and (Own.from (boxed_own _ _ _) _) (Own.from (boxed_own _ _ _) _))) (OwnFrom.and (ownFrom_pure _ _) (ownFrom_below (Nat.le_refl _) (by omega)))
  refine wpIn_rangeFunc_ownH rfl (by decide) (gf := 54) (lb := #[.pointer (some ⟨w.heap.size + 1 + 1, 0, none⟩)]) rfl trivial (enters_of Try.func54 (by kernel_rfl) rfl)
    (eachI_stops _ (w.heap.size + 1 + 1) w.heap.size B p g A n c f o ac rf cap L W0 hp hg (by omega) (by omega) bE.cell (HH.out.below hB0 hp hg)) KeepsB.trans (keepsB_b (by omega) (by omega)) (Below.refl _ _) (fun _ => rfl)
    (TkI w m p)
    (TkX w m p)
    hI0
    (fun _ => fun _ X Y row hs hg hr => by
      obtain ⟨e, pre0, x, h1, h2, h3⟩ := hs
      exact ⟨e, pre0, x, h1, h2, hI0 pre0 X Y row h3 hg hr⟩)
    ⟨⟨⟨_, bO, World.ownsRow_nil _ _ _ _, trivial⟩, bN, bE⟩, Nat.zero_le _, hB0⟩
    (fun x a' W => ∃ Bx, w.heap.size + 1 + 1 < Bx ∧ W.heap[Bx]? = some (.cells #[.int .i64 x.1, .int .i64 x.2] 29 (0, 0)) ∧ a' = { tmps := #[.pointer (some ⟨p, 0, none⟩), .int .i64 k, undef, .pointer (some ⟨w.heap.size, 0, none⟩), .slice none 0 0, .int .i64 0, .pointer (some ⟨w.heap.size + 1, 0, none⟩), .pointer (some ⟨Bx, 0, none⟩), .bool false, .pointer (some ⟨p, 0, none⟩), .bool false, .bool false, .int .i64 k, .bool false, .int .i64 k, .pointer (some ⟨p, 0, none⟩), .pointer (some ⟨p, 0, none⟩), .pointer (some ⟨p, 2, none⟩), .int .i64 (L.length : Int), .int .i64 (m : Int), .pointer (some ⟨p, 0, none⟩), .func (.func 54) #[] #[.pointer (some ⟨w.heap.size + 1 + 1, 0, none⟩)], .agg #[.int .i64 x.1, .int .i64 x.2], undef, undef, undef, undef, undef, undef, undef, undef, undef, undef, undef, undef, undef, undef, undef, undef, undef, undef, undef, undef, undef, undef, undef, undef, undef, undef, undef, undef, undef, undef, undef, undef, undef, undef, undef, undef, undef, undef, undef, undef, undef, undef, undef], defers := [] })
    (fun x a' => fun _ X Y row hs hg hr => by
      obtain ⟨Bx, h1, h2, h3⟩ := hs
      exact ⟨Bx, h1, (Own.from (block_own (β := Unit) Bx _ _ _) W0.heap.size) () X Y row h2 hg hr, h3⟩) ?assign ?body ?done ?stop
  case assign =>
    rintro l pre ⟨x1, x2⟩ W K hi hK
    unfold enI
    gi_wp2
    obtain ⟨⟨⟨v, hv, hr, _⟩, hN, hE⟩, hl, hb⟩ := hi
    exact hK _ _ ((KeepsOthers.alloc _ _).from _) (KeepsB.of_below ((Below.refl W.heap.size W).alloc (Nat.le_refl _) _) hb.size hE.lt)
      ⟨⟨⟨v, hv.alloc _, hr.alloc _, trivial⟩, hN.alloc _, hE.alloc _⟩, hl, hb.alloc hb.size _⟩
      ⟨W.heap.size, hE.lt, heap_alloc_new W _, rfl⟩
  case body =>
    rintro l pre ⟨x1, x2⟩ a' W hl ⟨r, hr⟩ ⟨⟨⟨v, hv, hrow, _⟩, hN, hE⟩, hlm, hB⟩ ⟨Bx, hBx, bX, rfl⟩ hlt
    obtain ⟨A', c', rfl⟩ := own_form hrow
    have hvc := hv.cell
    have hvf := hv.frozen
    have hnc := hN.cell
    have x0 : W.cell? ⟨Bx, 0, none⟩ = some (.int .i64 x1) := by simp [World.cell?, bX]
    have x1' : W.cell? ⟨Bx, 1, none⟩ = some (.int .i64 x2) := by simp [World.cell?, bX]
    by_cases hq : pre.length = m
    · have d2 : ((pre.length : Int) == (m : Int)) = true := by simp; omega
      have d2' : (pre.length == m) = true := by simp; omega
      have HQ := Lib.hid hq
      clear hq hlm hlt
      gi_wp2
      exact ⟨(KeepsOthers.refl _).from _, rfl, pre, (x1, x2), rfl, HQ.out, ⟨⟨_, hv, hrow, trivial⟩, hN, hE⟩, by rw [HQ.out]; exact Nat.le_refl _, hB⟩
    · have d2 : ((pre.length : Int) == (m : Int)) = false := by simp; omega
      have d2' : (pre.length == m) = false := by simp; omega
      have HQ := Lib.hid (show pre.length + 1 ≤ m by omega)
      have HLT := Lib.hid hlt
      clear hq hlm hlt
      gi_wp2_with (gi_at_builtin; refine wpListIn_app E_SI rfl _ _ rfl rfl (hrow.alloc _) rfl (sees_blockS (n := 1) (c := 1) (xs := ceI (x1, x2)) (heap_alloc_new _ _) rfl (by decide) (by decide) ⟨[], rfl⟩) (ceI1 (x1, x2)) (by have := HL.out; have := HLT.out; simp [maxLen]; omega) (by have := HL.out; have := HLT.out; omega) (by have := hB.size; simp; omega) ?_; intro A4 c4 w1 hown' hgrow hb'; obtain ⟨hv1, hv2, hr2, hk2, hb2⟩ := hv.appended (by decide) hrow hB.size (by omega) hown' hgrow; have hN2 := ((hN.alloc _).kept hgrow (hN.not_row (by decide) hrow)).other (B' := w.heap.size + 1) (by omega) (.slice A4 (pre.length + 1) c4); have hE2 := ((hE.alloc _).kept hgrow (hE.not_row (by decide) hrow)).other (B' := w.heap.size + 1) (by omega) (.slice A4 (pre.length + 1) c4); have hc1 := hv1.cell; have hf1 := hv1.frozen)
      have e1 : (pre ++ [(x1, x2)]).length = pre.length + 1 := by simp
      have e2 : (pre ++ [(x1, x2)]).flatMap ceI = pre.flatMap ceI ++ ceI (x1, x2) := by simp [List.flatMap_append]
      exact ⟨hk2.from _, ⟨hb2, fun v e => by rw [hE.cell] at e; cases e; exact hE2.cell⟩, ⟨⟨_, hv2, by rw [e1, e2]; exact hr2, trivial⟩, hN2, hE2⟩, by rw [e1]; exact HQ.out, hB.trans hb2⟩
  case done =>
    rintro D ys W hD hys hI hK
    rw [hys] at hI
    clear hys
    obtain ⟨⟨⟨v, hv, hrow, _⟩, hN, hE⟩, hlm, hB⟩ := hI
    obtain ⟨A', c', rfl⟩ := own_form hrow
    have hml2 : L.length = m := by have := HL.out; omega
    rw [hml2] at hv
    have hrow : W.ownsRow w.heap.size 29 2 (.slice A' m c') m ((L.take m).flatMap ceI) := by have := hrow; rw [hml2] at this; rwa [List.take_of_length_le (by omega)]
    clear hml2 hlm
    have R1 := HH.out.below hB hp hg
    have c0 := R1.c0
    have c1 := R1.c1
    have c2 := R1.c2
    have f1 := R1.free 1
    have f2 := R1.free 2
    have bo := hv.cell
    have bn := hN.cell
    have hfn := R1.first
    have hle := R1.le
    have hnle := R1.nle
    have hcap := R1.cap1
    have e1 : IntKind.i64.wrap ((L.length : Int) - (m : Int)) = ((L.length - m : Nat) : Int) := by rw [IntWalk.i64_in _ (by omega)]; omega
    have e2 : IntKind.i64.wrap ((f : Int) + (m : Int)) = ((f + m : Nat) : Int) := by rw [IntWalk.i64_in _ (by omega)]; omega
    have e3 : ((f + m : Nat) : Int).tmod (n : Int) = (((f + m) % n : Nat) : Int) := by rw [Int.tmod_eq_emod_of_nonneg (by omega)]; norm_cast
    have hne1 : w.heap.size ≠ p := by omega
    have hne2 : w.heap.size + 1 ≠ p := by omega
    have HB := Lib.hid hB
    have HR1 := Lib.hid R1
    have HO := Lib.hid hrow
    have HD := Lib.hid (And.intro hD hK)
    have hnp := R1.ne (by decide)
    have HNP := Lib.hid hnp
    have HV := Lib.hid hv
    clear hB R1 hrow hK hv hN hle hnle hcap hnp
    have hfin : ∀ W2 : World, W.heap.size ≤ W2.heap.size → (∀ i, i < W.heap.size → i ≠ p → W2.heap[i]? = W.heap[i]?) → W2.os = W.os ∧ W2.tape = W.tape ∧ W2.output = W.output →
        W2.heap[p]? = some (.cells #[.slice A n c, .int .i64 (((f + m) % n : Nat) : Int), .int .i64 ((L.length - m : Nat) : Int), .int .i64 o, .int .i64 ac, .int .i64 rf, .int .i64 cap] 73 (0, 0)) →
        W2.heap[D]? = some (.deferred (some [])) ∧ (W2.putObj D (.deferred none)).ownsRow w.heap.size 29 2 (.slice A' m c') m ((L.take m).flatMap ceI) ∧ RingI (W2.putObj D (.deferred none)) B p g A n c ((f + m) % n) o ac rf cap (L.drop m) ∧ Spared p g w (W2.putObj D (.deferred none)) := by
      intro W2 hz hk ⟨ho, ht, hou⟩ hobj
      have hDp : D ≠ p := by omega
      have hDl := lt_of_heap HD.out.2
      have hK2 : W2.heap[D]? = some (.deferred (some [])) := (hk D hDl hDp).trans HD.out.2
      have hz3 : W.heap.size ≤ (W2.putObj D (.deferred none)).heap.size := Nat.le_trans hz (grownBy_putObj' W2 D _).size
      refine ⟨hK2, ownsRow_putObj (own_sp HO.out hp hk) _ hK2 rfl, HR1.out.setP (by decide) hz3 (fun hne => ?_) ?_ (fun xs hx => hx.drop m) (by rw [List.length_drop]; have := HR1.out.le; omega) ?_, ?_⟩
      · rw [World.putObj_heap_other (by omega)]; exact hk g (by have := HR1.out.glt; exact this) hne
      · rw [World.putObj_heap_other (Ne.symm hDp), List.length_drop]; exact hobj
      · have hf9 := HR1.out.first
        rcases Nat.eq_zero_or_pos n with h9 | h9
        · exact .inr ⟨h9, by have := HR1.out.le; have := HL.out; rw [h9, Nat.mod_zero]; omega⟩
        · exact .inl (Nat.mod_lt _ h9)
      · refine ⟨ho.trans HB.out.os, ht.trans HB.out.tape, hou.trans HB.out.output, Nat.le_trans HB.out.size hz3, fun i hi h1 h2 => ?_⟩
        rw [World.putObj_heap_other (by omega), hk i (by have := HB.out.size; omega) h1]
        exact HB.out.block i hi
    have HF := Lib.hid hfin
    clear hfin
    by_cases h0 : 0 < n
    · have d1 : decide ((0 : Int) < (n : Int)) = true := by simp; omega
      have z1 : ¬ (n : Int) = 0 := by omega
      have z2 : ((n : Int) == 0) = false := by simp; omega
      have z3 : ¬ n = 0 := by omega
      clear hfn
      gi_wp2
      refine wpInW_region_still_tail 8 (by kernel_rfl) (by kernel_rfl) ?_
      simp only [List.take_succ_cons, List.take_zero, List.drop_succ_cons, List.drop_zero]
      repeat still_step
      refine wpStill_nil ?_
      gi_wp2
      refine wpInW_region_still_tail 8 (by kernel_rfl) (by kernel_rfl) ?_
      simp only [List.take_succ_cons, List.take_zero, List.drop_succ_cons, List.drop_zero]
      repeat still_step
      refine wpStill_nil ?_
      gi_wp2
      refine wpInW_region_still_tail 12 (by kernel_rfl) (by kernel_rfl) ?_
      simp only [List.take_succ_cons, List.take_zero, List.drop_succ_cons, List.drop_zero]
      repeat still_step
      refine wpStill_nil ?_
      gi_wp2
      have hfin := HF.out (((W.setCell ⟨p, 2, none⟩ (.int .i64 ((L.length - m : Nat) : Int))).setCell ⟨p, 1, none⟩ (.int .i64 ((f : Int) + (m : Int)))).setCell ⟨p, 1, none⟩ (.int .i64 (((f : Int) + (m : Int)) % (n : Int)))).drew.drew.drew
        (by show _ ≤ (((W.setCell _ _).setCell _ _).setCell _ _).heap.size; simp only [setCell_size]; exact Nat.le_refl _)
        (fun i _ hi => by show (((W.setCell _ _).setCell _ _).setCell _ _).heap[i]? = _; rw [Below.heap_setCell _ _ _ _ hi, Below.heap_setCell _ _ _ _ hi, Below.heap_setCell _ _ _ _ hi]) ⟨rfl, rfl, rfl⟩
        (by
          have := heap_setCell_same _ p 1 _ _ (.int .i64 (((f : Int) + (m : Int)) % (n : Int))) (heap_setCell_same _ p 1 _ _ (.int .i64 ((f : Int) + (m : Int))) (heap_setCell_same W p 2 _ _ (.int .i64 ((L.length - m : Nat) : Int)) HR1.out.obj))
          refine this.trans ?_
          norm_cast)
      obtain ⟨r1, r2, r3, r4⟩ := hfin
      refine ⟨by simp, .inl ⟨_, _, rfl, run_takeDeferred r1, ?_⟩⟩
      exact ⟨_, results_tmp2 rfl _ _ _, A', c', rfl, r2, r3, r4⟩
    · have d1 : decide ((0 : Int) < (n : Int)) = false := by simp; omega
      have d1' : decide (0 < n) = false := by simp; omega
      have hn0 : n = 0 := by omega
      have HN0 := Lib.hid hn0
      clear hfn h0 hn0
      gi_wp2
      refine wpInW_region_still_tail 8 (by kernel_rfl) (by kernel_rfl) ?_
      simp only [List.take_succ_cons, List.take_zero, List.drop_succ_cons, List.drop_zero]
      repeat still_step
      refine wpStill_nil ?_
      gi_wp2
      refine wpInW_region_still_tail 8 (by kernel_rfl) (by kernel_rfl) ?_
      simp only [List.take_succ_cons, List.take_zero, List.drop_succ_cons, List.drop_zero]
      repeat still_step
      refine wpStill_nil ?_
      gi_wp2
      have hfin := HF.out ((W.setCell ⟨p, 2, none⟩ (.int .i64 ((L.length - m : Nat) : Int))).setCell ⟨p, 1, none⟩ (.int .i64 ((f : Int) + (m : Int)))).drew.drew
        (by show _ ≤ ((W.setCell _ _).setCell _ _).heap.size; simp only [setCell_size]; exact Nat.le_refl _)
        (fun i _ hi => by show ((W.setCell _ _).setCell _ _).heap[i]? = _; rw [Below.heap_setCell _ _ _ _ hi, Below.heap_setCell _ _ _ _ hi]) ⟨rfl, rfl, rfl⟩
        (by
          have := heap_setCell_same _ p 1 _ _ (.int .i64 ((f : Int) + (m : Int))) (heap_setCell_same W p 2 _ _ (.int .i64 ((L.length - m : Nat) : Int)) HR1.out.obj)
          refine this.trans ?_
          rw [HN0.out, Nat.mod_zero]
          norm_cast)
      obtain ⟨r1, r2, r3, r4⟩ := hfin
      refine ⟨by simp, .inl ⟨_, _, rfl, run_takeDeferred r1, ?_⟩⟩
      exact ⟨_, results_tmp2 rfl _ _ _, A', c', rfl, r2, r3, r4⟩
  case stop =>
    rintro D j pre W hD hSp ⟨rfl, pre0, x, rfl, hml2, ⟨⟨v, hv, hrow, _⟩, hN, hE⟩, hlm, hB⟩ hK
    obtain ⟨A', c', rfl⟩ := own_form hrow
    have hpre : pre0 = L.take m := by
      obtain ⟨r, hr⟩ := hSp
      rw [← hr, ← hml2, List.append_assoc, List.take_left]
    rw [hpre] at hrow
    rw [hml2] at hv
    have hrow : W.ownsRow w.heap.size 29 2 (.slice A' m c') m ((L.take m).flatMap ceI) := by have := hrow; rw [← hpre, hml2] at this; rwa [hpre] at this
    have R1 := HH.out.below hB hp hg
    have c0 := R1.c0
    have c1 := R1.c1
    have c2 := R1.c2
    have f1 := R1.free 1
    have f2 := R1.free 2
    have bo := hv.cell
    have bn := hN.cell
    have hfn := R1.first
    have hle := R1.le
    have hnle := R1.nle
    have hcap := R1.cap1
    have e1 : IntKind.i64.wrap ((L.length : Int) - (m : Int)) = ((L.length - m : Nat) : Int) := by rw [IntWalk.i64_in _ (by omega)]; omega
    have e2 : IntKind.i64.wrap ((f : Int) + (m : Int)) = ((f + m : Nat) : Int) := by rw [IntWalk.i64_in _ (by omega)]; omega
    have e3 : ((f + m : Nat) : Int).tmod (n : Int) = (((f + m) % n : Nat) : Int) := by rw [Int.tmod_eq_emod_of_nonneg (by omega)]; norm_cast
    have hne1 : w.heap.size ≠ p := by omega
    have hne2 : w.heap.size + 1 ≠ p := by omega
    have HB := Lib.hid hB
    have HR1 := Lib.hid R1
    have HO := Lib.hid hrow
    have HD := Lib.hid (And.intro hD hK)
    have hnp := R1.ne (by decide)
    have HNP := Lib.hid hnp
    have HV := Lib.hid hv
    clear hB R1 hrow hK hv hN hle hnle hcap hnp
    have hfin : ∀ W2 : World, W.heap.size ≤ W2.heap.size → (∀ i, i < W.heap.size → i ≠ p → W2.heap[i]? = W.heap[i]?) → W2.os = W.os ∧ W2.tape = W.tape ∧ W2.output = W.output →
        W2.heap[p]? = some (.cells #[.slice A n c, .int .i64 (((f + m) % n : Nat) : Int), .int .i64 ((L.length - m : Nat) : Int), .int .i64 o, .int .i64 ac, .int .i64 rf, .int .i64 cap] 73 (0, 0)) →
        W2.heap[D]? = some (.deferred (some [])) ∧ (W2.putObj D (.deferred none)).ownsRow w.heap.size 29 2 (.slice A' m c') m ((L.take m).flatMap ceI) ∧ RingI (W2.putObj D (.deferred none)) B p g A n c ((f + m) % n) o ac rf cap (L.drop m) ∧ Spared p g w (W2.putObj D (.deferred none)) := by
      intro W2 hz hk ⟨ho, ht, hou⟩ hobj
      have hDp : D ≠ p := by omega
      have hDl := lt_of_heap HD.out.2
      have hK2 : W2.heap[D]? = some (.deferred (some [])) := (hk D hDl hDp).trans HD.out.2
      have hz3 : W.heap.size ≤ (W2.putObj D (.deferred none)).heap.size := Nat.le_trans hz (grownBy_putObj' W2 D _).size
      refine ⟨hK2, ownsRow_putObj (own_sp HO.out hp hk) _ hK2 rfl, HR1.out.setP (by decide) hz3 (fun hne => ?_) ?_ (fun xs hx => hx.drop m) (by rw [List.length_drop]; have := HR1.out.le; omega) ?_, ?_⟩
      · rw [World.putObj_heap_other (by omega)]; exact hk g (by have := HR1.out.glt; exact this) hne
      · rw [World.putObj_heap_other (Ne.symm hDp), List.length_drop]; exact hobj
      · have hf9 := HR1.out.first
        rcases Nat.eq_zero_or_pos n with h9 | h9
        · exact .inr ⟨h9, by have := HR1.out.le; have := HL.out; rw [h9, Nat.mod_zero]; omega⟩
        · exact .inl (Nat.mod_lt _ h9)
      · refine ⟨ho.trans HB.out.os, ht.trans HB.out.tape, hou.trans HB.out.output, Nat.le_trans HB.out.size hz3, fun i hi h1 h2 => ?_⟩
        rw [World.putObj_heap_other (by omega), hk i (by have := HB.out.size; omega) h1]
        exact HB.out.block i hi
    have HF := Lib.hid hfin
    clear hfin
    by_cases h0 : 0 < n
    · have d1 : decide ((0 : Int) < (n : Int)) = true := by simp; omega
      have z1 : ¬ (n : Int) = 0 := by omega
      have z2 : ((n : Int) == 0) = false := by simp; omega
      have z3 : ¬ n = 0 := by omega
      clear hfn
      gi_wp2
      refine wpInW_region_still_tail 8 (by kernel_rfl) (by kernel_rfl) ?_
      simp only [List.take_succ_cons, List.take_zero, List.drop_succ_cons, List.drop_zero]
      repeat still_step
      refine wpStill_nil ?_
      gi_wp2
      refine wpInW_region_still_tail 8 (by kernel_rfl) (by kernel_rfl) ?_
      simp only [List.take_succ_cons, List.take_zero, List.drop_succ_cons, List.drop_zero]
      repeat still_step
      refine wpStill_nil ?_
      gi_wp2
      refine wpInW_region_still_tail 12 (by kernel_rfl) (by kernel_rfl) ?_
      simp only [List.take_succ_cons, List.take_zero, List.drop_succ_cons, List.drop_zero]
      repeat still_step
      refine wpStill_nil ?_
      gi_wp2
      have hfin := HF.out (((W.setCell ⟨p, 2, none⟩ (.int .i64 ((L.length - m : Nat) : Int))).setCell ⟨p, 1, none⟩ (.int .i64 ((f : Int) + (m : Int)))).setCell ⟨p, 1, none⟩ (.int .i64 (((f : Int) + (m : Int)) % (n : Int)))).drew.drew.drew
        (by show _ ≤ (((W.setCell _ _).setCell _ _).setCell _ _).heap.size; simp only [setCell_size]; exact Nat.le_refl _)
        (fun i _ hi => by show (((W.setCell _ _).setCell _ _).setCell _ _).heap[i]? = _; rw [Below.heap_setCell _ _ _ _ hi, Below.heap_setCell _ _ _ _ hi, Below.heap_setCell _ _ _ _ hi]) ⟨rfl, rfl, rfl⟩
        (by
          have := heap_setCell_same _ p 1 _ _ (.int .i64 (((f : Int) + (m : Int)) % (n : Int))) (heap_setCell_same _ p 1 _ _ (.int .i64 ((f : Int) + (m : Int))) (heap_setCell_same W p 2 _ _ (.int .i64 ((L.length - m : Nat) : Int)) HR1.out.obj))
          refine this.trans ?_
          norm_cast)
      obtain ⟨r1, r2, r3, r4⟩ := hfin
      refine ⟨by simp, .inl ⟨_, _, rfl, run_takeDeferred r1, ?_⟩⟩
      exact ⟨_, results_tmp2 rfl _ _ _, A', c', rfl, r2, r3, r4⟩
    · have d1 : decide ((0 : Int) < (n : Int)) = false := by simp; omega
      have d1' : decide (0 < n) = false := by simp; omega
      have hn0 : n = 0 := by omega
      have HN0 := Lib.hid hn0
      clear hfn h0 hn0
      gi_wp2
      refine wpInW_region_still_tail 8 (by kernel_rfl) (by kernel_rfl) ?_
      simp only [List.take_succ_cons, List.take_zero, List.drop_succ_cons, List.drop_zero]
      repeat still_step
      refine wpStill_nil ?_
      gi_wp2
      refine wpInW_region_still_tail 8 (by kernel_rfl) (by kernel_rfl) ?_
      simp only [List.take_succ_cons, List.take_zero, List.drop_succ_cons, List.drop_zero]
      repeat still_step
      refine wpStill_nil ?_
      gi_wp2
      have hfin := HF.out ((W.setCell ⟨p, 2, none⟩ (.int .i64 ((L.length - m : Nat) : Int))).setCell ⟨p, 1, none⟩ (.int .i64 ((f : Int) + (m : Int)))).drew.drew
        (by show _ ≤ ((W.setCell _ _).setCell _ _).heap.size; simp only [setCell_size]; exact Nat.le_refl _)
        (fun i _ hi => by show ((W.setCell _ _).setCell _ _).heap[i]? = _; rw [Below.heap_setCell _ _ _ _ hi, Below.heap_setCell _ _ _ _ hi]) ⟨rfl, rfl, rfl⟩
        (by
          have := heap_setCell_same _ p 1 _ _ (.int .i64 ((f : Int) + (m : Int))) (heap_setCell_same W p 2 _ _ (.int .i64 ((L.length - m : Nat) : Int)) HR1.out.obj)
          refine this.trans ?_
          rw [HN0.out, Nat.mod_zero]
          norm_cast)
      obtain ⟨r1, r2, r3, r4⟩ := hfin
      refine ⟨by simp, .inl ⟨_, _, rfl, run_takeDeferred r1, ?_⟩⟩
      exact ⟨_, results_tmp2 rfl _ _ _, A', c', rfl, r2, r3, r4⟩
end Go.Proofs.Ytgomnifcgaigkaa
