/- Members. -/
import Derived.Test.YtemhoaleeefhhaaProg
import Derived.Test.YtemhoaleeefhhaaBd
namespace Go.Proofs.Ytemhoaleeefhhaa
open Go.RowKit Go.Shelf
set_option linter.unusedVariables false
attribute [local go_sem] Oper.semAt_some

theorem block_ownB {β : Type} (Bx : Nat) (cs : Array Value) (e : TypeId) (fz : Nat × Nat) : Own (fun (_ : β) (W : World) => W.heap[Bx]? = some (.cells cs e fz)) := fun s X Y row hs hg hrow =>
  (hg.block Bx (lt_of_heap hs) (fun e' => by obtain ⟨o, ho, hc⟩ := hrow Bx e'.symm; rw [hs] at ho; cases ho; cases hc)).trans hs
theorem wpListIn_app {F : Fence} {k : Nat} {P : Program} {t e : TypeId} {z : Value} {s bytes : Nat} (E : Elem P t e z s bytes) {ops : Array Oper} {rest : List Oper} {o : Oper} {a : Act} {Q : Exit → Act → World → Prop} {w : World}
    (hgd : o.guard = none) (x y : Operand) (ho : o.op = .call { callee := .builtin .append, args := #[x, y], argTypes := #[t, t] })
    {base : Nat} {v : Value} {n : Nat} {xs : List Value} (hs : a.eval x = v) (hown : w.ownsRow base e s v n xs)
    {A : Option Addr} {m c : Nat} {news : List Value} (hx : a.eval y = .slice A m c) (hsee : Sees w s A m c news) (h1 : ∀ u ∈ news, u.oneCell' = true) (h63 : n + m ≤ maxLen) (hb : (n + m) * bytes ≤ 140737488355328) (hbase : base ≤ w.heap.size)
    (h : ∀ A' c' w', w'.ownsRow base e s (.slice A' (n + m) c') (n + m) (xs ++ news) → w.grownBy w' v.ownBlock → Below base w w' → wpListIn F k P ops Q rest (a.put o.dst (.slice A' (n + m) c')) w') : wpListIn F k P ops Q (o :: rest) a w := by
  refine wpListIn_plain hgd fun K hK => ?_
  obtain ⟨A', c', w', hr, h2, h3, h4⟩ := run_app (ty := o.type) E hown hsee h1 h63 hb hbase
  unfold Oper.wpIn
  refine ⟨?_, ?_⟩
  · simp [Oper.about, ho, resolve, Target.leads, Sem.run_pure]
  · rw [Oper.semAt_plain F _ _ (by rw [ho]; intro c hc'; cases hc')]
    simp [execOp, ho, resolve, invoke, builtin, hs, hx, hr, Result.andThen]
    exact hK _ _ (h A' c' w' h2 h3 h4)
theorem own_typeB {w : World} {base e s n c b : Nat} {A : Option Addr} {xs : List Value} {cs : Array Value} {t : TypeId} {fz : Nat × Nat} (h : w.ownsRow base e s (.slice A n c) n xs) (hb : w.heap[b]? = some (.cells cs t fz)) (ht : t ≠ e) : (Value.slice A n c).ownBlock ≠ some b := by
  rcases h.2 with ⟨e1, _⟩ | ⟨g, cap, cur, hv, hg, hh, _⟩
  · cases e1; simp [Value.ownBlock]
  · cases hv
    intro e2
    simp [Value.ownBlock] at e2
    subst e2
    rw [hh] at hb
    cases hb
    exact ht rfl

theorem members_stops (m Bs Bf n₀ N f : Nat) (fi : Int) (A : Option Addr) (n c : Nat) (l : List Int) (w : World) (hN : N ≤ 64 * n) (hN2 : N ≤ 65536) (hfi : max fi 0 = (f : Int)) (hw : W64 l) (hn₀ : n₀ ≤ w.heap.size) (hBf : Bf < w.heap.size)
    (hS : w.heap[Bs]? = some (.cells #[.int .i64 (N : Int), .slice A n c] 24 (0, 0))) (hF : w.cell? ⟨Bf, 0, none⟩ = some (.int .i64 fi)) (hs : ∀ W', Below n₀ w W' → Sees W' 1 A n c (l.map (Value.int .u64))) :
    SeqStopsK Fence.wide (m + 1) Try.prog 68 #[.pointer (some ⟨Bf, 0, none⟩), .pointer (some ⟨Bs, 0, none⟩)] enM (KeepsO n₀ Bs) (fun ys => ys = memF l f N) (fun pre => pre <+: memF l f N) (memF l f N).length w := fun y J Jx W hW hJ _ hY h0 =>
  members1_in m y Bs Bf n₀ N f fi A n c l J Jx hN hN2 hfi hw hY W hJ ((hW.block Bs (lt_of_heap hS)).trans hS) ((hW.cell (p := ⟨Bf, 0, none⟩) hBf).trans hF) (fun W' hW' => hs W' ((hW.mono hn₀).trans hW')) (Nat.le_trans hn₀ hW.size) h0

abbrev intsN (L : List Nat) : List Value := L.map fun i : Nat => Value.int .i64 (i : Int)
def MbI (w : World) (Bs : Nat) (cs : Array Value) (pre : List Nat) (W : World) : Prop := ((∃ v, Boxed W (w.heap.size + 1) 30 v ∧ W.ownsRow w.heap.size 3 1 v pre.length (intsN pre) ∧ True) ∧ W.heap[Bs]? = some (.cells cs 24 (0, 0))) ∧ Below w.heap.size w W

set_option maxRecDepth 100000 in
set_option maxHeartbeats 3200000 in
theorem Members_in (N : Nat) (A : Option Addr) (n c : Nat) (l : List Int) (w : World) (hs : Sees w 1 A n c (l.map (Value.int .u64))) (hw : W64 l) (hr : RightW (N : Int) l) :
    CallsIn Fence.wide 9 Try.prog 16 #[setv (N : Int) A n c] w fun e w' => ∃ A' c', e = .returned (.slice A' (mem l N).length c') ∧ w'.ownsRow w.heap.size 3 1 (.slice A' (mem l N).length c') (mem l N).length (intsN (mem l N)) ∧ Below w.heap.size w w' := by
  have hF : ∀ k, Fence.wide.fn k := fun _ => trivial
  have hl := hs.length
  have HNN := Lib.hid (show N ≤ 64 * n ∧ N ≤ 65536 by have h1 := hr.2.1; have h2 := hr.2.2.1; omega)
  have hB0 : Below w.heap.size w ((w.alloc (.cells #[.int .i64 (N : Int), .slice A n c] 24)).alloc (.cells #[.slice none 0 0] 30)) := ((Below.refl _ _).alloc (Nat.le_refl _) _).alloc (by simp) _
  have hsz0 : ((w.alloc (.cells #[.int .i64 (N : Int), .slice A n c] 24)).alloc (.cells #[.slice none 0 0] 30)).heap.size = w.heap.size + 2 := by simp
  have bO := Boxed.new (w.alloc (.cells #[.int .i64 (N : Int), .slice A n c] 24)) 30 (.slice none 0 0)
  rw [World.size_alloc] at bO
  have bS : ((w.alloc (.cells #[.int .i64 (N : Int), .slice A n c] 24)).alloc (.cells #[.slice none 0 0] 30)).heap[w.heap.size]? = some (.cells #[.int .i64 (N : Int), .slice A n c] 24 (0, 0)) := by
    rw [heap_alloc_old _ _ (by simp)]; exact heap_alloc_new _ _
  have HRT := Lib.hid (decide_eq_true hr)
  have HSE := Lib.hid hs
  have HW0 := Lib.hid (And.intro hB0 (And.intro hsz0 (And.intro bO bS)))
  clear hs hr hl hB0 hsz0 bO bS
  refine callsIn_of_wp_marks Try.func16 rfl trivial ?_ rfl
  simp only [Try.ntmps16, List.size_toArray, List.length_cons, List.length_nil, Nat.reduceAdd, Nat.reduceSub, Array.replicate_succ, Array.replicate_zero, List.push_toArray, List.append_toArray, List.nil_append, List.cons_append]
  gi_wp2_with (first
    | (gi_at_call 52; have _q := R1; refine (callsIn_wide.2 (members_any (N : Int) 0 A n c _)).mono ?_; rintro e w2 ⟨rfl, rfl⟩)
    | (gi_at_call 34; refine (callsIn_wide.2 (Right_any (N : Int) A n c l _ (HSE.out.below HW0.out.1 (Nat.le_refl _)) hw)).mono ?_; rw [HRT.out]; rintro e w1 ⟨rfl, k1⟩; have X1 := (k1.block w.heap.size (by rw [HW0.out.2.1]; omega)).trans HW0.out.2.2.2; have y0 : w1.cell? ⟨w.heap.size, 0, none⟩ = some (.int .i64 (N : Int)) := (by simp [World.cell?, X1]); have y1 : w1.cell? ⟨w.heap.size, 1, none⟩ = some (.slice A n c) := (by simp [World.cell?, X1]); have R1 := Lib.hid k1; clear k1 X1))
  have hb1 : Below w.heap.size w w1 := HW0.out.1.trans (R1.out.mono (by rw [HW0.out.2.1]; omega))
  have hz1 : w.heap.size + 2 ≤ w1.heap.size := by have h9 := R1.out.size; rw [HW0.out.2.1] at h9; exact h9
  have bO : Boxed ((w1.alloc (.cells #[.int .i64 (N : Int), .slice A n c] 24)).alloc (.cells #[.int .i64 0] 3)) (w.heap.size + 1) 30 (.slice none 0 0) := by
    have h9 : Boxed w1 (w.heap.size + 1) 30 (.slice none 0 0) := (R1.out.block (w.heap.size + 1) (by rw [HW0.out.2.1]; omega)).trans HW0.out.2.2.1
    exact (h9.alloc _).alloc _
  have bS : ((w1.alloc (.cells #[.int .i64 (N : Int), .slice A n c] 24)).alloc (.cells #[.int .i64 0] 3)).heap[w1.heap.size]? = some (.cells #[.int .i64 (N : Int), .slice A n c] 24 (0, 0)) := by
    rw [heap_alloc_old _ _ (by simp)]; exact heap_alloc_new _ _
  have bF := (Boxed.new (w1.alloc (.cells #[.int .i64 (N : Int), .slice A n c] 24)) 3 (.int .i64 0)).cell
  rw [World.size_alloc] at bF
  have hB2 : Below w.heap.size w ((w1.alloc (.cells #[.int .i64 (N : Int), .slice A n c] 24)).alloc (.cells #[.int .i64 0] 3)) := (hb1.alloc (by omega) _).alloc (by simp; omega) _
  have hz2 : ((w1.alloc (.cells #[.int .i64 (N : Int), .slice A n c] 24)).alloc (.cells #[.int .i64 0] 3)).heap.size = w1.heap.size + 2 := by simp
  generalize (w1.alloc (.cells #[.int .i64 (N : Int), .slice A n c] 24)).alloc (.cells #[.int .i64 0] 3) = W0 at bO bS bF hB2 hz2 ⊢
  clear R1 y0 y1 hb1
  generalize w1.heap.size = Bs at bS bF hz1 hz2 ⊢
  have hI0 : OwnFrom W0.heap.size (MbI w Bs #[.int .i64 (N : Int), .slice A n c]) :=
    OwnFrom.and (OwnFrom.and (Own.from (holdsRow_own _ _ _ _ 1 (fun (pre : List Nat) => pre.length) (fun pre => intsN pre) (fun _ _ => True)) _) (Own.from (block_ownB _ _ _ _) _)) (ownFrom_below (Nat.le_refl _) (by omega))
  refine wpIn_rangeFunc_ownH rfl (by decide) (gf := 68) (lb := #[.pointer (some ⟨Bs + 1, 0, none⟩), .pointer (some ⟨Bs, 0, none⟩)]) rfl trivial (enters_of Try.func68 (by kernel_rfl) rfl)
    (members_stops _ Bs (Bs + 1) w.heap.size N 0 0 A n c l W0 HNN.out.1 HNN.out.2 (by rfl) hw (by omega) (by omega) bS bF (fun W' hW' => HSE.out.below (hB2.trans hW') (Nat.le_refl _))) KeepsO.trans (keepsO_b (by omega) (by omega)) (Below.refl _ _) (fun _ => rfl)
    (MbI w Bs #[.int .i64 (N : Int), .slice A n c])
    (fun _ _ _ => False)
    hI0
    (fun _ => fun _ _ _ _ hs _ _ => hs)
    ⟨⟨⟨_, bO, World.ownsRow_nil _ _ _ _, trivial⟩, bS⟩, hB2⟩
    (fun x a' W => a' = { tmps := #[setv (N : Int) A n c, .pointer (some ⟨w.heap.size, 0, none⟩), .slice none 0 0, .pointer (some ⟨w.heap.size + 1, 0, none⟩), .int .i64 (x : Int), .agg #[.int .i64 (N : Int), .slice A n c], .bool true, .agg #[.int .i64 (N : Int), .slice A n c], .func (.func 68) #[] #[.pointer (some ⟨Bs + 1, 0, none⟩), .pointer (some ⟨Bs, 0, none⟩)], .int .i64 (x : Int), undef, undef, undef, undef, undef], defers := [] })
    (fun x a' => fun _ X Y row hs hg hr => hs) ?assign ?body ?done ?stop
  case assign =>
    rintro y pre x W K hi hK
    unfold enM
    gi_wp2
    exact hK _ _ ((KeepsOthers.refl _).from _) (KeepsO.refl _ _ _) hi rfl
  case body =>
    rintro y pre x a' W hl ⟨r, hr⟩ ⟨⟨⟨v, hv, hrow, _⟩, hE⟩, hB⟩ rfl hlt
    obtain ⟨A', c', rfl⟩ := own_form hrow
    have hvc := hv.cell
    have hvf := hv.frozen
    have HLT := Lib.hid (show pre.length ≤ 65536 by have h9 := mem_len l N; have h8 := cnt_le l N; have h7 := HNN.out.2; unfold mem at h9; omega)
    clear hlt
    gi_wp2_with (gi_at_builtin; refine wpListIn_app E_i64 rfl _ _ rfl rfl (hrow.alloc _) rfl (Sees.one _ _ _) (one1 (u := .int .i64 (x : Int)) rfl) (by have := HLT.out; simp [maxLen]; omega) (by have := HLT.out; omega) (by have := hB.size; simp; omega) ?_; intro A4 c4 w4 hown' hgrow hb'; obtain ⟨hv1, hv2, hr2, hk2, hb2⟩ := hv.appended (by decide) hrow hB.size (by omega) hown' hgrow; have hE2 : (w4.setCell ⟨w.heap.size + 1, 0, none⟩ (.slice A4 (pre.length + 1) c4)).heap[Bs]? = some (.cells #[.int .i64 (N : Int), .slice A n c] 24 (0, 0)) := (by rw [Below.heap_setCell _ _ _ _ (by show Bs ≠ w.heap.size + 1; omega)]; exact (hgrow.block Bs (by have := lt_of_heap hE; simp; omega) (fun e => own_typeB hrow hE (by decide) e.symm)).trans ((heap_alloc_old _ _ (lt_of_heap hE)).trans hE)); have hc1 := hv1.cell; have hf1 := hv1.frozen)
    have e1 : (pre ++ [x]).length = pre.length + 1 := by simp
    have e2 : intsN (pre ++ [x]) = intsN pre ++ [Value.int .i64 (x : Int)] := by simp [intsN]
    exact ⟨hk2.from _, ⟨hb2, fun o e => by rw [hE] at e; cases e; exact hE2⟩, ⟨⟨_, hv2, by rw [e1, e2]; exact hr2, trivial⟩, hE2⟩, hB.trans hb2⟩
  case done =>
    rintro D ys W hD rfl ⟨⟨⟨v, hv, hrow, _⟩, hE⟩, hB⟩ hK
    obtain ⟨A', c', rfl⟩ := own_form hrow
    have hvc := hv.cell
    gi_wp2
    refine ⟨by simp, .inl ⟨_, _, rfl, run_takeDeferred hK, ?_⟩⟩
    exact ⟨_, results_tmp rfl _ _ _, A', c', rfl, ownsRow_putObj hrow _ hK rfl, hB.trans ((Below.refl w.heap.size W).grown (grownBy_putObj' W D _) hB.size (fun k e => by cases e; omega))⟩
  case stop =>
    rintro D c pre W _ _ h _
    exact h.elim

/-- What Members tells. -/
def membersF (l : List Int) (N : Int) : List Nat := if RightW N l then mem l N.toNat else []
set_option maxRecDepth 20000 in
theorem Members_no (N : Int) (A : Option Addr) (n c : Nat) (l : List Int) (w : World) (hs : Sees w 1 A n c (l.map (Value.int .u64))) (hw : W64 l) (hr : ¬ RightW N l) :
    Calls Try.prog 16 #[setv N A n c] w fun e w' => e = .returned (.slice none 0 0) ∧ Below w.heap.size w w' := by
  have hB0 : Below w.heap.size w ((w.alloc (.cells #[.int .i64 N, .slice A n c] 24)).alloc (.cells #[.slice none 0 0] 30)) := ((Below.refl _ _).alloc (Nat.le_refl _) _).alloc (by simp) _
  have bO := Boxed.new (w.alloc (.cells #[.int .i64 N, .slice A n c] 24)) 30 (.slice none 0 0)
  rw [World.size_alloc] at bO
  have HR := Lib.hid (decide_eq_false hr)
  have HSE := Lib.hid (hs.below hB0 (Nat.le_refl _))
  have HB0 := Lib.hid (And.intro hB0 bO)
  clear hs hr hB0 bO
  go_enter Try.func16, Try.ntmps16
  go_wp2_with (go_at_call 34; refine (Right_any N A n c l _ HSE.out hw).mono ?_; rw [HR.out]; rintro e w1 ⟨rfl, k1⟩; have y1 := (show Boxed w1 (w.heap.size + 1) 30 (.slice none 0 0) from (k1.block (w.heap.size + 1) HB0.out.2.lt).trans HB0.out.2).cell; have R1 := Lib.hid k1; clear k1)
  go_ret
  exact ⟨rfl, below_step HB0.out.1 R1.out⟩
theorem Members_any (N : Int) (A : Option Addr) (n c : Nat) (l : List Int) (w : World) (hs : Sees w 1 A n c (l.map (Value.int .u64))) (hw : W64 l) :
    Calls Try.prog 16 #[setv N A n c] w fun e w' => ∃ A' c', e = .returned (.slice A' (membersF l N).length c') ∧ w'.ownsRow w.heap.size 3 1 (.slice A' (membersF l N).length c') (membersF l N).length (intsN (membersF l N)) ∧ Below w.heap.size w w' := by
  unfold membersF
  by_cases hr : RightW N l
  · rw [if_pos hr]
    obtain ⟨M, rfl⟩ : ∃ M : Nat, N = (M : Int) := ⟨N.toNat, by have := hr.1; omega⟩
    rw [Int.toNat_natCast]
    exact callsIn_wide.1 (Members_in M A n c l w hs hw hr)
  · rw [if_neg hr]
    exact (Members_no N A n c l w hs hw hr).mono fun e w' ⟨he, hb⟩ => ⟨none, 0, he, World.ownsRow_nil _ _ _ _, hb⟩
end Go.Proofs.Ytemhoaleeefhhaa
