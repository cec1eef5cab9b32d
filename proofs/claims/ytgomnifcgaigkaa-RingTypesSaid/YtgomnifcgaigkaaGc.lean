/- Collect and Grow over a ring's iterator. -/
import Derived.Test.YtgomnifcgaigkaaProg
import Derived.Test.YtgomnifcgaigkaaGb
import Derived.Test.YtgomnifcgaigkaaQ2
import Derived.Lib.AppendZerosOnto
namespace Go.Proofs.Ytgomnifcgaigkaa
open Go.RowKit Go.Shelf
set_option linter.unusedVariables false
attribute [local go_sem] Oper.semAt_some

theorem wpListIn_app {F : Fence} {k : Nat} {P : Program} {t e : TypeId} {z : Value} {s bytes : Nat} (E : Elem P t e z s bytes) {ops : Array Oper} {rest : List Oper} {o : Oper} {a : Act} {Q : Exit → Act → World → Prop} {w : World}
    (hgd : o.guard = none) (x y : Operand) (ho : o.op = .call { callee := .builtin .append, args := #[x, y], argTypes := #[t, t] })
    {base : Nat} {v : Value} {n : Nat} {xs : List Value} (hs : a.eval x = v) (hown : w.ownsRow base e s v n xs)
    {A : Option Addr} {m c : Nat} {news : List Value} (hx : a.eval y = .slice A m c) (hsee : Sees w s A m c news) (h1 : ∀ u ∈ news, u.oneCell' = true) (h63 : n + m ≤ maxLen) (hb : (n + m) * bytes ≤ 140737488355328) (hbase : base ≤ w.heap.size)
    (h : ∀ A' c' w', w'.ownsRow base e s (.slice A' (n + m) c') (n + m) (xs ++ news) → w.grownBy w' v.ownBlock → Below base w w' → wpListIn F k P ops Q rest (a.put o.dst (.slice A' (n + m) c')) w') : wpListIn F k P ops Q (o :: rest) a w := by
  refine wpListIn_plain hgd fun K hK => ?_
  obtain ⟨A', c', w', hr, h2, h3, h4⟩ := run_app (ty := o.type) E hown hsee h1 h63 hb hbase
  unfold Oper.wpIn
  refine ⟨?_, ?_⟩
  · simp [Oper.about, ho, resolve, Target.leads, Sem.run_pure]
  · rw [Oper.semAt_plain F _ _ (by rw [ho]; intro c hc'; cases hc')]
    simp [execOp, ho, resolve, invoke, builtin, hs, hx, hr, Result.andThen]
    exact hK _ _ (h A' c' w' h2 h3 h4)

theorem sees_blockS {w : World} {g n c s : Nat} {cs : Array Value} {e : TypeId} {fz : Nat × Nat} {xs : List Value} (h : w.heap[g]? = some (.cells cs e fz)) (hx : xs.length = n * s) (hn : n ≤ c) (hc : c ≤ maxLen) (hp : xs <+: cs.toList) : Sees w s (some ⟨g, 0, none⟩) n c xs :=
  ⟨hx, hn, hc, fun h => by (cases h), fun k u hu => ⟨g, 0, rfl, by
    rw [Nat.zero_add, cell_of_row w g k cs e fz h]
    obtain ⟨r, hr⟩ := hp
    have : cs.toList[k]? = some u := by rw [← hr, List.getElem?_append_left (List.getElem?_eq_some_iff.1 hu).1]; exact hu
    simpa using this⟩⟩

theorem block_own {β : Type} (Bx : Nat) (cs : Array Value) (e : TypeId) (fz : Nat × Nat) : Own (fun (_ : β) (W : World) => W.heap[Bx]? = some (.cells cs e fz)) := fun s X Y row hs hg hrow =>
  (hg.block Bx (lt_of_heap hs) (fun e' => by obtain ⟨o, ho, hc⟩ := hrow Bx e'.symm; rw [hs] at ho; cases ho; cases hc)).trans hs

/-- 'append(s, make([]T, 1)...)' at a row that is full. -/
theorem run_app0 {P : Program} {t tn ty e : TypeId} {z : Value} {s bytes : Nat} (E : Elem P t e z s bytes) (htn : P.underlying tn = some (.int .i64)) {w : World} {base n : Nat} {A : Option Addr} {xs : List Value}
    (hown : w.ownsRow base e s (.slice A n n) n xs) (hn : n ≤ 100000) (hby : bytes ≤ 1000) (hbase : base ≤ w.heap.size) :
    ∃ c' w', (Builtin.append_ #[t, tn] ty #[.slice A n n, .int .i64 1]).run P w = .ok (.slice (some ⟨w.heap.size, 0, none⟩) (n + 1) c') w' ∧ n + 1 ≤ c' ∧ w'.ownsRow base e s (.slice (some ⟨w.heap.size, 0, none⟩) n c') n xs ∧ Below w.heap.size w w' := by
  obtain ⟨ht, hz, hs, i, hi, hz0, hz1, hz2⟩ := E
  have hsee := sees_own hown
  have hold : (Builtin.firstCells i.size n (.slice A n n)).run P w.drew = .ok xs.toArray w.drew := by
    cases A with
    | none =>
      have h0 := hsee.nil_ rfl
      subst h0
      have : xs = [] := List.eq_nil_of_length_eq_zero (by simpa using hsee.len)
      subst this
      exact run_firstCells_none (w := w.drew) i.size 0 0 0
    | some a =>
      refine run_firstCells_some (w := w.drew) i.size n a n n xs (by rw [hz1]; exact hsee.len) fun j v hv => ?_
      obtain ⟨b, o, hA, hc⟩ := hsee.look j v hv
      cases hA
      rw [Addr.add_lit]
      exact hc
  have hfit : Builtin.nextslicecap (n + 1) n ≤ 2 * (n + 1) := nextslicecap_le (by omega)
  have hmul : Builtin.nextslicecap (n + 1) n * i.bytes ≤ 2 * (n + 1) * 1000 := Nat.mul_le_mul hfit (by rw [hz2]; exact hby)
  have hr := Lib.run_append_grow_zeros (P := P) (ty := ty) w t tn e i z .i64 .i64 ht htn hi hz0 A n n xs hold 1 (by decide) (by rw [hz1]; exact hs) (by omega) (by omega) (by rw [hz2]; omega) (by omega)
  have hge := grownCap_ge w (n + 1) n e
  have hcm : grownCap w (n + 1) n e ≤ maxLen := grownCap_le_maxLen w (n + 1) n e (by simp [maxLen]; omega)
  refine ⟨_, _, hr, hge, ⟨hown.1, .inr ⟨w.heap.size, _, _, rfl, hbase, heap_alloc_new w.drew _, by omega, hcm, ?_, ?_⟩⟩, ((Below.refl _ w).drew).alloc (Nat.le_refl _) _⟩
  · simp only [Array.size_append, List.size_toArray, size_zeroCells, hz, hown.1, ← Nat.add_mul]
    congr 1
    omega
  · simp only [Array.toList_append, List.append_assoc]
    rw [← hown.1]
    exact List.take_left

theorem wpList_app0 {P : Program} {t tn e : TypeId} {z : Value} {s bytes : Nat} (E : Elem P t e z s bytes) (htn : P.underlying tn = some (.int .i64)) {ops : Array Oper} {rest : List Oper} {o : Oper} {a : Act} {Q : Exit → Act → World → Prop} {w : World}
    (hgd : o.guard = none) (x y : Operand) (ho : o.op = .call { callee := .builtin .append, args := #[x, y], argTypes := #[t, tn] })
    {base n : Nat} {A : Option Addr} {xs : List Value} (hs : a.eval x = .slice A n n) (hx : a.eval y = .int .i64 1) (hown : w.ownsRow base e s (.slice A n n) n xs) (hn : n ≤ 100000) (hby : bytes ≤ 1000) (hbase : base ≤ w.heap.size)
    (h : ∀ g' c' w', n + 1 ≤ c' → w'.ownsRow base e s (.slice (some ⟨g', 0, none⟩) n c') n xs → Below w.heap.size w w' → wpList P ops Q rest (a.put o.dst (.slice (some ⟨g', 0, none⟩) (n + 1) c')) w') : wpList P ops Q (o :: rest) a w := by
  refine wpList_plain hgd fun K hK => ?_
  obtain ⟨c', w', hr, h2, h3, h4⟩ := run_app0 (ty := o.type) E htn hown hn hby hbase
  unfold Oper.wp execOp
  simp only [ho, resolve, invoke, builtin, Sem.run_bind, Sem.run_pure, Result.andThen_ok, List.map_toArray, List.map_cons, List.map_nil, hs, hx, hr]
  exact hK _ _ (h _ c' w' h2 h3 h4)

theorem E_SI : Elem Try.prog 27 29 (.agg #[.int .i64 0, .int .i64 0]) 2 16 := elem_of Try.underlying27 (by kernel_rfl) rfl (by decide)
theorem ceI1 (x : Int × Int) : ∀ u ∈ ceI x, u.oneCell' = true := by intro u hu; simp [ceI] at hu; rcases hu with rfl | rfl <;> rfl
theorem ceI_len (L : List (Int × Int)) : (L.flatMap ceI).length = L.length * 2 := by
  induction L with
  | nil => rfl
  | cons x L ih => rw [List.flatMap_cons, List.length_append, ih]; simp [ceI]; omega

theorem eachI_stops (m Bn n₀ B p g : Nat) (A : Option Addr) (n c f : Nat) (o ac rf cap : Int) (L : List (Int × Int)) (w : World) (hp : p < n₀) (hg : g < n₀) (hn₀ : n₀ ≤ w.heap.size) (hBn : Bn < w.heap.size)
    (hc : w.cell? ⟨Bn, 0, none⟩ = some (.pointer (some ⟨p, 0, none⟩))) (hR : RingI w B p g A n c f o ac rf cap L) :
    SeqStopsK Fence.wide m Try.prog 54 #[.pointer (some ⟨Bn, 0, none⟩)] enI (KeepsB n₀ Bn) (fun ys => ys = L) (fun pre => pre <+: L) L.length w := fun l J Jx W hW hJ _ hY h0 =>
  each1I_in m l Bn n₀ B p g A n c f o ac rf cap L J Jx hp hg hY W hJ ((hW.cell (p := ⟨Bn, 0, none⟩) hBn).trans hc) (hR.below hW (by omega) (by omega)) h0

set_option maxRecDepth 100000 in
set_option maxHeartbeats 2000000 in
theorem AppendSeqI_in (m Bn n₀ gf : Nat) (lb : Array Value) (L : List (Int × Int)) (w : World) (eg : ∀ args w, (callFunc gf args).run Try.prog w = .ok (.enter gf args) w)
    (hseq : SeqStopsK Fence.wide (m - 1) Try.prog gf lb enI (KeepsB n₀ Bn) (fun ys => ys = L) (fun pre => pre <+: L) L.length w) (hn₀ : n₀ ≤ w.heap.size) (hBn : Bn < w.heap.size) (hL : L.length ≤ 65536) (hm : 1 ≤ m) :
    CallsIn Fence.wide m Try.prog 53 #[.slice none 0 0, .func (.func gf) #[] lb] w fun e w' => ∃ A c, e = .returned (.slice A L.length c) ∧ w'.ownsRow w.heap.size 29 2 (.slice A L.length c) L.length (L.flatMap ceI) ∧ Below w.heap.size w w' := by
  refine callsIn_of_wp_marks Try.func53 rfl trivial ?_ rfl
  simp only [Try.ntmps53, List.size_toArray, List.length_cons, List.length_nil, Nat.reduceAdd, Nat.reduceSub, Array.replicate_succ, Array.replicate_zero, List.push_toArray, List.append_toArray, List.nil_append, List.cons_append]
  gi_wp2
  have bS := Boxed.new w 27 (.slice none 0 0)
  have hB0 : Below w.heap.size w (w.alloc (.cells #[.slice none 0 0] 27)) := (Below.refl _ w).alloc (Nat.le_refl _) _
  have hsz : (w.alloc (.cells #[.slice none 0 0] 27)).heap.size = w.heap.size + 1 := by simp
  obtain ⟨W0, hW0⟩ : ∃ W0, w.alloc (.cells #[.slice none 0 0] 27) = W0 := ⟨_, rfl⟩
  rw [hW0] at bS hB0 hsz ⊢
  clear hW0
  refine wpIn_rangeFunc_ownH rfl hm (gf := gf) (lb := lb) rfl trivial eg hseq KeepsB.trans (keepsB_b (by omega) (by omega)) hB0 (fun _ => rfl)
    (fun (pre : List (Int × Int)) W => (∃ v, Boxed W w.heap.size 27 v ∧ W.ownsRow w.heap.size 29 2 v pre.length (pre.flatMap ceI) ∧ True) ∧ Below w.heap.size w W)
    (fun _ _ _ => False)
    (OwnFrom.and (Own.from (holdsRow_own _ _ _ _ 2 (fun (pre : List (Int × Int)) => pre.length) (fun pre => pre.flatMap ceI) (fun _ _ => True)) _) (ownFrom_below (Nat.le_refl _) (by omega)))
    (fun _ => fun _ _ _ _ hs _ _ => hs)
    ⟨⟨_, bS, World.ownsRow_nil _ _ _ _, trivial⟩, hB0⟩
    (fun x a' W => ∃ Bx, w.heap.size < Bx ∧ W.heap[Bx]? = some (.cells #[.int .i64 x.1, .int .i64 x.2] 29 (0, 0)) ∧ a' = { tmps := #[.slice none 0 0, .func (.func gf) #[] lb, .pointer (some ⟨w.heap.size, 0, none⟩), undef, .slice none 0 0, .pointer (some ⟨Bx, 0, none⟩), .func (.func gf) #[] lb, .agg #[.int .i64 x.1, .int .i64 x.2], undef, undef, undef, undef, undef], defers := [] })
    (fun x a' => fun _ X Y row hs hg hr => by
      obtain ⟨Bx, h1, h2, h3⟩ := hs
      exact ⟨Bx, h1, (Own.from (block_own (β := Unit) Bx _ _ _) w.heap.size) () X Y row h2 hg (fun r e => by have := hr r e; exact ⟨by omega, this.2⟩), h3⟩) ?assign ?body ?done ?stop
  case assign =>
    rintro l pre ⟨x1, x2⟩ W K hi hK
    unfold enI
    gi_wp2
    exact hK _ _ ((KeepsOthers.alloc _ _).from _) (KeepsB.of_below ((Below.refl w.heap.size W).alloc hi.2.size _) hn₀ hBn)
      (by obtain ⟨⟨v, hv, hr, _⟩, hb⟩ := hi; exact ⟨⟨v, hv.alloc _, hr.alloc _, trivial⟩, hb.alloc hb.size _⟩)
      ⟨W.heap.size, by obtain ⟨⟨v, hv, _⟩, _⟩ := hi; exact hv.lt, heap_alloc_new W _, rfl⟩
  case body =>
    rintro l pre ⟨x1, x2⟩ a' W hl ⟨r, hr⟩ ⟨⟨v, hv, hrow, _⟩, hB⟩ ⟨Bx, hBx, bX, rfl⟩ hlt
    obtain ⟨A, c, rfl⟩ := own_form hrow
    have hvc := hv.cell
    have hvf := hv.frozen
    have x0 : W.cell? ⟨Bx, 0, none⟩ = some (.int .i64 x1) := by simp [World.cell?, bX]
    have x1' : W.cell? ⟨Bx, 1, none⟩ = some (.int .i64 x2) := by simp [World.cell?, bX]
    have HL := Lib.hid (And.intro hlt hL)
    clear hlt
    gi_wp2_with (gi_at_builtin; refine wpListIn_app E_SI rfl _ _ rfl rfl (hrow.alloc _) rfl (sees_blockS (n := 1) (c := 1) (xs := ceI (x1, x2)) (heap_alloc_new _ _) rfl (by decide) (by decide) ⟨[], rfl⟩) (ceI1 (x1, x2)) (by have := HL.out; simp [maxLen]; omega) (by have := HL.out; omega) (by have := hB.size; simp; omega) ?_; intro A' c' w1 hown' hgrow hb'; obtain ⟨hv1, hv2, hr2, hk2, hb2⟩ := hv.appended (by decide) hrow hB.size (Nat.le_refl _) hown' hgrow; have hc1 := hv1.cell; have hf1 := hv1.frozen)
    have e1 : (pre ++ [(x1, x2)]).length = pre.length + 1 := by simp
    have e2 : (pre ++ [(x1, x2)]).flatMap ceI = pre.flatMap ceI ++ ceI (x1, x2) := by simp [List.flatMap_append]
    exact ⟨hk2.from _, KeepsB.of_below hb2 hn₀ hBn, ⟨⟨_, hv2, by rw [e1, e2]; exact hr2⟩, hB.trans hb2⟩⟩
  case done =>
    rintro D ys W hD rfl ⟨⟨v, hv, hrow, _⟩, hB⟩ hK
    obtain ⟨A, c, rfl⟩ := own_form hrow
    have hvc := hv.cell
    gi_wp2
    refine ⟨by simp, .inl ⟨_, _, rfl, run_takeDeferred hK, ?_⟩⟩
    exact ⟨_, results_tmp rfl _ _ _, A, c, rfl, ownsRow_putObj hrow _ hK rfl, hB.trans ((Below.refl w.heap.size W).grown (grownBy_putObj' W D _) hB.size (fun k e => by cases e; omega))⟩
  case stop =>
    rintro D c pre W _ _ h _
    exact h.elim

set_option maxRecDepth 20000 in
/-- slices.Collect(r.each()). -/
theorem CollectI_any (Bn n₀ B p g : Nat) (A : Option Addr) (n c f : Nat) (o ac rf cap : Int) (L : List (Int × Int)) (w : World) (hp : p < n₀) (hg : g < n₀) (hn₀ : n₀ ≤ w.heap.size) (hBn : Bn < w.heap.size)
    (hc : w.cell? ⟨Bn, 0, none⟩ = some (.pointer (some ⟨p, 0, none⟩))) (hR : RingI w B p g A n c f o ac rf cap L) :
    Calls Try.prog 38 #[.func (.func 54) #[] #[.pointer (some ⟨Bn, 0, none⟩)]] w fun e w' => ∃ A c, e = .returned (.slice A L.length c) ∧ w'.ownsRow w.heap.size 29 2 (.slice A L.length c) L.length (L.flatMap ceI) ∧ Below w.heap.size w w' := by
  have H := Lib.hid (callsIn_wide.1 (AppendSeqI_in 3 Bn n₀ 54 _ L w (enters_of Try.func54 (by kernel_rfl) rfl) (eachI_stops _ Bn n₀ B p g A n c f o ac rf cap L w hp hg hn₀ hBn hc hR) hn₀ hBn (by have := hR.le; have := hR.nle; have := hR.cap1; omega) (by decide)))
  clear hc hR hp hg hn₀ hBn
  go_enter Try.func38, Try.ntmps38
  go_wp2_with (go_at_call 53; refine H.out.mono ?_; rintro e w' ⟨A, c, rfl, o1, b1⟩)
  go_ret
  exact ⟨A, c, rfl, o1, b1⟩

set_option maxRecDepth 200000 in
theorem GrowI_any (B : Nat) (A : Option Addr) (n c : Nat) (xs : List Value) (w : World) (h : w.ownsRow B 29 2 (.slice A n c) n xs) (hn : n ≤ 65536) (hB : B ≤ w.heap.size) :
    Calls Try.prog 37 #[.slice A n c, .int .i64 1] w fun e w' => ∃ A' c', e = .returned (.slice A' n c') ∧ w'.ownsRow B 29 2 (.slice A' n c') n xs ∧ n + 1 ≤ c' ∧ Below w.heap.size w w' := by
  have hs := sees_own h
  have hcap := hs.cap
  have hcm := hs.capm
  unfold maxLen at hcm
  by_cases hc : c = n
  · subst hc
    have hcut := fun w => run_cutr E_SI A c c c (Nat.le_refl _) w
    have HR := Lib.hid (And.intro h (And.intro hn hB))
    have hn3 : (c : Int) ≤ 65536 := by omega
    clear h hs hcap hcm hn hB
    go_enter Try.func37, Try.ntmps37
    go_wp2_with (at_builtin; refine wpList_app0 E_SI Try.underlying3 rfl _ _ rfl rfl rfl HR.out.1 (by have := HR.out.2.1; omega) (by decide) HR.out.2.2 ?_; intro g' c' w' h1 h2 h3; have hcut2 := fun w' => run_cutr E_SI (some ⟨g', 0, none⟩) (c + 1) c' c (by omega) w')
    go_ret
    exact ⟨_, _, rfl, h2, h1, h3⟩
  · have hlt : n < c := by omega
    have hc9 : (c : Int) ≤ 9223372036854775807 := by omega
    have hn3 : (n : Int) ≤ 65536 := by omega
    have hlt3 : (n : Int) < (c : Int) := by omega
    have HH := Lib.hid h
    clear h hs hn hcm
    go_enter Try.func37, Try.ntmps37
    go_wp2
    go_ret
    exact ⟨_, _, rfl, HH.out, hlt, Below.refl _ _⟩
end Go.Proofs.Ytgomnifcgaigkaa
