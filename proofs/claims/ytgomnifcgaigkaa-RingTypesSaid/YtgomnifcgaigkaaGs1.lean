/- each, Collect, Grow, what a ring tells: rings of strings. Printed by gen_ringt.py. -/
import Derived.Test.YtgomnifcgaigkaaProg
import Derived.Test.YtgomnifcgaigkaaGe
namespace Go.Proofs.Ytgomnifcgaigkaa
open Go.RowKit Go.Shelf
set_option linter.unusedVariables false
attribute [local go_sem] Oper.semAt_some

/-- A slot of a ring of ints. -/
def ceS (x : ByteArray × Int) : List Value := [.string x.1, .int .i64 x.2]

abbrev RingS := RingAt 98 69 2 ceS

def enS (x : ByteArray × Int) : Array Value := #[.agg #[.string x.1, .int .i64 x.2]]

set_option maxRecDepth 20000 in
theorem eachS_any (p : Nat) (w : World) : Calls Try.prog 52 #[.pointer (some ⟨p, 0, none⟩)] w fun e w' => e = .returned (.func (.func 63) #[] #[.pointer (some ⟨w.heap.size, 0, none⟩)]) ∧ w' = w.alloc (.cells #[.pointer (some ⟨p, 0, none⟩)] 61) := by
  have hmf : ∀ (fn : Fn) (first cap : Array Value) (w : World), (Instr.makeFunc fn first cap).run Try.prog w = .ok (.func fn first cap) w := fun _ _ _ _ => rfl
  go_enter Try.func52, Try.ntmps52
  go_wp2
  go_ret
  exact ⟨rfl, rfl⟩

set_option maxRecDepth 100000 in
set_option maxHeartbeats 2000000 in
theorem each1S_in (m l Bn n₀ B p g : Nat) (A : Option Addr) (n c f : Nat) (o ac rf cap : Int) (L : List (ByteArray × Int)) (J Jx : List (ByteArray × Int) → World → Prop) (hp : p < n₀) (hg : g < n₀)
    (hY : ∀ pre x W, J pre W → pre.length < L.length → YieldAt Fence.wide (m - 1) Try.prog l (enS x) W fun e W' =>
      (e = .returned (.bool true) ∧ J (pre ++ [x]) W' ∧ KeepsB n₀ Bn W W') ∨ (e = .returned (.bool false) ∧ Jx (pre ++ [x]) W'))
    (W : World) (hJ : AbidesFrom W.heap.size J) (hBn : W.cell? ⟨Bn, 0, none⟩ = some (.pointer (some ⟨p, 0, none⟩))) (hR : RingS W B p g A n c f o ac rf cap L) (h0 : J [] W) :
    CallsIn Fence.wide m Try.prog 63 #[.func (.yield l) #[] #[], .pointer (some ⟨Bn, 0, none⟩)] W fun e W' => (∃ v, e = .returned v) ∧
      ((∃ ys, ys = L ∧ J ys W') ∨ (∃ pre, pre <+: L ∧ Jx pre W')) := by
  have k2 := hR.c2
  have hlen : L.length ≤ 65536 := by have := hR.le; have := hR.nle; have := hR.cap1; omega
  have HLen := Lib.hid hlen
  have hlen2 : (L.length : Int) ≤ 65536 := by omega
  have HR := Lib.hid hR
  have H0 := Lib.hid h0
  have HJ := Lib.hid hJ
  have HB := Lib.hid hBn
  clear hR h0 hJ hlen
  refine callsIn_of_wp Try.func63 rfl trivial ?_ rfl
  simp only [Try.ntmps63, List.size_toArray, List.length_cons, List.length_nil, Nat.reduceAdd, Nat.reduceSub, Array.replicate_succ, Array.replicate_zero, List.push_toArray, List.append_toArray, List.nil_append, List.cons_append]
  gi_wp2
  gi_loopw [8] (fun i wr => ∃ k : Nat, Hid (k ≤ L.length) ∧ i = .int .i64 (k : Int) ∧ Hid (J (L.take k) wr) ∧ KeepsB n₀ Bn W wr)
    (fun i _ => L.length - (intOf i).toNat)
  case atStart => exact ⟨0, Lib.hid (Nat.zero_le _), rfl, Lib.hid (by rw [List.take_zero]; exact H0.out), KeepsB.refl _ _ _⟩
  case round =>
    obtain ⟨k, HK, rfl, HJs, hkb⟩ := hrel
    by_cases hlt : k < L.length
    · obtain ⟨x, hx⟩ : ∃ x, L[k]? = some x := ⟨_, List.getElem?_eq_getElem hlt⟩
      have hR2 := HR.out.below hkb.1 hp hg
      have b1 := hkb.2 _ HB.out
      have q0 := hR2.c0
      have q1 := hR2.c1
      obtain ⟨hA, s0⟩ := hR2.slot hx (j := 0) (u := .string x.1) rfl
      obtain ⟨_, s1⟩ := hR2.slot hx (j := 1) (u := .int .i64 x.2) rfl
      subst hA
      have hn := HR.out.nle
      have hc1 := HR.out.cap1
      have hf := HR.out.first
      have hle := HR.out.le
      have hfn : f < n := by omega
      obtain ⟨t, ht⟩ : ∃ t, (f + k) % n = t := ⟨_, rfl⟩
      have htn : t < n := by rw [← ht]; exact Nat.mod_lt _ (by omega)
      rw [ht] at s0 s1
      rw [Nat.add_zero] at s0
      have e0 : ((f + k : Nat) : Int) = (f : Int) + (k : Int) := by omega
      have e1 : IntKind.i64.wrap ((f : Int) + (k : Int)) = (f : Int) + (k : Int) := IntWalk.i64_in _ (by omega)
      have e2 : ((f : Int) + (k : Int)).tmod (n : Int) = (t : Int) := by
        rw [← e0, ← ht, Int.tmod_eq_emod_of_nonneg (by omega)]; norm_cast
      have HT := Lib.hid ht
      have d1 : decide ((k : Int) < (L.length : Int)) = true := by simp; omega
      obtain ⟨x1, x2⟩ := x
      have hD := HJ.out _ _ wr.drew none HJs.out ⟨rfl, rfl, rfl, Nat.le_refl _, fun _ _ _ => rfl⟩ (fun r e => by cases e)
      obtain ⟨fn, tmps, assign, body, hy, hRd⟩ := hY _ (x1, x2) wr.drew hD (by rw [List.length_take]; omega)
      have HX := Lib.hid hx
      have HLT := Lib.hid hlt
      have z1 : ¬ (n : Int) = 0 := by omega
      have z2 : ((n : Int) == 0) = false := by simp; omega
      have z3 : ¬ n = 0 := by omega
      clear ht e0 hx hlt hf hle
      gi_wp2
      refine wpInW_region_still_tail 19 (by kernel_rfl) (by kernel_rfl) ?_
      simp only [List.take_succ_cons, List.take_zero, List.drop_succ_cons, List.drop_zero]
      repeat still_step
      refine wpStill_nil ?_
      dsimp only [enS] at hy
      gi_wp2
      refine ⟨fun h => (by cases h), hRd.mono ?_⟩
      rintro e W3 (⟨rfl, hJ3, hk3⟩ | ⟨rfl, hJx3⟩)
      · gi_wp2
        go_roundw
        case rel => exact ⟨k + 1, Lib.hid HLT.out, by go_num, Lib.hid (by rw [take_one' HX.out]; exact hJ3), hkb.trans ((KeepsB.drew _ _ _).trans hk3)⟩
        case measure => have := HLT.out; simp [intOf]; omega
      · gi_wp2
        refine bodyPost_ret (results_none rfl _ _ _) rfl ?_
        exact ⟨⟨_, rfl⟩, .inr ⟨_, by rw [← take_one' HX.out]; exact List.take_prefix _ _, hJx3⟩⟩
    · have hkl : k = L.length := by have := HK.out; omega
      have d1 : decide ((k : Int) < (L.length : Int)) = false := by simp; omega
      have d1' : decide (k < L.length) = false := by simp; omega
      have HJ2 := HJs.out
      rw [hkl, List.take_length] at HJ2
      clear hlt hkl
      gi_wp2
      go_end0
      exact ⟨⟨_, rfl⟩, .inl ⟨L, rfl, HJ2⟩⟩

theorem E_SS : Elem Try.prog 65 69 (.agg #[.string ⟨#[]⟩, .int .i64 0]) 2 24 := elem_of Try.underlying65 (by kernel_rfl) rfl (by decide)

theorem ceS1 (x : ByteArray × Int) : ∀ u ∈ ceS x, u.oneCell' = true := by intro u hu; simp [ceS] at hu; rcases hu with rfl | rfl <;> rfl

theorem ceS_len (L : List (ByteArray × Int)) : (L.flatMap ceS).length = L.length * 2 := by
  induction L with
  | nil => rfl
  | cons x L ih => rw [List.flatMap_cons, List.length_append, ih]; simp [ceS]; omega

theorem eachS_stops (m Bn n₀ B p g : Nat) (A : Option Addr) (n c f : Nat) (o ac rf cap : Int) (L : List (ByteArray × Int)) (w : World) (hp : p < n₀) (hg : g < n₀) (hn₀ : n₀ ≤ w.heap.size) (hBn : Bn < w.heap.size)
    (hc : w.cell? ⟨Bn, 0, none⟩ = some (.pointer (some ⟨p, 0, none⟩))) (hR : RingS w B p g A n c f o ac rf cap L) :
    SeqStopsK Fence.wide m Try.prog 63 #[.pointer (some ⟨Bn, 0, none⟩)] enS (KeepsB n₀ Bn) (fun ys => ys = L) (fun pre => pre <+: L) L.length w := fun l J Jx W hW hJ _ hY h0 =>
  each1S_in m l Bn n₀ B p g A n c f o ac rf cap L J Jx hp hg hY W hJ ((hW.cell (p := ⟨Bn, 0, none⟩) hBn).trans hc) (hR.below hW (by omega) (by omega)) h0

set_option maxRecDepth 100000 in
set_option maxHeartbeats 2000000 in
theorem AppendSeqS_in (m Bn n₀ gf : Nat) (lb : Array Value) (L : List (ByteArray × Int)) (w : World) (eg : ∀ args w, (callFunc gf args).run Try.prog w = .ok (.enter gf args) w)
    (hseq : SeqStopsK Fence.wide (m - 1) Try.prog gf lb enS (KeepsB n₀ Bn) (fun ys => ys = L) (fun pre => pre <+: L) L.length w) (hn₀ : n₀ ≤ w.heap.size) (hBn : Bn < w.heap.size) (hL : L.length ≤ 65536) (hm : 1 ≤ m) :
    CallsIn Fence.wide m Try.prog 62 #[.slice none 0 0, .func (.func gf) #[] lb] w fun e w' => ∃ A c, e = .returned (.slice A L.length c) ∧ w'.ownsRow w.heap.size 69 2 (.slice A L.length c) L.length (L.flatMap ceS) ∧ Below w.heap.size w w' := by
  refine callsIn_of_wp_marks Try.func62 rfl trivial ?_ rfl
  simp only [Try.ntmps62, List.size_toArray, List.length_cons, List.length_nil, Nat.reduceAdd, Nat.reduceSub, Array.replicate_succ, Array.replicate_zero, List.push_toArray, List.append_toArray, List.nil_append, List.cons_append]
  gi_wp2
  have bS := Boxed.new w 65 (.slice none 0 0)
  have hB0 : Below w.heap.size w (w.alloc (.cells #[.slice none 0 0] 65)) := (Below.refl _ w).alloc (Nat.le_refl _) _
  have hsz : (w.alloc (.cells #[.slice none 0 0] 65)).heap.size = w.heap.size + 1 := by simp
  obtain ⟨W0, hW0⟩ : ∃ W0, w.alloc (.cells #[.slice none 0 0] 65) = W0 := ⟨_, rfl⟩
  rw [hW0] at bS hB0 hsz ⊢
  clear hW0
  refine wpIn_rangeFunc_ownH rfl hm (gf := gf) (lb := lb) rfl trivial eg hseq KeepsB.trans (keepsB_b (by omega) (by omega)) hB0 (fun _ => rfl)
    (fun (pre : List (ByteArray × Int)) W => (∃ v, Boxed W w.heap.size 65 v ∧ W.ownsRow w.heap.size 69 2 v pre.length (pre.flatMap ceS) ∧ True) ∧ Below w.heap.size w W)
    (fun _ _ _ => False)
    (OwnFrom.and (Own.from (holdsRow_own _ _ _ _ 2 (fun (pre : List (ByteArray × Int)) => pre.length) (fun pre => pre.flatMap ceS) (fun _ _ => True)) _) (ownFrom_below (Nat.le_refl _) (by omega)))
    (fun _ => fun _ _ _ _ hs _ _ => hs)
    ⟨⟨_, bS, World.ownsRow_nil _ _ _ _, trivial⟩, hB0⟩
    (fun x a' W => ∃ Bx, w.heap.size < Bx ∧ W.heap[Bx]? = some (.cells #[.string x.1, .int .i64 x.2] 69 (0, 0)) ∧ a' = { tmps := #[.slice none 0 0, .func (.func gf) #[] lb, .pointer (some ⟨w.heap.size, 0, none⟩), undef, .slice none 0 0, .pointer (some ⟨Bx, 0, none⟩), .func (.func gf) #[] lb, .agg #[.string x.1, .int .i64 x.2], undef, undef, undef, undef, undef], defers := [] })
    (fun x a' => fun _ X Y row hs hg hr => by
      obtain ⟨Bx, h1, h2, h3⟩ := hs
      exact ⟨Bx, h1, (Own.from (block_own (β := Unit) Bx _ _ _) w.heap.size) () X Y row h2 hg (fun r e => by have := hr r e; exact ⟨by omega, this.2⟩), h3⟩) ?assign ?body ?done ?stop
  case assign =>
    rintro l pre ⟨x1, x2⟩ W K hi hK
    unfold enS
    gi_wp2
    exact hK _ _ ((KeepsOthers.alloc _ _).from _) (KeepsB.of_below ((Below.refl w.heap.size W).alloc hi.2.size _) hn₀ hBn)
      (by obtain ⟨⟨v, hv, hr, _⟩, hb⟩ := hi; exact ⟨⟨v, hv.alloc _, hr.alloc _, trivial⟩, hb.alloc hb.size _⟩)
      ⟨W.heap.size, by obtain ⟨⟨v, hv, _⟩, _⟩ := hi; exact hv.lt, heap_alloc_new W _, rfl⟩
  case body =>
    rintro l pre ⟨x1, x2⟩ a' W hl ⟨r, hr⟩ ⟨⟨v, hv, hrow, _⟩, hB⟩ ⟨Bx, hBx, bX, rfl⟩ hlt
    obtain ⟨A, c, rfl⟩ := own_form hrow
    have hvc := hv.cell
    have hvf := hv.frozen
    have x0 : W.cell? ⟨Bx, 0, none⟩ = some (.string x1) := by simp [World.cell?, bX]
    have x1' : W.cell? ⟨Bx, 1, none⟩ = some (.int .i64 x2) := by simp [World.cell?, bX]
    have HL := Lib.hid (And.intro hlt hL)
    clear hlt
    gi_wp2_with (gi_at_builtin; refine wpListIn_app E_SS rfl _ _ rfl rfl (hrow.alloc _) rfl (sees_blockS (n := 1) (c := 1) (xs := ceS (x1, x2)) (heap_alloc_new _ _) rfl (by decide) (by decide) ⟨[], rfl⟩) (ceS1 (x1, x2)) (by have := HL.out; simp [maxLen]; omega) (by have := HL.out; omega) (by have := hB.size; simp; omega) ?_; intro A' c' w1 hown' hgrow hb'; obtain ⟨hv1, hv2, hr2, hk2, hb2⟩ := hv.appended (by decide) hrow hB.size (Nat.le_refl _) hown' hgrow; have hc1 := hv1.cell; have hf1 := hv1.frozen)
    have e1 : (pre ++ [(x1, x2)]).length = pre.length + 1 := by simp
    have e2 : (pre ++ [(x1, x2)]).flatMap ceS = pre.flatMap ceS ++ ceS (x1, x2) := by simp [List.flatMap_append]
    exact ⟨hk2.from _, KeepsB.of_below hb2 hn₀ hBn, ⟨⟨_, hv2, by rw [e1, e2]; exact hr2⟩, hB.trans hb2⟩⟩
  case done =>
    rintro D ys W hD rfl ⟨⟨v, hv, hrow, _⟩, hB⟩ hK
    obtain ⟨A, c, rfl⟩ := own_form hrow
    have hvc := hv.cell
    gi_wp2
    refine ⟨by simp, .inl ⟨_, _, rfl, run_takeDeferred hK, ?_⟩⟩
    exact ⟨_, results_tmp rfl _ _ _, A, c, rfl, ownsRow_putObj hrow _ hK rfl, hB.trans ((Below.refl w.heap.size W).grown (grownBy_putObj' W D _) hB.size (fun k e => by cases e; omega))⟩
  case stop =>
    rintro D c pre W _ _ h _
    exact h.elim

set_option maxRecDepth 20000 in
/-- slices.Collect(r.each()). -/
theorem CollectS_any (Bn n₀ B p g : Nat) (A : Option Addr) (n c f : Nat) (o ac rf cap : Int) (L : List (ByteArray × Int)) (w : World) (hp : p < n₀) (hg : g < n₀) (hn₀ : n₀ ≤ w.heap.size) (hBn : Bn < w.heap.size)
    (hc : w.cell? ⟨Bn, 0, none⟩ = some (.pointer (some ⟨p, 0, none⟩))) (hR : RingS w B p g A n c f o ac rf cap L) :
    Calls Try.prog 51 #[.func (.func 63) #[] #[.pointer (some ⟨Bn, 0, none⟩)]] w fun e w' => ∃ A c, e = .returned (.slice A L.length c) ∧ w'.ownsRow w.heap.size 69 2 (.slice A L.length c) L.length (L.flatMap ceS) ∧ Below w.heap.size w w' := by
  have H := Lib.hid (callsIn_wide.1 (AppendSeqS_in 3 Bn n₀ 63 _ L w (enters_of Try.func63 (by kernel_rfl) rfl) (eachS_stops _ Bn n₀ B p g A n c f o ac rf cap L w hp hg hn₀ hBn hc hR) hn₀ hBn (by have := hR.le; have := hR.nle; have := hR.cap1; omega) (by decide)))
  clear hc hR hp hg hn₀ hBn
  go_enter Try.func51, Try.ntmps51
  go_wp2_with (go_at_call 62; refine H.out.mono ?_; rintro e w' ⟨A, c, rfl, o1, b1⟩)
  go_ret
  exact ⟨A, c, rfl, o1, b1⟩

set_option maxRecDepth 200000 in
theorem GrowS_any (B : Nat) (A : Option Addr) (n c : Nat) (xs : List Value) (w : World) (h : w.ownsRow B 69 2 (.slice A n c) n xs) (hn : n ≤ 65536) (hB : B ≤ w.heap.size) :
    Calls Try.prog 50 #[.slice A n c, .int .i64 1] w fun e w' => ∃ A' c', e = .returned (.slice A' n c') ∧ w'.ownsRow B 69 2 (.slice A' n c') n xs ∧ n + 1 ≤ c' ∧ Below w.heap.size w w' := by
  have hs := sees_own h
  have hcap := hs.cap
  have hcm := hs.capm
  unfold maxLen at hcm
  by_cases hc : c = n
  · subst hc
    have hcut := fun w => run_cutr E_SS A c c c (Nat.le_refl _) w
    have HR := Lib.hid (And.intro h (And.intro hn hB))
    have hn3 : (c : Int) ≤ 65536 := by omega
    clear h hs hcap hcm hn hB
    go_enter Try.func50, Try.ntmps50
    go_wp2_with (at_builtin; refine wpList_app0 E_SS Try.underlying3 rfl _ _ rfl rfl rfl HR.out.1 (by have := HR.out.2.1; omega) (by decide) HR.out.2.2 ?_; intro g' c' w' h1 h2 h3; have hcut2 := fun w' => run_cutr E_SS (some ⟨g', 0, none⟩) (c + 1) c' c (by omega) w')
    go_ret
    exact ⟨_, _, rfl, h2, h1, h3⟩
  · have hlt : n < c := by omega
    have hc9 : (c : Int) ≤ 9223372036854775807 := by omega
    have hn3 : (n : Int) ≤ 65536 := by omega
    have hlt3 : (n : Int) < (c : Int) := by omega
    have HH := Lib.hid h
    clear h hs hn hcm
    go_enter Try.func50, Try.ntmps50
    go_wp2
    go_ret
    exact ⟨_, _, rfl, HH.out, hlt, Below.refl _ _⟩

open Go.RowKit Go.Shelf
set_option linter.unusedVariables false

set_option maxRecDepth 20000 in
theorem noneS_any (B p g : Nat) (A : Option Addr) (n c f : Nat) (o ac rf cap : Int) (L : List (ByteArray × Int)) (w : World) (h : RingS w B p g A n c f o ac rf cap L) :
    Calls Try.prog 49 #[.pointer (some ⟨p, 0, none⟩)] w fun e w' => e = .returned (.bool false) ∧ w = w' := by
  have h6 := h.c6
  have d : (cap == 0) = false := by have := h.cap1; simp; omega
  clear h
  go_enter Try.func49, Try.ntmps49
  go_wp2
  go_ret
  exact ⟨rfl, rfl⟩

set_option maxRecDepth 20000 in
theorem OpenS_any (B p g : Nat) (A : Option Addr) (n c f : Nat) (o ac rf cap : Int) (L : List (ByteArray × Int)) (w : World) (h : RingS w B p g A n c f o ac rf cap L) :
    Calls Try.prog 31 #[.pointer (some ⟨p, 0, none⟩)] w fun e w' => e = .returned (.int .i64 o) ∧ w = w' := by
  have h6 := h.c3
  have H := Lib.hid h
  clear h
  go_enter Try.func31, Try.ntmps31
  go_wp2_with (go_at_call 49; refine (noneS_any _ _ _ _ _ _ _ _ _ _ _ _ _ H.out).mono ?_; rintro e w' ⟨rfl, rfl⟩)
  go_ret
  exact ⟨rfl, rfl⟩

set_option maxRecDepth 20000 in
theorem AcceptedS_any (B p g : Nat) (A : Option Addr) (n c f : Nat) (o ac rf cap : Int) (L : List (ByteArray × Int)) (w : World) (h : RingS w B p g A n c f o ac rf cap L) :
    Calls Try.prog 34 #[.pointer (some ⟨p, 0, none⟩)] w fun e w' => e = .returned (.int .i64 ac) ∧ w = w' := by
  have h6 := h.c4
  have H := Lib.hid h
  clear h
  go_enter Try.func34, Try.ntmps34
  go_wp2_with (go_at_call 49; refine (noneS_any _ _ _ _ _ _ _ _ _ _ _ _ _ H.out).mono ?_; rintro e w' ⟨rfl, rfl⟩)
  go_ret
  exact ⟨rfl, rfl⟩

set_option maxRecDepth 20000 in
theorem RefusedS_any (B p g : Nat) (A : Option Addr) (n c f : Nat) (o ac rf cap : Int) (L : List (ByteArray × Int)) (w : World) (h : RingS w B p g A n c f o ac rf cap L) :
    Calls Try.prog 35 #[.pointer (some ⟨p, 0, none⟩)] w fun e w' => e = .returned (.int .i64 rf) ∧ w = w' := by
  have h6 := h.c5
  have H := Lib.hid h
  clear h
  go_enter Try.func35, Try.ntmps35
  go_wp2_with (go_at_call 49; refine (noneS_any _ _ _ _ _ _ _ _ _ _ _ _ _ H.out).mono ?_; rintro e w' ⟨rfl, rfl⟩)
  go_ret
  exact ⟨rfl, rfl⟩

set_option maxRecDepth 20000 in
theorem NewS_any (n : Int) (w : World) (h : 1 ≤ n ∧ n ≤ 65536) :
    Calls Try.prog 29 #[.int .i64 n] w fun e w' => ∃ p, e = .returned (.tuple #[.pointer (some ⟨p, 0, none⟩), .int .i64 0]) ∧ RingS w' w.heap.size p p none 0 0 0 0 0 0 n [] ∧ Below w.heap.size w w' := by
  have h1 : ¬ n < 1 := by omega
  have h2 : ¬ 65536 < n := by omega
  have HN := Lib.hid h
  clear h
  go_enter Try.func29, Try.ntmps29
  go_wp2
  go_ret2
  exact ⟨w.heap.size, rfl, ⟨Nat.le_refl _, Nat.le_refl _, by simp, heap_alloc_new w _, ⟨[], World.ownsRow_nil _ _ _ _, fun i x hx => by simp at hx⟩, .inl rfl, Nat.le_refl _, by have := HN.out; simp; omega, HN.out, .inr ⟨rfl, rfl⟩⟩, (Below.refl _ _).alloc (Nat.le_refl _) _⟩

end Go.Proofs.Ytgomnifcgaigkaa
