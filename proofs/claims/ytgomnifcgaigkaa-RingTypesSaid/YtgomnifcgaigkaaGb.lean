/- What a ring is in memory; what its iterator gives. -/
import Derived.Test.YtgomnifcgaigkaaProg
import Derived.Test.YtgomnifcgaigkaaGa
import Derived.LaidEqlPtr
namespace Go.Proofs.Ytgomnifcgaigkaa
open Go.RowKit Go.Shelf
set_option linter.unusedVariables false
attribute [local go_sem] Oper.semAt_some

theorem lt_of_heap {w : World} {p : Nat} {o : Obj} (h : w.heap[p]? = some o) : p < w.heap.size := by
  rcases Nat.lt_or_ge p w.heap.size with h' | h'
  · exact h'
  · rw [Array.getElem?_eq_none h'] at h; cases h

/-- The slots L lie in a row of n, from f on, round and round. -/
def Holds {α : Type} (s : Nat) (ce : α → List Value) (f n : Nat) (xs : List Value) (L : List α) : Prop := ∀ (i : Nat) (x : α), L[i]? = some x → ∀ j u, (ce x)[j]? = some u → xs[(f + i) % n * s + j]? = some u

/-- Block p holds a ring whose slots are L, each of s cells; its row is in block g, if there is one. -/
structure RingAt {α : Type} (TR TS s : Nat) (ce : α → List Value) (w : World) (B p g : Nat) (A : Option Addr) (n c f : Nat) (o ac rf cap : Int) (L : List α) : Prop where
  bp : B ≤ p
  bg : B ≤ g
  glt : g < w.heap.size
  obj : w.heap[p]? = some (.cells #[.slice A n c, .int .i64 (f : Int), .int .i64 (L.length : Int), .int .i64 o, .int .i64 ac, .int .i64 rf, .int .i64 cap] TR (0, 0))
  row : ∃ xs, w.ownsRow B TS s (.slice A n c) n xs ∧ Holds s ce f n xs L
  at_ : A = none ∨ A = some ⟨g, 0, none⟩
  le : L.length ≤ n
  nle : (n : Int) ≤ cap
  cap1 : 1 ≤ cap ∧ cap ≤ 65536
  first : f < n ∨ (n = 0 ∧ f = 0)

section
variable {α : Type} {TR TS s : Nat} {ce : α → List Value} {w : World} {B p g : Nat} {A : Option Addr} {n c f : Nat} {o ac rf cap : Int} {L : List α}
theorem RingAt.plt (h : RingAt TR TS s ce w B p g A n c f o ac rf cap L) : p < w.heap.size := lt_of_heap h.obj
theorem RingAt.c0 (h : RingAt TR TS s ce w B p g A n c f o ac rf cap L) : w.cell? ⟨p, 0, none⟩ = some (.slice A n c) := by simp [World.cell?, h.obj]
theorem RingAt.c1 (h : RingAt TR TS s ce w B p g A n c f o ac rf cap L) : w.cell? ⟨p, 1, none⟩ = some (.int .i64 (f : Int)) := by simp [World.cell?, h.obj]
theorem RingAt.c2 (h : RingAt TR TS s ce w B p g A n c f o ac rf cap L) : w.cell? ⟨p, 2, none⟩ = some (.int .i64 (L.length : Int)) := by simp [World.cell?, h.obj]
theorem RingAt.c3 (h : RingAt TR TS s ce w B p g A n c f o ac rf cap L) : w.cell? ⟨p, 3, none⟩ = some (.int .i64 o) := by simp [World.cell?, h.obj]
theorem RingAt.c4 (h : RingAt TR TS s ce w B p g A n c f o ac rf cap L) : w.cell? ⟨p, 4, none⟩ = some (.int .i64 ac) := by simp [World.cell?, h.obj]
theorem RingAt.c5 (h : RingAt TR TS s ce w B p g A n c f o ac rf cap L) : w.cell? ⟨p, 5, none⟩ = some (.int .i64 rf) := by simp [World.cell?, h.obj]
theorem RingAt.c6 (h : RingAt TR TS s ce w B p g A n c f o ac rf cap L) : w.cell? ⟨p, 6, none⟩ = some (.int .i64 cap) := by simp [World.cell?, h.obj]
theorem RingAt.free (h : RingAt TR TS s ce w B p g A n c f o ac rf cap L) (k : Nat) : w.frozen? ⟨p, k, none⟩ = false := by simp [World.frozen?, h.obj]
/-- A slot's cells. -/
theorem RingAt.slot (h : RingAt TR TS s ce w B p g A n c f o ac rf cap L) {i : Nat} {x : α} (hx : L[i]? = some x) {j : Nat} {u : Value} (hu : (ce x)[j]? = some u) :
    A = some ⟨g, 0, none⟩ ∧ w.cell? ⟨g, (f + i) % n * s + j, none⟩ = some u := by
  obtain ⟨xs, hr, hs⟩ := h.row
  obtain ⟨b, o', hA, hc⟩ := (sees_own hr).look _ u (hs i x hx j u hu)
  rcases h.at_ with e | e
  · rw [e] at hA; cases hA
  · rw [e] at hA
    cases hA
    rw [Nat.zero_add] at hc
    exact ⟨e, hc⟩
theorem RingAt.keep {w' : World} (h : RingAt TR TS s ce w B p g A n c f o ac rf cap L) (hz : w.heap.size ≤ w'.heap.size) (hp : w'.heap[p]? = w.heap[p]?) (hg : w'.heap[g]? = w.heap[g]?) : RingAt TR TS s ce w' B p g A n c f o ac rf cap L := by
  refine ⟨h.bp, h.bg, Nat.lt_of_lt_of_le h.glt hz, hp.trans h.obj, ?_, h.at_, h.le, h.nle, h.cap1, h.first⟩
  obtain ⟨xs, ⟨r1, r2⟩, hs⟩ := h.row
  refine ⟨xs, ⟨r1, ?_⟩, hs⟩
  rcases r2 with e | ⟨g', cp, cur, hv, hb, hh, rest⟩
  · exact .inl e
  · refine .inr ⟨g', cp, cur, hv, hb, ?_, rest⟩
    cases hv
    rcases h.at_ with e | e
    · cases e
    · cases e; exact hg.trans hh
theorem RingAt.below {w' : World} {N : Nat} (h : RingAt TR TS s ce w B p g A n c f o ac rf cap L) (hb : Below N w w') (hp : p < N) (hg : g < N) : RingAt TR TS s ce w' B p g A n c f o ac rf cap L :=
  h.keep hb.size (hb.block p hp) (hb.block g hg)
theorem RingAt.drew (h : RingAt TR TS s ce w B p g A n c f o ac rf cap L) : RingAt TR TS s ce w.drew B p g A n c f o ac rf cap L :=
  h.keep (Nat.le_refl _) rfl rfl
end

/-- What a round of a loop over a ring keeps: what lay below n₀, and the box Bn. -/
def KeepsB (n₀ Bn : Nat) (W W' : World) : Prop := Below n₀ W W' ∧ (∀ v, W.cell? ⟨Bn, 0, none⟩ = some v → W'.cell? ⟨Bn, 0, none⟩ = some v)
theorem KeepsB.refl (n₀ Bn : Nat) (W : World) : KeepsB n₀ Bn W W := ⟨Below.refl _ _, fun v e => e⟩
theorem KeepsB.drew (n₀ Bn : Nat) (W : World) : KeepsB n₀ Bn W W.drew := ⟨(Below.refl _ _).drew, fun v e => e⟩
theorem take_one' {α : Type} {a : List α} {k : Nat} {x : α} (h : a[k]? = some x) : a.take (k + 1) = a.take k ++ [x] := by
  obtain ⟨hk, rfl⟩ := List.getElem?_eq_some_iff.1 h
  exact List.take_succ_eq_append_getElem hk
theorem KeepsB.trans {n₀ Bn : Nat} {A B C : World} (h : KeepsB n₀ Bn A B) (k : KeepsB n₀ Bn B C) : KeepsB n₀ Bn A C := ⟨h.1.trans k.1, fun v e => k.2 v (h.2 v e)⟩
theorem KeepsB.of_below {n₀ Bn N : Nat} {A B : World} (h : Below N A B) (h1 : n₀ ≤ N) (h2 : Bn < N) : KeepsB n₀ Bn A B := ⟨h.mono h1, fun v e => (h.cell (p := ⟨Bn, 0, none⟩) h2).trans e⟩
theorem keepsB_b {n₀ Bn : Nat} {w : World} (h1 : n₀ ≤ w.heap.size) (h2 : Bn < w.heap.size) : ∀ (W : World) (l : Nat) (o o' : Obj), w.heap.size ≤ l → W.heap[l]? = some o → o.isCells = false → o.isWalk = false → KeepsB n₀ Bn W (W.putObj l o') := fun W l o o' hl ho hc hw =>
  KeepsB.of_below ((Below.refl w.heap.size W).grown (grownBy_putObj' W l o') (by have := lt_of_heap ho; omega) (fun k e => by cases e; exact hl)) h1 h2

/-- A slot of a ring of ints. -/
def ceI (x : Int × Int) : List Value := [.int .i64 x.1, .int .i64 x.2]
abbrev RingI := RingAt 73 29 2 ceI
def enI (x : Int × Int) : Array Value := #[.agg #[.int .i64 x.1, .int .i64 x.2]]

set_option maxRecDepth 20000 in
theorem eachI_any (p : Nat) (w : World) : Calls Try.prog 39 #[.pointer (some ⟨p, 0, none⟩)] w fun e w' => e = .returned (.func (.func 54) #[] #[.pointer (some ⟨w.heap.size, 0, none⟩)]) ∧ w' = w.alloc (.cells #[.pointer (some ⟨p, 0, none⟩)] 24) := by
  have hmf : ∀ (fn : Fn) (first cap : Array Value) (w : World), (Instr.makeFunc fn first cap).run Try.prog w = .ok (.func fn first cap) w := fun _ _ _ _ => rfl
  go_enter Try.func39, Try.ntmps39
  go_wp2
  go_ret
  exact ⟨rfl, rfl⟩

set_option maxRecDepth 100000 in
set_option maxHeartbeats 2000000 in
theorem each1I_in (m l Bn n₀ B p g : Nat) (A : Option Addr) (n c f : Nat) (o ac rf cap : Int) (L : List (Int × Int)) (J Jx : List (Int × Int) → World → Prop) (hp : p < n₀) (hg : g < n₀)
    (hY : ∀ pre x W, J pre W → pre.length < L.length → YieldAt Fence.wide (m - 1) Try.prog l (enI x) W fun e W' =>
      (e = .returned (.bool true) ∧ J (pre ++ [x]) W' ∧ KeepsB n₀ Bn W W') ∨ (e = .returned (.bool false) ∧ Jx (pre ++ [x]) W'))
    (W : World) (hJ : AbidesFrom W.heap.size J) (hBn : W.cell? ⟨Bn, 0, none⟩ = some (.pointer (some ⟨p, 0, none⟩))) (hR : RingI W B p g A n c f o ac rf cap L) (h0 : J [] W) :
    CallsIn Fence.wide m Try.prog 54 #[.func (.yield l) #[] #[], .pointer (some ⟨Bn, 0, none⟩)] W fun e W' => (∃ v, e = .returned v) ∧
      ((∃ ys, ys = L ∧ J ys W') ∨ (∃ pre, pre <+: L ∧ Jx pre W')) := by
  have k2 := hR.c2
  have hlen : L.length ≤ 65536 := by have := hR.le; have := hR.nle; have := hR.cap1; omega
  have HLen := Lib.hid hlen
  have hlen2 : (L.length : Int) ≤ 65536 := by omega
  have HR := Lib.hid hR
  have H0 := Lib.hid h0
  have HJ := Lib.hid hJ
  have HB := Lib.hid hBn
  clear hR h0 hJ hlen
  refine callsIn_of_wp Try.func54 rfl trivial ?_ rfl
  simp only [Try.ntmps54, List.size_toArray, List.length_cons, List.length_nil, Nat.reduceAdd, Nat.reduceSub, Array.replicate_succ, Array.replicate_zero, List.push_toArray, List.append_toArray, List.nil_append, List.cons_append]
  gi_wp2
  gi_loopw [8] (fun i wr => ∃ k : Nat, Hid (k ≤ L.length) ∧ i = .int .i64 (k : Int) ∧ Hid (J (L.take k) wr) ∧ KeepsB n₀ Bn W wr)
    (fun i _ => L.length - (intOf i).toNat)
  case atStart => exact ⟨0, Lib.hid (Nat.zero_le _), rfl, Lib.hid (by rw [List.take_zero]; exact H0.out), KeepsB.refl _ _ _⟩
  case round =>
    obtain ⟨k, HK, rfl, HJs, hkb⟩ := hrel
    by_cases hlt : k < L.length
    · obtain ⟨x, hx⟩ : ∃ x, L[k]? = some x := ⟨_, List.getElem?_eq_getElem hlt⟩
      have hR2 := HR.out.below hkb.1 hp hg
      have b1 := hkb.2 _ HB.out
      have q0 := hR2.c0
      have q1 := hR2.c1
      obtain ⟨hA, s0⟩ := hR2.slot hx (j := 0) (u := .int .i64 x.1) rfl
      obtain ⟨_, s1⟩ := hR2.slot hx (j := 1) (u := .int .i64 x.2) rfl
      subst hA
      have hn := HR.out.nle
      have hc1 := HR.out.cap1
      have hf := HR.out.first
      have hle := HR.out.le
      have hfn : f < n := by omega
      obtain ⟨t, ht⟩ : ∃ t, (f + k) % n = t := ⟨_, rfl⟩
      have htn : t < n := by rw [← ht]; exact Nat.mod_lt _ (by omega)
      rw [ht] at s0 s1
      rw [Nat.add_zero] at s0
      have e0 : ((f + k : Nat) : Int) = (f : Int) + (k : Int) := by omega
      have e1 : IntKind.i64.wrap ((f : Int) + (k : Int)) = (f : Int) + (k : Int) := IntWalk.i64_in _ (by omega)
      have e2 : ((f : Int) + (k : Int)).tmod (n : Int) = (t : Int) := by
        rw [← e0, ← ht, Int.tmod_eq_emod_of_nonneg (by omega)]; norm_cast
      have HT := Lib.hid ht
      have d1 : decide ((k : Int) < (L.length : Int)) = true := by simp; omega
      obtain ⟨x1, x2⟩ := x
      have hD := HJ.out _ _ wr.drew none HJs.out ⟨rfl, rfl, rfl, Nat.le_refl _, fun _ _ _ => rfl⟩ (fun r e => by cases e)
      obtain ⟨fn, tmps, assign, body, hy, hRd⟩ := hY _ (x1, x2) wr.drew hD (by rw [List.length_take]; omega)
      have HX := Lib.hid hx
      have HLT := Lib.hid hlt
      have z1 : ¬ (n : Int) = 0 := by omega
      have z2 : ((n : Int) == 0) = false := by simp; omega
      have z3 : ¬ n = 0 := by omega
      clear ht e0 hx hlt hf hle
      gi_wp2
      refine wpInW_region_still_tail 19 (by kernel_rfl) (by kernel_rfl) ?_
      simp only [List.take_succ_cons, List.take_zero, List.drop_succ_cons, List.drop_zero]
      repeat still_step
      refine wpStill_nil ?_
      dsimp only [enI] at hy
      gi_wp2
      refine ⟨fun h => (by cases h), hRd.mono ?_⟩
      rintro e W3 (⟨rfl, hJ3, hk3⟩ | ⟨rfl, hJx3⟩)
      · gi_wp2
        go_roundw
        case rel => exact ⟨k + 1, Lib.hid HLT.out, by go_num, Lib.hid (by rw [take_one' HX.out]; exact hJ3), hkb.trans ((KeepsB.drew _ _ _).trans hk3)⟩
        case measure => have := HLT.out; simp [intOf]; omega
      · gi_wp2
        refine bodyPost_ret (results_none rfl _ _ _) rfl ?_
        exact ⟨⟨_, rfl⟩, .inr ⟨_, by rw [← take_one' HX.out]; exact List.take_prefix _ _, hJx3⟩⟩
    · have hkl : k = L.length := by have := HK.out; omega
      have d1 : decide ((k : Int) < (L.length : Int)) = false := by simp; omega
      have d1' : decide (k < L.length) = false := by simp; omega
      have HJ2 := HJs.out
      rw [hkl, List.take_length] at HJ2
      clear hlt hkl
      gi_wp2
      go_end0
      exact ⟨⟨_, rfl⟩, .inl ⟨L, rfl, HJ2⟩⟩
end Go.Proofs.Ytgomnifcgaigkaa
