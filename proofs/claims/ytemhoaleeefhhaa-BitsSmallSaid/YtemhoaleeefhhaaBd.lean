/- The members' iterator; Members. -/
import Derived.Test.YtemhoaleeefhhaaProg
import Derived.Test.YtemhoaleeefhhaaBc
import Derived.Test.YtemhoaleeefhhaaGa
namespace Go.Proofs.Ytemhoaleeefhhaa
open Go.RowKit Go.Shelf
set_option linter.unusedVariables false
attribute [local go_sem] Oper.semAt_some

theorem lt_of_heap {w : World} {p : Nat} {o : Obj} (h : w.heap[p]? = some o) : p < w.heap.size := by
  rcases Nat.lt_or_ge p w.heap.size with h' | h'
  · exact h'
  · rw [Array.getElem?_eq_none h'] at h; cases h

def enM (x : Nat) : Array Value := #[.int .i64 (x : Int)]

set_option maxRecDepth 20000 in
theorem members_any (N f : Int) (A : Option Addr) (n c : Nat) (w : World) :
    Calls Try.prog 52 #[setv N A n c, .int .i64 f] w fun e w' => e = .returned (.func (.func 68) #[] #[.pointer (some ⟨w.heap.size + 1, 0, none⟩), .pointer (some ⟨w.heap.size, 0, none⟩)]) ∧ w' = (w.alloc (.cells #[.int .i64 N, .slice A n c] 24)).alloc (.cells #[.int .i64 f] 3) := by
  have hmf : ∀ (fn : Fn) (first cap : Array Value) (w : World), (Instr.makeFunc fn first cap).run Try.prog w = .ok (.func fn first cap) w := fun _ _ _ _ => rfl
  go_enter Try.func52, Try.ntmps52
  go_wp2
  go_ret
  exact ⟨rfl, rfl⟩

theorem or63 (i : Nat) (h : i ≤ 1000000) : bits BinOp.or IntKind.i64 (i : Int) 63 = ((i / 64 * 64 + 63 : Nat) : Int) := by
  have e1 : i ||| 63 = i / 64 * 64 + 63 := by
    have e2 : i = i / 64 * 64 ||| i % 64 := by rw [nat_join 6 (i / 64 * 64) (i % 64) (by show i / 64 * 64 % 64 = 0; omega) (by show i % 64 < 64; omega)]; omega
    have e3 : ∀ r, r < 64 → r ||| 63 = 63 := by decide
    have e4 : i ||| 63 = i / 64 * 64 ||| (i % 64 ||| 63) := by rw [← Nat.or_assoc, ← e2]
    rw [e4, e3 _ (Nat.mod_lt _ (by decide)), nat_join 6 (i / 64 * 64) 63 (by show i / 64 * 64 % 64 = 0; omega) (by decide)]
  show IntKind.i64.wrap ((BitVec.ofInt 64 (i : Int) ||| BitVec.ofInt 64 ((63 : Nat) : Int)).toNat : Int) = _
  rw [BitVec.toNat_or, ofInt_u64 i (by omega), ofInt_u64 63 (by decide), e1]
  exact IntWalk.i64_in _ (by omega)

/-- What a round of a loop over members keeps: what lay below n₀, and block Bn. -/
def KeepsO (n₀ Bn : Nat) (W W' : World) : Prop := Below n₀ W W' ∧ (∀ o, W.heap[Bn]? = some o → W'.heap[Bn]? = some o)
theorem KeepsO.refl (n₀ Bn : Nat) (W : World) : KeepsO n₀ Bn W W := ⟨Below.refl _ _, fun v e => e⟩
theorem KeepsO.trans {n₀ Bn : Nat} {A B C : World} (h : KeepsO n₀ Bn A B) (k : KeepsO n₀ Bn B C) : KeepsO n₀ Bn A C := ⟨h.1.trans k.1, fun v e => k.2 v (h.2 v e)⟩
theorem KeepsO.of_below {n₀ Bn N : Nat} {A B : World} (h : Below N A B) (h1 : n₀ ≤ N) (h2 : Bn < N) : KeepsO n₀ Bn A B := ⟨h.mono h1, fun v e => (h.block Bn h2).trans e⟩
theorem keepsO_b {n₀ Bn : Nat} {w : World} (h1 : n₀ ≤ w.heap.size) (h2 : Bn < w.heap.size) : ∀ (W : World) (l : Nat) (o o' : Obj), w.heap.size ≤ l → W.heap[l]? = some o → o.isCells = false → o.isWalk = false → KeepsO n₀ Bn W (W.putObj l o') := fun W l o o' hl ho hc hw =>
  KeepsO.of_below ((Below.refl w.heap.size W).grown (grownBy_putObj' W l o') (by have := lt_of_heap ho; omega) (fun k e => by cases e; exact hl)) h1 h2
theorem memF_pre (l : List Int) (f i N : Nat) (h : i ≤ N) : memF l f i <+: memF l f N := by
  obtain ⟨d, rfl⟩ := Nat.exists_eq_add_of_le h
  clear h
  induction d with
  | zero => exact List.prefix_refl _
  | succ d ih =>
    rw [show i + (d + 1) = i + d + 1 by omega, memF_succ]
    exact ih.trans (List.prefix_append _ _)
theorem memF_one {l : List Int} {f i : Nat} (h : f ≤ i) (hb : bt l i = true) : memF l f (i + 1) = memF l f i ++ [i] := by
  rw [memF_succ, hb]; simp [h]
theorem memF_none {l : List Int} {f i : Nat} (hb : bt l i = false) : memF l f (i + 1) = memF l f i := by
  rw [memF_succ, hb]; simp

set_option maxRecDepth 100000 in
set_option maxHeartbeats 2000000 in
theorem members1_in (m y Bs Bf n₀ N f : Nat) (fi : Int) (A : Option Addr) (n c : Nat) (l : List Int) (J Jx : List Nat → World → Prop) (hN : N ≤ 64 * n) (hN2 : N ≤ 65536) (hfi : max fi 0 = (f : Int)) (hw : W64 l)
    (hY : ∀ pre x W, J pre W → pre.length < (memF l f N).length → YieldAt Fence.wide m Try.prog y (enM x) W fun e W' =>
      (e = .returned (.bool true) ∧ J (pre ++ [x]) W' ∧ KeepsO n₀ Bs W W') ∨ (e = .returned (.bool false) ∧ Jx (pre ++ [x]) W'))
    (W : World) (hJ : AbidesFrom W.heap.size J) (hS : W.heap[Bs]? = some (.cells #[.int .i64 (N : Int), .slice A n c] 24 (0, 0))) (hF : W.cell? ⟨Bf, 0, none⟩ = some (.int .i64 fi)) (hs : ∀ W', Below n₀ W W' → Sees W' 1 A n c (l.map (Value.int .u64))) (hn₀ : n₀ ≤ W.heap.size) (h0 : J [] W) :
    CallsIn Fence.wide (m + 1) Try.prog 68 #[.func (.yield y) #[] #[], .pointer (some ⟨Bf, 0, none⟩), .pointer (some ⟨Bs, 0, none⟩)] W fun e W' => (∃ v, e = .returned v) ∧
      ((∃ ys, ys = memF l f N ∧ J ys W') ∨ (∃ pre, pre <+: memF l f N ∧ Jx pre W')) := by
  have hfx : (if fi < 0 then (0 : Int) else fi) = (f : Int) := by split <;> omega
  have hfy : (if (0 : Int) < fi then fi else 0) = (f : Int) := by split <;> omega
  have hfence : ∀ k, Fence.wide.fn k := fun _ => trivial
  have hsz := (hs W (Below.refl _ _)).length
  have hcm : n ≤ 9223372036854775807 := Nat.le_trans (hs W (Below.refl _ _)).cap (hs W (Below.refl _ _)).capm
  have HN := Lib.hid (And.intro hN hN2)
  have H0 := Lib.hid h0
  have HJ := Lib.hid hJ
  have HS := Lib.hid hS
  have HSE := Lib.hid hs
  have hn2 : (N : Int) ≤ 65536 := by omega
  clear h0 hJ hfi hS hN hN2 hs hsz
  refine callsIn_of_wp Try.func68 rfl trivial ?_ rfl
  simp only [Try.ntmps68, List.size_toArray, List.length_cons, List.length_nil, Nat.reduceAdd, Nat.reduceSub, Array.replicate_succ, Array.replicate_zero, List.push_toArray, List.append_toArray, List.nil_append, List.cons_append]
  gi_wp2
  gi_loopw [4] (fun i wr => ∃ k : Nat, Hid (f ≤ k) ∧ i = .int .i64 (k : Int) ∧ Hid (J (memF l f (min k N)) wr) ∧ KeepsO n₀ Bs W wr) (fun i _ => N - (intOf i).toNat)
  case atStart => exact ⟨f, Lib.hid (Nat.le_refl _), rfl, Lib.hid (by rw [memF_low l f _ (by omega)]; exact H0.out), KeepsO.refl _ _ _⟩
  case round =>
    obtain ⟨k, HK, rfl, HJs, hkb⟩ := hrel
    have hbx := hkb.2 _ HS.out
    have q0 : wr.cell? ⟨Bs, 0, none⟩ = some (.int .i64 (N : Int)) := by simp [World.cell?, hbx]
    have q1 : wr.cell? ⟨Bs, 1, none⟩ = some (.slice A n c) := by simp [World.cell?, hbx]
    have HBX := Lib.hid hbx
    clear hbx
    by_cases hlt : k < N
    · rw [Nat.min_eq_left (Nat.le_of_lt hlt)] at HJs
      obtain ⟨q, hq⟩ : ∃ q : Nat, k / 64 = q := ⟨_, rfl⟩
      obtain ⟨r, hr⟩ : ∃ r : Nat, k % 64 = r := ⟨_, rfl⟩
      have hqn : q < n := by have := HN.out; omega
      have HSW := Lib.hid (HSE.out wr hkb.1)
      obtain ⟨b, o, hA, g1⟩ := HSW.out.int (k := q) hqn
      subst hA
      have hx := hw.at_ q
      have htz := top_zero hx.1 r
      have hbk : bt l k = (l.getD q 0).toNat.testBit r := by unfold bt; rw [hq, hr]
      have hrest : ∀ j, k ≤ j → j < (q + 1) * 64 → bt l j = (l.getD q 0).toNat.testBit (j % 64) := by
        intro j h1 h2
        unfold bt
        rw [show j / 64 = q by omega]
      generalize l.getD q 0 = x at hx g1 htz hbk hrest
      obtain ⟨hx0, hx1⟩ := hx
      have d1 : decide ((k : Int) < (N : Int)) = true := by simp; omega
      have d1' : decide (k < N) = true := by simp; omega
      have hk2 : (k : Int) < (N : Int) := by omega
      have hq1 : (k : Int) / 64 = (q : Int) := by omega
      have hr1 : (k : Int) % 64 = (r : Int) := by omega
      have hr2 : (r : Int) ≤ 63 := by omega
      have hq2 : (q : Int) < (n : Int) := by omega
      have HLT := Lib.hid hlt
      have HQ := Lib.hid (And.intro hq hr)
      clear hlt hq hr hqn
      by_cases hz : x / 2 ^ r = 0
      · have d2 : (x / 2 ^ r == 0) = true := by simpa using hz
        have hor := or63 k (by have := HLT.out; have := HN.out; omega)
        obtain ⟨k2, hk2'⟩ : ∃ k2, k / 64 * 64 + 63 = k2 := ⟨_, rfl⟩
        rw [hk2'] at hor
        have hsk : memF l f (min (k2 + 1) N) = memF l f k := by
          refine memF_skip l f k _ (by have := HLT.out; omega) fun j h1 h2 => ?_
          rw [hrest j h1 (by have := HQ.out; omega)]
          exact htz.1 hz _ (by have := HQ.out; omega)
        have HSK := Lib.hid hsk
        have HK2 : Hid (k < k2 + 1) := Lib.hid (by omega)
        have hk3 : (k2 : Int) ≤ 1000000 := by have := HLT.out; have := HN.out; omega
        clear hz htz hbk hrest hsk hk2'
        gi_wp2
        go_roundw
        case rel => exact ⟨k2 + 1, Lib.hid (by have := HK.out; have := HK2.out; omega), by go_num, Lib.hid (by rw [HSK.out]; exact HJs.out), hkb⟩
        case measure => have := HLT.out; have := HK2.out; simp [intOf]; omega
      · have d2 : (x / 2 ^ r == 0) = false := by simpa using hz
        have HI : Hid (k < 64 * n) := Lib.hid (by have := HLT.out; have := HN.out; omega)
        cases hb : bt l k with
        | true =>
          have HB := Lib.hid hb
          clear hz htz hbk hrest hb
          gi_wp2_with (gi_at_call 54; refine (callsIn_wide.2 (has_any (N : Int) _ n c k l _ HSW.out hw HI.out)).mono ?_; rw [HB.out]; rintro e w6 ⟨rfl, k6⟩; have hD := HJ.out _ _ w6 none HJs.out ⟨k6.os, k6.tape, k6.output, k6.size, fun i hi _ => k6.block i hi⟩ (fun r e => by cases e); obtain ⟨fn, tmps, assign, body, hy, hRd⟩ := hY _ k w6 hD (by have h9 := (memF_pre l f (k + 1) N (by have := HLT.out; omega)).length_le; rw [memF_one HK.out HB.out, List.length_append] at h9; simp at h9; omega); dsimp only [enM] at hy)
          refine hRd.mono ?_
          rintro e W3 (⟨rfl, hJ3, hk3⟩ | ⟨rfl, hJx3⟩)
          · gi_wp2
            go_roundw
            case rel => exact ⟨k + 1, Lib.hid (by have := HK.out; omega), by go_num, Lib.hid (by rw [Nat.min_eq_left (by have := HLT.out; omega), memF_one HK.out HB.out]; exact hJ3), hkb.trans ((KeepsO.of_below k6 (Nat.le_trans hn₀ hkb.1.size) (lt_of_heap HBX.out)).trans hk3)⟩
            case measure => have := HLT.out; simp [intOf]; omega
          · gi_wp2
            refine bodyPost_ret (results_none rfl _ _ _) rfl ?_
            exact ⟨⟨_, rfl⟩, .inr ⟨_, by rw [← memF_one HK.out HB.out]; exact memF_pre l f (k + 1) N (by have := HLT.out; omega), hJx3⟩⟩
        | false =>
          have HB := Lib.hid hb
          clear hz htz hbk hrest hb
          gi_wp2_with (gi_at_call 54; refine (callsIn_wide.2 (has_any (N : Int) _ n c k l _ HSW.out hw HI.out)).mono ?_; rw [HB.out]; rintro e w6 ⟨rfl, k6⟩; have hD := HJ.out _ _ w6 none HJs.out ⟨k6.os, k6.tape, k6.output, k6.size, fun i hi _ => k6.block i hi⟩ (fun r e => by cases e))
          go_roundw
          case rel => exact ⟨k + 1, Lib.hid (by have := HK.out; omega), by go_num, Lib.hid (by rw [Nat.min_eq_left (by have := HLT.out; omega), memF_none HB.out]; exact hD), hkb.trans (KeepsO.of_below k6 (Nat.le_trans hn₀ hkb.1.size) (lt_of_heap HBX.out))⟩
          case measure => have := HLT.out; simp [intOf]; omega
    · have d1 : decide ((k : Int) < (N : Int)) = false := by simp; omega
      have d1' : decide (k < N) = false := by simp; omega
      have HJ2 := HJs.out
      rw [Nat.min_eq_right (by omega)] at HJ2
      clear hlt
      gi_wp2
      go_end0
      exact ⟨⟨_, rfl⟩, .inl ⟨_, rfl, HJ2⟩⟩
end Go.Proofs.Ytemhoaleeefhhaa
