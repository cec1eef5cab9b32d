/- Walks: the law's does, up to its loop. -/
import Derived.Test.YtllbcohfelgamaaProg
import Derived.Test.YtllbcohfelgamaaCs
namespace Go.Proofs.Ytllbcohfelgamaa
open Go.RowKit
set_option linter.unusedVariables false

/-- The cells of a row of acts. -/
def flatA (st : List (Int × Int × Bool)) : List Value := st.flatMap fun s => [.int .i64 s.1, .int .i64 s.2.1, .bool s.2.2]
theorem flatA_cons (s : Int × Int × Bool) (st : List (Int × Int × Bool)) : flatA (s :: st) = .int .i64 s.1 :: .int .i64 s.2.1 :: .bool s.2.2 :: flatA st := rfl
theorem flatA_len (st : List (Int × Int × Bool)) : (flatA st).length = 3 * st.length := by
  induction st with
  | nil => rfl
  | cons s st ih => rw [flatA_cons, List.length_cons, List.length_cons, List.length_cons, ih, List.length_cons]; omega
theorem flatA_get (st : List (Int × Int × Bool)) : ∀ k, k < st.length → (flatA st)[3 * k]? = some (.int .i64 (st.getD k (0, 0, false)).1) ∧ (flatA st)[3 * k + 1]? = some (.int .i64 (st.getD k (0, 0, false)).2.1) ∧ (flatA st)[3 * k + 2]? = some (.bool (st.getD k (0, 0, false)).2.2) := by
  induction st with
  | nil => intro k h; simp at h
  | cons s st ih =>
    intro k h
    cases k with
    | zero => exact ⟨rfl, rfl, rfl⟩
    | succ k =>
      have := ih k (by simpa using h)
      rw [flatA_cons]
      exact ⟨by simpa [Nat.mul_add] using this.1, by simpa [Nat.mul_add] using this.2.1, by simpa [Nat.mul_add] using this.2.2⟩
theorem Sees.act {w : World} {A : Option Addr} {n c k : Nat} {st : List (Int × Int × Bool)} (h : Sees w 3 A n c (flatA st)) (hk : k < n) :
    ∃ b o cpu d u, A = some ⟨b, o, none⟩ ∧ w.cell? ⟨b, o + k * 3, none⟩ = some (.int .i64 cpu) ∧ w.cell? ⟨b, o + k * 3 + 1, none⟩ = some (.int .i64 d) ∧ w.cell? ⟨b, o + k * 3 + 2, none⟩ = some (.bool u) := by
  have hl : st.length = n := by have := h.len; rw [flatA_len] at this; omega
  obtain ⟨e1, e2, e3⟩ := flatA_get st k (by omega)
  obtain ⟨b, o, hA, c1⟩ := h.look _ _ e1
  obtain ⟨b', o', hA', c2⟩ := h.look _ _ e2
  obtain ⟨b'', o'', hA'', c3⟩ := h.look _ _ e3
  subst hA
  cases hA'
  cases hA''
  rw [Nat.mul_comm 3 k] at c1 c2 c3
  exact ⟨b, o, _, _, _, rfl, c1, by rw [Nat.add_assoc]; exact c2, by rw [Nat.add_assoc]; exact c3⟩
/-- What an act does. -/
def actF (u : Bool) (xs : List Int) (cpu d : Int) : List Int × Int × Int := if u then untilF xs cpu d else tickF xs cpu d
theorem actF_ok (u : Bool) {xs : List Int} (h : OkT xs) (cpu d : Int) : OkT (actF u xs cpu d).1 ∧ (actF u xs cpu d).1.length = xs.length := by
  cases u
  · exact tickF_ok h cpu d
  · exact untilF_ok h cpu d
/-- The address's block is another one. -/
def OffA (G : Nat) (A : Option Addr) : Prop := ∀ b, A = some b → b.block ≠ G
theorem OffA.from {w : World} {G : Nat} {A A' : Option Addr} (h : OffA G A) (hf : From w A A') (hG : G < w.heap.size) : OffA G A' := by
  rcases hf with rfl | ⟨g, rfl, hg⟩
  · exact h
  · intro b hb
    cases hb
    show g ≠ G
    omega
theorem Sees.off {w w' : World} {G s n c : Nat} {A : Option Addr} {xs : List Value} (h : Sees w s A n c xs) (hk : Keeps G w w') (h1 : OffA G A) : Sees w' s A n c xs := by
  cases A with
  | none => exact ⟨h.len, h.cap, h.capm, h.nil_, fun k u hu => by obtain ⟨b, o, hA, _⟩ := h.look k u hu; cases hA⟩
  | some a =>
    refine ⟨h.len, h.cap, h.capm, h.nil_, fun k u hu => ?_⟩
    obtain ⟨b', o', hA, hc⟩ := h.look k u hu
    cases hA
    exact ⟨b', o', rfl, (World.cell?_of_block (a := ⟨b', o' + k, none⟩) (hk.block b' (World.block_lt_of_cell? _ _ hc) (h1 _ rfl))).trans hc⟩
theorem Keeps.cellA {G : Nat} {w w' : World} (h : Keeps G w w') {a : Addr} {v : Value} (hc : w.cell? a = some v) (hg : a.block ≠ G) : w'.cell? a = some v :=
  (World.cell?_of_block (h.block _ (World.block_lt_of_cell? _ _ hc) hg)).trans hc
theorem below_cellA {w w' : World} (h : Below w.heap.size w w') {a : Addr} {v : Value} (hc : w.cell? a = some v) : w'.cell? a = some v := (h.cell (World.block_lt_of_cell? _ _ hc)).trans hc

set_option maxRecDepth 20000 in
set_option maxHeartbeats 3200000 in
theorem does_any (A : Option Addr) (n c : Nat) (l : List Int) (X : Option Addr) (k cx : Nat) (acts : List (Int × Int × Bool)) (w : World) (h : Sees w 1 A n c (l.map (Value.int .i64))) (hx : Sees w 3 X k cx (flatA acts)) :
    Calls Try.prog 21 #[.slice A n c, .slice X k cx] w fun e w' => e = .returned (.bool true) ∧ Below w.heap.size w w' := by
  have HS := Lib.hid h
  have HX := Lib.hid hx
  clear h hx
  by_cases hbig : 100 < n ∨ 100 < k
  · by_cases h1 : 100 < n
    · have d1 : decide ((100 : Int) < (n : Int)) = true := by simp; omega
      have d1' : decide (100 < n) = true := by simp; omega
      clear hbig h1
      go_enter Try.func21, Try.ntmps21
      go_wp2
      go_ret
      exact ⟨rfl, Below.refl _ _⟩
    · have d1 : decide ((100 : Int) < (n : Int)) = false := by simp; omega
      have d1' : decide (100 < n) = false := by simp; omega
      have d2 : decide ((100 : Int) < (k : Int)) = true := by simp; omega
      have d2' : decide (100 < k) = true := by simp; omega
      clear hbig h1
      go_enter Try.func21, Try.ntmps21
      go_wp2
      go_ret
      exact ⟨rfl, Below.refl _ _⟩
  · have d1 : decide ((100 : Int) < (n : Int)) = false := by simp; omega
    have d1' : decide (100 < n) = false := by simp; omega
    have d2 : decide ((100 : Int) < (k : Int)) = false := by simp; omega
    have d2' : decide (100 < k) = false := by simp; omega
    have HN : Hid (n ≤ 100 ∧ k ≤ 100) := Lib.hid (by omega)
    have HLN := Lib.hid HS.out.length
    have hk2 : (k : Int) ≤ 100 := by omega
    clear hbig
    by_cases hok : (1 ≤ n ∧ n ≤ 64) ∧ OkT l
    · have HOK := Lib.hid hok
      have HOB := Lib.hid (okTB_true hok)
      clear hok
      go_enter Try.func21, Try.ntmps21
      go_wp2_with (first
        | (go_at_call 37; refine (Len_any _ _ _ _ _ _ _ h4.out (by have := HN.out; omega)).mono ?_; rintro e w5 ⟨rfl, k5⟩; have b5 := below_step b4 k5; have h5 := Lib.hid (h4.out.below k5))
        | (go_at_call 36; refine (refRight_any A n c l _ (by exact HS.out.below b4 (Nat.le_refl _)) (by have := HN.out; omega)).mono ?_; rw [HOB.out]; rintro e w5 ⟨rfl, rfl⟩)
        | (go_at_call 35; refine (OverInts_any _ go' c1 n _ _ o3.out (by have := HN.out; omega)).mono ?_; rintro e w4 ⟨rfl, k4⟩; have b4 := b3.trans (k4.below (hgo.out).1 b3.size); have h4 := Lib.hid (h3.out.keeps k4 (by have := hgo.out; have := h3.out.bp; omega) (by have := hgo.out; have := h3.out.bg; omega)))
        | (go_at_call 34; refine (KeptInts_any _ A n _ c l _ (by exact sees_own o2.out) (by exact HS.out.below b2 (Nat.le_refl _)) (by have := HN.out; omega)).mono ?_; rintro e w3 ⟨rfl, k3⟩; have b3 := below_step b2 k3; have h3 := Lib.hid (h2.out.below k3); have o3 := Lib.hid (own_below o2.out k3 (Nat.le_refl _)))
        | (go_at_call 16; refine (Load_any _ n c1 l _ (by exact (by have := sees_own o1.out; rw [List.map_append] at this; exact this.take (by rw [List.length_map, HLN.out]; omega) (by omega))) HOK.out.1 HOK.out.2).mono ?_; rintro e w2 ⟨p, g, c2, rfl, h2, k2⟩; have b2 := below_step b1 k2; have h2 := Lib.hid h2; have hgo : Hid (w.heap.size ≤ go' ∧ go' < w1.heap.size) := Lib.hid ⟨hgo0, own_glt o1.out⟩; have o2 := Lib.hid (own_below o1.out k2 (Nat.le_refl _)))
        | (go_at_call 33; refine (LentInts_any A n c l _ HS.out (by have := HN.out; omega)).mono ?_; rintro e w1 ⟨A1, c1, rfl, o1, b1⟩; obtain ⟨go', c1', hgo1, hgo0⟩ := own_addrK o1 (by omega); cases hgo1; have o1 := Lib.hid o1))
      have HOFF : Hid (OffA g A) := Lib.hid (fun b hb => by
        subst hb
        obtain ⟨bz, oz, hA, hc⟩ := HS.out.int (k := 0) (by have := HOK.out; omega)
        cases hA
        have h1 := World.block_lt_of_cell? _ _ hc
        have h2 := h5.out.bg
        have h3 := b1.size
        have h4 : bz < w.heap.size := h1
        show bz ≠ g
        omega)
      have HB1 : Hid (w.heap.size ≤ w1.heap.size) := Lib.hid b1.size
      have s5 := Lib.hid (HS.out.below b5 (Nat.le_refl _))
      clear d1 d1' d2 d2' b1 b2 b3 b4 hgo0
      go_loopw [8, 73] (fun tv i wr => ∃ (j : Nat) (xs : List Int) (At : Option Addr) (ct : Nat), Hid (j ≤ k) ∧ i = .int .i64 (j : Int) ∧ tv = .slice At n ct ∧ Hid (Clk wr w1.heap.size p g c2 n xs ∧ OkT xs ∧ OffA g At) ∧ Hid (Sees wr 1 At n ct (xs.map (Value.int .i64))) ∧ Below w.heap.size w wr) (fun _ i _ => k - (intOf i).toNat)
      case atStart => exact ⟨0, l, A, c, Lib.hid (Nat.zero_le _), rfl, rfl, Lib.hid ⟨h5.out, HOK.out.2, HOFF.out⟩, s5, b5⟩
      case round =>
        obtain ⟨j, xs, At, ct, HJ, rfl, rfl, HC, HT, hb⟩ := hrel
        by_cases hlt : j < k
        · obtain ⟨ba, oa, cpu, d, u, hA, g1, g2, g3⟩ := (HX.out.below hb (Nat.le_refl _)).act hlt
          cases hA
          obtain ⟨xs', v, er, hF, hok', hln'⟩ : ∃ xs' v er, actF u xs cpu d = (xs', v, er) ∧ OkT xs' ∧ xs'.length = xs.length := ⟨_, _, _, rfl, (actF_ok u HC.out.2.1 cpu d).1, (actF_ok u HC.out.2.1 cpu d).2⟩
          have hB0 := (Below.refl wr.heap.size wr).alloc (Nat.le_refl _) (.cells #[.int .i64 cpu, .int .i64 d, .bool u] 58)
          have hC0 := Lib.hid (HC.out.1.below hB0)
          have hT0 := Lib.hid (HT.out.below hB0 (Nat.le_refl _))
          have hBB := Lib.hid (hb.trans (hB0.mono hb.size))
          have HGL := Lib.hid HC.out.1.glt
          have HOKX := Lib.hid (And.intro hok' hln')
          have d3 : decide ((j : Int) < (k : Int)) = true := by simp; omega
          have hj2 : (j : Int) < (k : Int) := by omega
          have hj3 : (j : Int) ≤ 99 := by omega
          have HLT := Lib.hid hlt
          clear hlt hok' hln' hB0
          cases u
          all_goals
            have HF := Lib.hid (show _ = (xs', v, er) from hF)
            clear hF
            go_wp2_with (first
              | (go_at_call 18; refine (SameInts_any _ _ _ _ _ _ xs' xs' _ (by exact sees_own o8.out) (by exact s8.out)).mono ?_; rw [eqL_self]; rintro e w9 ⟨rfl, k9⟩; have b9 := below_step b8 k9; have h9 := Lib.hid (h8.out.below k9); have s9 := Lib.hid (s8.out.below k9 (Nat.le_refl _)); have o9 := Lib.hid (own_below o8.out k9 (Nat.le_refl _)); replace q0 := below_cellA k9 q0; replace q1 := below_cellA k9 q1)
              | (go_at_call 15; refine (All_any _ _ _ _ _ _ _ h7.out (by have := HN.out; omega)).mono ?_; rintro e w8 ⟨A8, c8, rfl, o8, k8⟩; obtain ⟨g8, c8', hA8, hg8⟩ := own_addrK o8 (by have := HOK.out; omega); cases hA8; have HG8 := Lib.hid hg8; clear hg8; replace q0 := below_cellA k8 q0; replace q1 := below_cellA k8 q1; have b8 := below_step b7 k8; have h8 := Lib.hid (h7.out.below k8); have s8 := Lib.hid (s7.out.below k8 (Nat.le_refl _)); have o8 := Lib.hid o8)
              | (go_at_call 38; refine (refUntil_any _ n _ xs cpu d _ s6.out (by have := HN.out; omega) HC.out.2.1).mono ?_; rw [show untilF xs cpu d = (xs', v, er) from HF.out]; rintro e w7 ⟨A7, c7, rfl, s7, f7, k7⟩; have b7 := below_step b6 k7; have h7 := Lib.hid (h6.out.below k7); replace q0 := below_cellA k7 q0; replace q1 := below_cellA k7 q1; have s7 := Lib.hid s7; have f7 := Lib.hid (HC.out.2.2.from f7 z6.out.1); have z7 : Hid (wr.heap.size < w7.heap.size) := Lib.hid (Nat.lt_of_lt_of_le z6.out.2 k7.size))
              | (go_at_call 39; refine (refTick_any _ n _ xs cpu d _ s6.out (by have := HN.out; omega) HC.out.2.1).mono ?_; rw [show tickF xs cpu d = (xs', v, er) from HF.out]; rintro e w7 ⟨A7, c7, rfl, s7, f7, k7⟩; have b7 := below_step b6 k7; have h7 := Lib.hid (h6.out.below k7); replace q0 := below_cellA k7 q0; replace q1 := below_cellA k7 q1; have s7 := Lib.hid s7; have f7 := Lib.hid (HC.out.2.2.from f7 z6.out.1); have z7 : Hid (wr.heap.size < w7.heap.size) := Lib.hid (Nat.lt_of_lt_of_le z6.out.2 k7.size))
              | (go_at_call 17; refine (Until_any _ _ _ _ _ cpu d xs _ hC0.out (by have := HN.out; omega) HC.out.2.1).mono ?_; rw [show untilF xs cpu d = (xs', v, er) from HF.out]; rintro e w6 ⟨rfl, h6, k6⟩; have b6 := hBB.out.trans (k6.below (Nat.le_trans HB1.out hC0.out.bg) hBB.out.size); have q0 := k6.cellA (a := ⟨wr.heap.size, 0, none⟩) (v := .int .i64 cpu) (by simp) (by have := HGL.out; show wr.heap.size ≠ g; omega); have q1 := k6.cellA (a := ⟨wr.heap.size, 1, none⟩) (v := .int .i64 d) (by simp) (by have := HGL.out; show wr.heap.size ≠ g; omega); have s6 := Lib.hid (hT0.out.off k6 HC.out.2.2); have h6 := Lib.hid h6; have z6 : Hid (g < w6.heap.size ∧ wr.heap.size < w6.heap.size) := Lib.hid (by have hh := k6.size; rw [World.size_alloc] at hh; have := HGL.out; omega))
              | (go_at_call 14; refine (Tick_any _ _ _ _ _ cpu d xs _ hC0.out (by have := HN.out; omega) HC.out.2.1).mono ?_; rw [show tickF xs cpu d = (xs', v, er) from HF.out]; rintro e w6 ⟨rfl, h6, k6⟩; have b6 := hBB.out.trans (k6.below (Nat.le_trans HB1.out hC0.out.bg) hBB.out.size); have q0 := k6.cellA (a := ⟨wr.heap.size, 0, none⟩) (v := .int .i64 cpu) (by simp) (by have := HGL.out; show wr.heap.size ≠ g; omega); have q1 := k6.cellA (a := ⟨wr.heap.size, 1, none⟩) (v := .int .i64 d) (by simp) (by have := HGL.out; show wr.heap.size ≠ g; omega); have s6 := Lib.hid (hT0.out.off k6 HC.out.2.2); have h6 := Lib.hid h6; have z6 : Hid (g < w6.heap.size ∧ wr.heap.size < w6.heap.size) := Lib.hid (by have hh := k6.size; rw [World.size_alloc] at hh; have := HGL.out; omega)))
            have HQ := Lib.hid (And.intro q0 q1)
            have HNE : Hid (g8 ≠ p ∧ g8 ≠ g ∧ OffA g8 A7 ∧ g8 ≠ wr.heap.size ∧ w.heap.size ≤ g8) := Lib.hid (by
              have e1 := h7.out.plt
              have e2 := h7.out.glt
              have e3 := HG8.out
              have e4 := z7.out
              have e5 := b7.size
              refine ⟨by omega, by omega, fun b hb => ?_, by omega, by omega⟩
              subst hb
              obtain ⟨bz, oz, hA, hc⟩ := s7.out.int (k := 0) (by have := HOK.out; omega)
              cases hA
              have e6 : bz < w7.heap.size := World.block_lt_of_cell? _ _ hc
              show bz ≠ g8
              omega)
            clear q0 q1
            go_loopw [135] (fun i wq => ∃ (jj : Nat) (ys : List Int), Hid (jj ≤ n) ∧ i = .int .i64 (jj : Int) ∧ wq.ownsRow w7.heap.size 3 1 (.slice (some ⟨g8, 0, none⟩) n c8) n (ys.map (Value.int .i64)) ∧ Hid (Keeps g8 w9 wq)) (fun i _ => n - (intOf i).toNat)
            case atStart => exact ⟨0, xs', Lib.hid (Nat.zero_le _), rfl, o9.out, Lib.hid (Keeps.refl _ _)⟩
            case round =>
              obtain ⟨jj, ys, HJJ, rfl, ho, hkp⟩ := hrel
              by_cases hlt : jj < n
              · obtain ⟨e1, e2⟩ := own_cellK ho hlt
                have hset := own_setK ho jj (-5)
                have d5 : decide ((jj : Int) < (n : Int)) = true := by simp; omega
                have hjn : (jj : Int) ≤ 100 := by have := HN.out; omega
                have HLT2 := Lib.hid hlt
                clear hlt
                go_wp2
                go_roundw
                case rel => exact ⟨jj + 1, ys.set jj (-5), Lib.hid HLT2.out, by go_num, hset, Lib.hid (hkp.out.trans (Keeps.set _ _ _ _))⟩
                case measure => have := HLT2.out; simp [intOf]; omega
              · have d5 : decide ((jj : Int) < (n : Int)) = false := by simp; omega
                have d5' : decide (jj < n) = false := by simp; omega
                have Q0 := hkp.out.cellA HQ.out.1 (fun e => HNE.out.2.2.2.1 e.symm)
                have Q1 := hkp.out.cellA HQ.out.2 (fun e => HNE.out.2.2.2.1 e.symm)
                have hC := Lib.hid (h9.out.keeps hkp.out (fun e => HNE.out.1 e.symm) (fun e => HNE.out.2.1 e.symm))
                have hT := Lib.hid (s9.out.off hkp.out HNE.out.2.2.1)
                have bq := b9.trans (hkp.out.below HNE.out.2.2.2.2 b9.size)
                have HF7 := Lib.hid (And.intro HOKX.out.1 f7.out)
                have hNB : Hid (n ≤ 100000 ∧ 1 ≤ n) := Lib.hid (by have := HN.out; have := HOK.out; omega)
                clear hlt ho HQ HNE hkp h6 h7 h8 h9 s6 s7 s8 s9 o8 o9 b6 b7 b8 b9 hC0 hT0 hBB HC HT
                by_cases hin : 0 ≤ cpu ∧ cpu < (n : Int)
                · obtain ⟨q, rfl⟩ : ∃ q : Nat, cpu = (q : Int) := ⟨cpu.toNat, by omega⟩
                  have hqn : q < n := by omega
                  have hqi : (q : Int) < (n : Int) := by omega
                  have e1 : decide ((q : Int) < (n : Int)) = true := by simp; omega
                  have e2 : decide (q < n) = true := by simp; omega
                  obtain ⟨bt, ot, hA, gt⟩ := hT.out.int hqn
                  cases hA
                  obtain ⟨y, hy⟩ : ∃ y, xs'.getD q 0 = y := ⟨_, rfl⟩
                  rw [hy] at gt
                  have HY := Lib.hid hy
                  have HQN := Lib.hid hqn
                  clear hin hqn hy
                  go_wp2_with (go_at_call 25; refine (Now_ok _ _ _ _ _ q xs' _ hC.out HQN.out hNB.out.1).mono ?_; rw [HY.out]; rintro e w10 ⟨rfl, rfl⟩)
                  clear e1 e2
                  go_wp2_with (first
                    | (go_at_call 41; refine (refAhead_any _ n _ xs' _ (by exact s13.out) hNB.out.2 hNB.out.1).mono ?_; rintro e w14 ⟨b', rfl, hb1', hb2', k14⟩; obtain rfl := MaxAt.same hb1' HA.out.1 hb2' HA.out.2; have b14 := below_step b13 k14; have h14 := Lib.hid (h13.out.below k14); have s14 := Lib.hid (s13.out.below k14 (Nat.le_refl _)))
                    | (go_at_call 20; refine (Ahead_any _ _ _ _ _ xs' _ h12.out hNB.out.1).mono ?_; rintro e w13 ⟨b2, rfl, hb1, hb2, k13⟩; have HA := Lib.hid (And.intro hb1 hb2); have b13 := below_step b12 k13; have h13 := Lib.hid (h12.out.below k13); have s13 := Lib.hid (s12.out.below k13 (Nat.le_refl _)); clear hb1 hb2)
                    | (go_at_call 40; refine (refBehind_any _ n _ xs' _ (by exact s11.out) hNB.out.2 hNB.out.1).mono ?_; rintro e w12 ⟨b', rfl, hb1', hb2', k12⟩; obtain rfl := MinAt.same hb1' HM.out.1 hb2' HM.out.2; have b12 := below_step b11 k12; have h12 := Lib.hid (h11.out.below k12); have s12 := Lib.hid (s11.out.below k12 (Nat.le_refl _)))
                    | (go_at_call 19; refine (Behind_any _ _ _ _ _ xs' _ hC.out hNB.out.1).mono ?_; rintro e w11 ⟨b1, rfl, hb1, hb2, k11⟩; have HM := Lib.hid (And.intro hb1 hb2); have b11 := below_step bq k11; have h11 := Lib.hid (hC.out.below k11); have s11 := Lib.hid (hT.out.below k11 (Nat.le_refl _)); clear hb1 hb2))
                  go_roundw
                  case rel => exact ⟨j + 1, xs', _, c7, Lib.hid HLT.out, by go_num, rfl, Lib.hid ⟨h14.out, HF7.out.1, HF7.out.2⟩, s14, b14⟩
                  case measure => have := HLT.out; simp [intOf]; omega
                · have hcase : cpu < 0 ∨ (n : Int) ≤ cpu := by omega
                  have HCS := Lib.hid hcase
                  by_cases h0 : cpu < 0
                  · have e1 : decide (0 ≤ cpu) = false := by simp; omega
                    clear hin hcase
                    go_wp2_with (go_at_call 25; refine (Now_bad _ _ _ _ _ cpu xs' _ hC.out HCS.out).mono ?_; rintro e w10 ⟨rfl, rfl⟩)
                    clear e1
                    go_wp2_with (first
                      | (go_at_call 41; refine (refAhead_any _ n _ xs' _ (by exact s13.out) hNB.out.2 hNB.out.1).mono ?_; rintro e w14 ⟨b', rfl, hb1', hb2', k14⟩; obtain rfl := MaxAt.same hb1' HA.out.1 hb2' HA.out.2; have b14 := below_step b13 k14; have h14 := Lib.hid (h13.out.below k14); have s14 := Lib.hid (s13.out.below k14 (Nat.le_refl _)))
                      | (go_at_call 20; refine (Ahead_any _ _ _ _ _ xs' _ h12.out hNB.out.1).mono ?_; rintro e w13 ⟨b2, rfl, hb1, hb2, k13⟩; have HA := Lib.hid (And.intro hb1 hb2); have b13 := below_step b12 k13; have h13 := Lib.hid (h12.out.below k13); have s13 := Lib.hid (s12.out.below k13 (Nat.le_refl _)); clear hb1 hb2)
                      | (go_at_call 40; refine (refBehind_any _ n _ xs' _ (by exact s11.out) hNB.out.2 hNB.out.1).mono ?_; rintro e w12 ⟨b', rfl, hb1', hb2', k12⟩; obtain rfl := MinAt.same hb1' HM.out.1 hb2' HM.out.2; have b12 := below_step b11 k12; have h12 := Lib.hid (h11.out.below k12); have s12 := Lib.hid (s11.out.below k12 (Nat.le_refl _)))
                      | (go_at_call 19; refine (Behind_any _ _ _ _ _ xs' _ hC.out hNB.out.1).mono ?_; rintro e w11 ⟨b1, rfl, hb1, hb2, k11⟩; have HM := Lib.hid (And.intro hb1 hb2); have b11 := below_step bq k11; have h11 := Lib.hid (hC.out.below k11); have s11 := Lib.hid (hT.out.below k11 (Nat.le_refl _)); clear hb1 hb2))
                    go_roundw
                    case rel => exact ⟨j + 1, xs', _, c7, Lib.hid HLT.out, by go_num, rfl, Lib.hid ⟨h14.out, HF7.out.1, HF7.out.2⟩, s14, b14⟩
                    case measure => have := HLT.out; simp [intOf]; omega
                  · have e1 : decide (0 ≤ cpu) = true := by simp; omega
                    have e2 : decide (cpu < (n : Int)) = false := by simp; omega
                    clear hin hcase
                    go_wp2_with (go_at_call 25; refine (Now_bad _ _ _ _ _ cpu xs' _ hC.out HCS.out).mono ?_; rintro e w10 ⟨rfl, rfl⟩)
                    clear e1 e2
                    go_wp2_with (first
                      | (go_at_call 41; refine (refAhead_any _ n _ xs' _ (by exact s13.out) hNB.out.2 hNB.out.1).mono ?_; rintro e w14 ⟨b', rfl, hb1', hb2', k14⟩; obtain rfl := MaxAt.same hb1' HA.out.1 hb2' HA.out.2; have b14 := below_step b13 k14; have h14 := Lib.hid (h13.out.below k14); have s14 := Lib.hid (s13.out.below k14 (Nat.le_refl _)))
                      | (go_at_call 20; refine (Ahead_any _ _ _ _ _ xs' _ h12.out hNB.out.1).mono ?_; rintro e w13 ⟨b2, rfl, hb1, hb2, k13⟩; have HA := Lib.hid (And.intro hb1 hb2); have b13 := below_step b12 k13; have h13 := Lib.hid (h12.out.below k13); have s13 := Lib.hid (s12.out.below k13 (Nat.le_refl _)); clear hb1 hb2)
                      | (go_at_call 40; refine (refBehind_any _ n _ xs' _ (by exact s11.out) hNB.out.2 hNB.out.1).mono ?_; rintro e w12 ⟨b', rfl, hb1', hb2', k12⟩; obtain rfl := MinAt.same hb1' HM.out.1 hb2' HM.out.2; have b12 := below_step b11 k12; have h12 := Lib.hid (h11.out.below k12); have s12 := Lib.hid (s11.out.below k12 (Nat.le_refl _)))
                      | (go_at_call 19; refine (Behind_any _ _ _ _ _ xs' _ hC.out hNB.out.1).mono ?_; rintro e w11 ⟨b1, rfl, hb1, hb2, k11⟩; have HM := Lib.hid (And.intro hb1 hb2); have b11 := below_step bq k11; have h11 := Lib.hid (hC.out.below k11); have s11 := Lib.hid (hT.out.below k11 (Nat.le_refl _)); clear hb1 hb2))
                    go_roundw
                    case rel => exact ⟨j + 1, xs', _, c7, Lib.hid HLT.out, by go_num, rfl, Lib.hid ⟨h14.out, HF7.out.1, HF7.out.2⟩, s14, b14⟩
                    case measure => have := HLT.out; simp [intOf]; omega
        · have hjk : j = k := by have := HJ.out; omega
          have d3 : decide ((j : Int) < (k : Int)) = false := by simp; omega
          have d3' : decide (j < k) = false := by simp; omega
          clear hlt hjk
          go_wp2_with (first
            | (go_at_call 18; refine (SameInts_any _ _ _ _ _ _ xs xs _ (by exact sees_own o6) (by exact s6.out)).mono ?_; rw [eqL_self]; rintro e w7 ⟨rfl, k7⟩; have b7 := below_step b6 k7)
            | (go_at_call 15; refine (All_any _ _ _ _ _ _ _ HC.out.1 (by have := HN.out; omega)).mono ?_; rintro e w6 ⟨A6, c6, rfl, o6, k6⟩; have b6 := below_step hb k6; have s6 := Lib.hid (HT.out.below k6 (Nat.le_refl _))))
          go_ret
          exact ⟨rfl, b7⟩
    · have HOB := Lib.hid (okTB_false hok)
      have HOK := Lib.hid hok
      clear hok
      go_enter Try.func21, Try.ntmps21
      go_wp2_with (first
        | (go_at_call 36; refine (refRight_any A n c l _ (by exact HS.out.below b4 (Nat.le_refl _)) (by have := HN.out; omega)).mono ?_; rw [HOB.out]; rintro e w5 ⟨rfl, rfl⟩)
        | (go_at_call 35; refine (OverInts_any _ go' c1 n _ _ o3.out (by have := HN.out; omega)).mono ?_; rintro e w4 ⟨rfl, k4⟩; have b4 := b3.trans (k4.below hgo0 b3.size))
        | (go_at_call 34; refine (KeptInts_any _ A n _ c l _ (by exact sees_own o1.out) (by exact HS.out.below b1 (Nat.le_refl _)) (by have := HN.out; omega)).mono ?_; rintro e w3 ⟨rfl, k3⟩; have b3 := below_step b1 k3; have o3 := Lib.hid (own_below o1.out k3 (Nat.le_refl _)))
        | (go_at_call 16; refine (Load_bad _ n c1 l _ (by exact (by have := sees_own o1.out; rw [List.map_append] at this; exact this.take (by rw [List.length_map, HLN.out]; omega) (by omega))) HOK.out).mono ?_; rintro e w2 ⟨rfl, rfl⟩)
        | (go_at_call 33; refine (LentInts_any A n c l _ HS.out (by have := HN.out; omega)).mono ?_; rintro e w1 ⟨A1, c1, rfl, o1, b1⟩; obtain ⟨go', c1', hgo1, hgo0⟩ := own_addrK o1 (by omega); cases hgo1; have o1 := Lib.hid o1))
      go_ret
      exact ⟨rfl, b4⟩
end Go.Proofs.Ytllbcohfelgamaa
