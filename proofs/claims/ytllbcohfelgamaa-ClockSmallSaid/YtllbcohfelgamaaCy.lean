/- Walks: the law's tells, on; ClockTells. -/
import Derived.Test.YtllbcohfelgamaaProg
import Derived.Test.YtllbcohfelgamaaCx
namespace Go.Proofs.Ytllbcohfelgamaa
open Go.RowKit
set_option linter.unusedVariables false

set_option maxRecDepth 100000 in
set_option maxHeartbeats 6400000 in
theorem tells_bad (n : Int) (A A1 A2 : Option Addr) (m c n1 c1 n2 c2 : Nat) (st : List (Int × Int)) (cs ls : List Int) (w : World) (h : Sees w 2 A m c (flat st)) (h1 : Sees w 1 A1 n1 c1 (cs.map (Value.int .i64))) (h2 : Sees w 1 A2 n2 c2 (ls.map (Value.int .i64))) (hb : m ≤ 100 ∧ n1 ≤ 100 ∧ n2 ≤ 100) (hr : ¬ (1 ≤ n ∧ n ≤ 64)) :
    Calls Try.prog 22 #[.int .i64 n, .slice A m c, .slice A1 n1 c1, .slice A2 n2 c2] w fun e w' => e = .returned (.bool true) ∧ Below w.heap.size w w' := by
  have HS := Lib.hid h
  have H1 := Lib.hid h1
  have H2 := Lib.hid h2
  have d1 : decide ((100 : Int) < (m : Int)) = false := by simp; omega
  have d1' : decide (100 < m) = false := by simp; omega
  have d2 : decide ((100 : Int) < (n1 : Int)) = false := by simp; omega
  have d2' : decide (100 < n1) = false := by simp; omega
  have d3 : decide ((100 : Int) < (n2 : Int)) = false := by simp; omega
  have d3' : decide (100 < n2) = false := by simp; omega
  have HN : Hid (m ≤ 100 ∧ n1 ≤ 100 ∧ n2 ≤ 100) := Lib.hid (by omega)
  have hm2 : (m : Int) ≤ 100 := by omega
  have HL : Hid (st.length = m) := Lib.hid (by have := HS.out.len; rw [flat_len] at this; omega)
  have HL1 := Lib.hid H1.out.length
  have HL2 := Lib.hid H2.out.length
  obtain ⟨D1, De, hD⟩ : ∃ D1 De, eachF untilF n (st.map (·.1)) (st.map (·.2)) = (D1, De) := ⟨_, _, rfl⟩
  obtain ⟨T1, Te, hT⟩ : ∃ T1 Te, eachF tickF n cs ls = (T1, Te) := ⟨_, _, rfl⟩
  have HD := Lib.hid hD
  have HT := Lib.hid hT
  clear hD hT h h1 h2 hb
  have HR : Hid (n < 1 ∨ 64 < n) := Lib.hid (by omega)
  by_cases hn1 : n < 1
  · have r1 : decide (1 ≤ n) = false := by simp; omega
    clear hr hn1
    go_enter Try.func22, Try.ntmps22
    go_wp2_with (first
      | (go_at_call 23; refine (Stamps_any _ _ _ _ _ _ _ cs ls _ (by exact p5.out) (by exact q5.out) (by have := HN.out; omega)).mono ?_; rw [HT.out]; rintro e w6 ⟨A6, c6, m6, rfl, o6, k6⟩; have b6 := below_step b5 k6; have y6 := Lib.hid (sees_own o6); have s6 := Lib.hid (s5.out.below k6 (Nat.le_refl _)); have x6 := Lib.hid (x5.out.below k6 (Nat.le_refl _)); have p6 := Lib.hid (own_below pp5.out k6 (Nat.le_refl _)); have q6 := Lib.hid (own_below qq5.out k6 (Nat.le_refl _)))
      | (go_at_call 24; refine (Deltas_any _ _ _ _ st _ (by exact s4.out) (by have := HN.out; omega)).mono ?_; rw [HD.out]; rintro e w5 ⟨A5, c5, m5, rfl, o5, k5⟩; have b5 := below_step b4 k5; have x5 := Lib.hid (sees_own o5); have s5 := Lib.hid (s4.out.below k5 (Nat.le_refl _)); have pp5 := Lib.hid (own_below pp4.out k5 (Nat.le_refl _)); have qq5 := Lib.hid (own_below qq4.out k5 (Nat.le_refl _)); have p5 := Lib.hid (p4.out.below k5 (Nat.le_refl _)); have q5 := Lib.hid (q4.out.below k5 (Nat.le_refl _)))
      | (go_at_call 12; refine (New_bad _ _ HR.out).mono ?_; rintro e w4 ⟨rfl, k4⟩; have b4 := below_step b3 k4; have s4 := Lib.hid (s3.out.below k4 (Nat.le_refl _)); have pp4 := Lib.hid (own_below pp3.out k4 (Nat.le_refl _)); have qq4 := Lib.hid (own_below qq3.out k4 (Nat.le_refl _)); have p4 := Lib.hid (lent_pre pp4.out HL1.out); have q4 := Lib.hid (lent_pre qq4.out HL2.out))
      | (go_at_call_of 33 (Value.slice A2 n2 c2); refine (LentInts_any A2 n2 c2 ls _ (by exact H2.out.below b2 (Nat.le_refl _)) (by have := HN.out; omega)).mono ?_; rintro e w3 ⟨Aq, cq, rfl, oq, k3⟩; have b3 := below_step b2 k3; have qq3 := Lib.hid oq; have pp3 := Lib.hid (own_below pp2.out k3 (Nat.le_refl _)); have s3 := Lib.hid (s2.out.below k3 (Nat.le_refl _)))
      | (go_at_call_of 33 (Value.slice A1 n1 c1); refine (LentInts_any A1 n1 c1 cs _ (by exact H1.out.below b1 (Nat.le_refl _)) (by have := HN.out; omega)).mono ?_; rintro e w2 ⟨Ap, cp, rfl, op, k2⟩; have b2 := below_step b1 k2; have pp2 := Lib.hid op; have s2 := Lib.hid (s1.out.below k2 (Nat.le_refl _)))
      | (at_builtin; refine wpList_app E_stamp rfl _ _ rfl rfl (World.ownsRow_lit (base := w.heap.size) (e := 52) (size := 2) w #[] 0 (Nat.le_refl _) (by decide) rfl) rfl (HS.out.below ((Below.refl _ _).alloc (Nat.le_refl _) _) (Nat.le_refl _)) (flat_one _) (by have := HN.out; simp [maxLen]; omega) (by have := HN.out; omega) (by simp) ?_; intro A3 c3 w1 o1 g1 k1; rw [Nat.zero_add, List.nil_append] at o1; have b1 := ((Below.refl w.heap.size w).alloc (Nat.le_refl _) (.cells #[] 52)).trans k1; have s1 := Lib.hid (sees_own o1); clear o1 g1 k1))
    have l6 := Lib.hid (HS.out.below b6 (Nat.le_refl _))
    have hz6 : w.heap.size ≤ w6.heap.size := b6.size
    clear d1 d1' d2 d2' d3 d3' b1 b2 b3 b4 b5
    go_loopw [18, 67] (fun v i wr => ∃ (j cA : Nat) (A' : Option Addr), Hid (j ≤ m) ∧ i = .int .i64 (j : Int) ∧ v = .slice A' j cA ∧ wr.ownsRow w6.heap.size 72 2 (.slice A' j cA) j (flat (st.take j)) ∧ Below w6.heap.size w6 wr) (fun _ i _ => m - (intOf i).toNat)
    case atStart => exact ⟨0, 0, none, Lib.hid (Nat.zero_le _), rfl, rfl, World.ownsRow_nil _ _ _ _, Below.refl _ _⟩
    case round =>
      obtain ⟨j, cA, A', HJ, rfl, rfl, ho, hb⟩ := hrel
      by_cases hlt : j < m
      · obtain ⟨ba, oa, hA, g1, g2⟩ := (l6.out.below hb (Nat.le_refl _)).stamp hlt
        cases hA
        obtain ⟨bo, oo, hA, e1, e2⟩ := (s6.out.below hb (Nat.le_refl _)).stamp hlt
        cases hA
        have hjl : j < st.length := by rw [HL.out]; exact hlt
        have hsn : st.take (j + 1) = st.take j ++ [st.getD j (0, 0)] := by
          rw [List.take_succ_eq_append_getElem hjl]; simp [List.getD, hjl]
        obtain ⟨x, hx⟩ : ∃ x, (st.getD j (0, 0)).1 = x := ⟨_, rfl⟩
        obtain ⟨y, hy⟩ : ∃ x, (st.getD j (0, 0)).2 = x := ⟨_, rfl⟩
        rw [show st.getD j (0, 0) = (x, y) from Prod.ext hx hy] at hsn
        rw [hx] at g1 e1
        rw [hy] at g2 e2
        have HSN := Lib.hid hsn
        have k1 := blt_of_cell e1
        have k2 := blt_of_cell g1
        have d3 : decide ((j : Int) < (m : Int)) = true := by simp; omega
        have hj2 : (j : Int) < (m : Int) := by omega
        have hj3 : (j : Int) ≤ 99 := by omega
        have HLT := Lib.hid hlt
        have hsz := hb.size
        clear hsn hlt hx hy hjl
        go_wp2_with fail
        go_quiet (fail)
        have z0 : ((wr.alloc (.cells #[.int .i64 x, .int .i64 y] 52)).drewN nq).cell? ⟨wr.heap.size, 0, none⟩ = some (.int .i64 x) := by simp
        have z1 : ((wr.alloc (.cells #[.int .i64 x, .int .i64 y] 52)).drewN nq).cell? ⟨wr.heap.size, 1, none⟩ = some (.int .i64 y) := by simp
        have b9 : Below wr.heap.size wr ((wr.alloc (.cells #[.int .i64 x, .int .i64 y] 52)).drewN nq) := below_drewN ((Below.refl _ _).alloc (Nat.le_refl _) _) _
        have o9 := own_below ho b9 (Nat.le_refl _)
        have hb9 := below_step hb b9
        have hsz9 := hb9.size
        clear g1 g2 e1 e2 k1 k2 b9
        generalize (wr.alloc (.cells #[.int .i64 x, .int .i64 y] 52)).drewN nq = w9 at z0 z1 o9 hb9 hsz9 ⊢
        go_wp2_with (at_builtin; refine wpList_app E_rst rfl _ _ rfl rfl (o9.alloc _) rfl (sees_block2 (w := w9.alloc (.cells #[.int .i64 x, .int .i64 y] 72)) (g := w9.heap.size) (st := [(x, y)]) (heap_alloc_new _ _) rfl (by simp [maxLen])) (flat_one _) (by simp [maxLen]; omega) (by omega) (by simp; omega) ?_; intro A4 c4 w4 hown4 hg4 hb4)
        go_roundw
        case rel =>
          refine ⟨j + 1, c4, A4, Lib.hid HLT.out, by go_num, rfl, ?_, (hb9.alloc hsz9 _).trans hb4⟩
          rw [HSN.out, flat_app]
          exact hown4
        case measure => have := HLT.out; simp [intOf]; omega
      · have hjm : j = m := by have := HJ.out; omega
        have d3 : decide ((j : Int) < (m : Int)) = false := by simp; omega
        have d3' : decide (j < m) = false := by simp; omega
        have e1 : st.take j = st := List.take_of_length_le (by rw [HL.out, hjm]; exact Nat.le_refl _)
        rw [e1] at ho
        have HJM := Lib.hid hjm
        have ST := Lib.hid (sees_own ho)
        have bb := b6.trans (hb.mono hz6)
        have x7 := Lib.hid (x6.out.below hb (Nat.le_refl _))
        have y7 := Lib.hid (y6.out.below hb (Nat.le_refl _))
        have p7 := Lib.hid (own_below p6.out hb (Nat.le_refl _))
        have q7 := Lib.hid (own_below q6.out hb (Nat.le_refl _))
        clear hlt hjm e1 ho x6 y6 p6 q6 s6 l6
        clear b6 hb
        go_wp2_with fail
        go_quiet (fail)
        have k13 : Below wr.heap.size wr (wr.drewN nq) := below_drewN (Below.refl _ _) nq
        generalize wr.drewN nq = w12 at k13 ⊢
        go_wp2_with fail
        have bb12 := below_step bb k13
        have ST12 := Lib.hid (ST.out.below k13 (Nat.le_refl _))
        have x12 := Lib.hid (x7.out.below k13 (Nat.le_refl _))
        have y12 := Lib.hid (y7.out.below k13 (Nat.le_refl _))
        have p12 := Lib.hid (own_below p7.out k13 (Nat.le_refl _))
        have q12 := Lib.hid (own_below q7.out k13 (Nat.le_refl _))
        clear k13 bb ST x7 y7 p7 q7
        go_wp2_with (first
          | (go_at_call_of 34 (Value.slice A2 n2 c2); refine (KeptInts_any _ A2 n2 _ c2 ls _ (by exact sees_own q16.out) (by exact H2.out.below b16 (Nat.le_refl _)) (by have := HN.out; omega)).mono ?_; rintro e w17 ⟨rfl, k17⟩; have b17 := below_step b16 k17; have y17 := Lib.hid (y16.out.below k17 (Nat.le_refl _)); have l17 := Lib.hid (l16.out.below k17 (Nat.le_refl _)))
          | (go_at_call_of 34 (Value.slice A1 n1 c1); refine (KeptInts_any _ A1 n1 _ c1 cs _ (by exact sees_own p15.out) (by exact H1.out.below b15 (Nat.le_refl _)) (by have := HN.out; omega)).mono ?_; rintro e w16 ⟨rfl, k16⟩; have b16 := below_step b15 k16; have y16 := Lib.hid (y15.out.below k16 (Nat.le_refl _)); have l16 := Lib.hid (l15.out.below k16 (Nat.le_refl _)); have q16 := Lib.hid (own_below q15.out k16 (Nat.le_refl _)))
          | (go_at_call 18; refine (SameInts_any _ _ _ _ _ _ (D1.map (·.2)) (D1.map (·.2)) _ (by exact x14.out) (by exact d14.out)).mono ?_; rw [eqL_self]; rintro e w15 ⟨rfl, k15⟩; have b15 := below_step b14 k15; have y15 := Lib.hid (y14.out.below k15 (Nat.le_refl _)); have l15 := Lib.hid (l14.out.below k15 (Nat.le_refl _)); have p15 := Lib.hid (own_below p14.out k15 (Nat.le_refl _)); have q15 := Lib.hid (own_below q14.out k15 (Nat.le_refl _)))
          | (go_at_call 43; refine (refStamps_any _ _ _ _ _ _ _ cs ls _ (by exact H1.out.below b13 (Nat.le_refl _)) (by exact H2.out.below b13 (Nat.le_refl _)) (by have := HN.out; omega)).mono ?_; rw [HT.out]; rintro e w14 ⟨A14, c14, m14, rfl, o14, k14⟩; obtain rfl : m14 = m6 := same_len (sees_own o14) y13.out; have b14 := below_step b13 k14; have l14 := Lib.hid (sees_own o14); have d14 := Lib.hid (d13.out.below k14 (Nat.le_refl _)); have x14 := Lib.hid (x13.out.below k14 (Nat.le_refl _)); have y14 := Lib.hid (y13.out.below k14 (Nat.le_refl _)); have p14 := Lib.hid (own_below p13.out k14 (Nat.le_refl _)); have q14 := Lib.hid (own_below q13.out k14 (Nat.le_refl _)))
          | (go_at_call 42; refine (refDeltas_any _ _ _ _ st _ (by exact ST12.out) (by have := HN.out; have := HJ.out; omega)).mono ?_; rw [HD.out]; rintro e w13 ⟨A13, c13, m13, rfl, o13, k13⟩; have b13 := below_step bb12 k13; have d13 := Lib.hid (sees_own o13); have x13 := Lib.hid (x12.out.below k13 (Nat.le_refl _)); have y13 := Lib.hid (y12.out.below k13 (Nat.le_refl _)); have p13 := Lib.hid (own_below p12.out k13 (Nat.le_refl _)); have q13 := Lib.hid (own_below q12.out k13 (Nat.le_refl _))))
        have hm6 : m14 ≤ 10000 := by have h1 := y17.out.len; have h2 := T1_len HT.out; have := HN.out; have := HL1.out; rw [flat_len] at h1; omega
        have hmi : (m14 : Int) ≤ 10000 := by omega
        have HTL : Hid (T1.length = m14) := Lib.hid (by have h1 := y17.out.len; rw [flat_len] at h1; omega)
        clear y12 y13 y14 y15 y16 l14 l15 l16 x12 x13 x14 d13 d14 p12 p13 p14 p15 q12 q13 q14 q15 q16 b13 b14 b15 b16 bb12 ST12
        go_loopw [164] (fun i wq => ∃ jj : Nat, i = .int .i64 (jj : Int) ∧ jj ≤ m14 ∧ Below w17.heap.size w17 wq) (fun i _ => m14 - (intOf i).toNat)
        case atStart => exact ⟨0, rfl, Nat.zero_le _, Below.refl _ _⟩
        case round =>
          obtain ⟨jj, rfl, hjj, hbq⟩ := hrel
          by_cases hlt : jj < m14
          · obtain ⟨by1, oy1, hA, g1, g2⟩ := (y17.out.below hbq (Nat.le_refl _)).stamp hlt
            cases hA
            obtain ⟨bl1, ol1, hA, e1, e2⟩ := (l17.out.below hbq (Nat.le_refl _)).stamp hlt
            cases hA
            obtain ⟨x, hx⟩ : ∃ x, (T1.getD jj (0, 0)).1 = x := ⟨_, rfl⟩
            obtain ⟨y, hy⟩ : ∃ x, (T1.getD jj (0, 0)).2 = x := ⟨_, rfl⟩
            rw [hx] at g1 e1
            rw [hy] at g2 e2
            have hj2 : (jj : Int) < (m14 : Int) := by omega
            clear hx hy
            go_wp2_with fail
            go_quiet (fail)
            go_wp2
            go_roundw
            case rel => exact ⟨jj + 1, by go_num, by omega, below_drewN hbq _⟩
            case measure => simp [intOf]; omega
          · obtain rfl : jj = m14 := by omega
            clear hlt
            go_wp2
            go_ret
            exact ⟨rfl, below_step b17 hbq⟩
  · have r1 : decide (1 ≤ n) = true := by simp; omega
    have r2 : decide (n ≤ 64) = false := by simp; omega
    clear hr hn1
    go_enter Try.func22, Try.ntmps22
    go_wp2_with (first
      | (go_at_call 23; refine (Stamps_any _ _ _ _ _ _ _ cs ls _ (by exact p5.out) (by exact q5.out) (by have := HN.out; omega)).mono ?_; rw [HT.out]; rintro e w6 ⟨A6, c6, m6, rfl, o6, k6⟩; have b6 := below_step b5 k6; have y6 := Lib.hid (sees_own o6); have s6 := Lib.hid (s5.out.below k6 (Nat.le_refl _)); have x6 := Lib.hid (x5.out.below k6 (Nat.le_refl _)); have p6 := Lib.hid (own_below pp5.out k6 (Nat.le_refl _)); have q6 := Lib.hid (own_below qq5.out k6 (Nat.le_refl _)))
      | (go_at_call 24; refine (Deltas_any _ _ _ _ st _ (by exact s4.out) (by have := HN.out; omega)).mono ?_; rw [HD.out]; rintro e w5 ⟨A5, c5, m5, rfl, o5, k5⟩; have b5 := below_step b4 k5; have x5 := Lib.hid (sees_own o5); have s5 := Lib.hid (s4.out.below k5 (Nat.le_refl _)); have pp5 := Lib.hid (own_below pp4.out k5 (Nat.le_refl _)); have qq5 := Lib.hid (own_below qq4.out k5 (Nat.le_refl _)); have p5 := Lib.hid (p4.out.below k5 (Nat.le_refl _)); have q5 := Lib.hid (q4.out.below k5 (Nat.le_refl _)))
      | (go_at_call 12; refine (New_bad _ _ HR.out).mono ?_; rintro e w4 ⟨rfl, k4⟩; have b4 := below_step b3 k4; have s4 := Lib.hid (s3.out.below k4 (Nat.le_refl _)); have pp4 := Lib.hid (own_below pp3.out k4 (Nat.le_refl _)); have qq4 := Lib.hid (own_below qq3.out k4 (Nat.le_refl _)); have p4 := Lib.hid (lent_pre pp4.out HL1.out); have q4 := Lib.hid (lent_pre qq4.out HL2.out))
      | (go_at_call_of 33 (Value.slice A2 n2 c2); refine (LentInts_any A2 n2 c2 ls _ (by exact H2.out.below b2 (Nat.le_refl _)) (by have := HN.out; omega)).mono ?_; rintro e w3 ⟨Aq, cq, rfl, oq, k3⟩; have b3 := below_step b2 k3; have qq3 := Lib.hid oq; have pp3 := Lib.hid (own_below pp2.out k3 (Nat.le_refl _)); have s3 := Lib.hid (s2.out.below k3 (Nat.le_refl _)))
      | (go_at_call_of 33 (Value.slice A1 n1 c1); refine (LentInts_any A1 n1 c1 cs _ (by exact H1.out.below b1 (Nat.le_refl _)) (by have := HN.out; omega)).mono ?_; rintro e w2 ⟨Ap, cp, rfl, op, k2⟩; have b2 := below_step b1 k2; have pp2 := Lib.hid op; have s2 := Lib.hid (s1.out.below k2 (Nat.le_refl _)))
      | (at_builtin; refine wpList_app E_stamp rfl _ _ rfl rfl (World.ownsRow_lit (base := w.heap.size) (e := 52) (size := 2) w #[] 0 (Nat.le_refl _) (by decide) rfl) rfl (HS.out.below ((Below.refl _ _).alloc (Nat.le_refl _) _) (Nat.le_refl _)) (flat_one _) (by have := HN.out; simp [maxLen]; omega) (by have := HN.out; omega) (by simp) ?_; intro A3 c3 w1 o1 g1 k1; rw [Nat.zero_add, List.nil_append] at o1; have b1 := ((Below.refl w.heap.size w).alloc (Nat.le_refl _) (.cells #[] 52)).trans k1; have s1 := Lib.hid (sees_own o1); clear o1 g1 k1))
    have l6 := Lib.hid (HS.out.below b6 (Nat.le_refl _))
    have hz6 : w.heap.size ≤ w6.heap.size := b6.size
    clear d1 d1' d2 d2' d3 d3' b1 b2 b3 b4 b5
    go_loopw [18, 67] (fun v i wr => ∃ (j cA : Nat) (A' : Option Addr), Hid (j ≤ m) ∧ i = .int .i64 (j : Int) ∧ v = .slice A' j cA ∧ wr.ownsRow w6.heap.size 72 2 (.slice A' j cA) j (flat (st.take j)) ∧ Below w6.heap.size w6 wr) (fun _ i _ => m - (intOf i).toNat)
    case atStart => exact ⟨0, 0, none, Lib.hid (Nat.zero_le _), rfl, rfl, World.ownsRow_nil _ _ _ _, Below.refl _ _⟩
    case round =>
      obtain ⟨j, cA, A', HJ, rfl, rfl, ho, hb⟩ := hrel
      by_cases hlt : j < m
      · obtain ⟨ba, oa, hA, g1, g2⟩ := (l6.out.below hb (Nat.le_refl _)).stamp hlt
        cases hA
        obtain ⟨bo, oo, hA, e1, e2⟩ := (s6.out.below hb (Nat.le_refl _)).stamp hlt
        cases hA
        have hjl : j < st.length := by rw [HL.out]; exact hlt
        have hsn : st.take (j + 1) = st.take j ++ [st.getD j (0, 0)] := by
          rw [List.take_succ_eq_append_getElem hjl]; simp [List.getD, hjl]
        obtain ⟨x, hx⟩ : ∃ x, (st.getD j (0, 0)).1 = x := ⟨_, rfl⟩
        obtain ⟨y, hy⟩ : ∃ x, (st.getD j (0, 0)).2 = x := ⟨_, rfl⟩
        rw [show st.getD j (0, 0) = (x, y) from Prod.ext hx hy] at hsn
        rw [hx] at g1 e1
        rw [hy] at g2 e2
        have HSN := Lib.hid hsn
        have k1 := blt_of_cell e1
        have k2 := blt_of_cell g1
        have d3 : decide ((j : Int) < (m : Int)) = true := by simp; omega
        have hj2 : (j : Int) < (m : Int) := by omega
        have hj3 : (j : Int) ≤ 99 := by omega
        have HLT := Lib.hid hlt
        have hsz := hb.size
        clear hsn hlt hx hy hjl
        go_wp2_with fail
        go_quiet (fail)
        have z0 : ((wr.alloc (.cells #[.int .i64 x, .int .i64 y] 52)).drewN nq).cell? ⟨wr.heap.size, 0, none⟩ = some (.int .i64 x) := by simp
        have z1 : ((wr.alloc (.cells #[.int .i64 x, .int .i64 y] 52)).drewN nq).cell? ⟨wr.heap.size, 1, none⟩ = some (.int .i64 y) := by simp
        have b9 : Below wr.heap.size wr ((wr.alloc (.cells #[.int .i64 x, .int .i64 y] 52)).drewN nq) := below_drewN ((Below.refl _ _).alloc (Nat.le_refl _) _) _
        have o9 := own_below ho b9 (Nat.le_refl _)
        have hb9 := below_step hb b9
        have hsz9 := hb9.size
        clear g1 g2 e1 e2 k1 k2 b9
        generalize (wr.alloc (.cells #[.int .i64 x, .int .i64 y] 52)).drewN nq = w9 at z0 z1 o9 hb9 hsz9 ⊢
        go_wp2_with (at_builtin; refine wpList_app E_rst rfl _ _ rfl rfl (o9.alloc _) rfl (sees_block2 (w := w9.alloc (.cells #[.int .i64 x, .int .i64 y] 72)) (g := w9.heap.size) (st := [(x, y)]) (heap_alloc_new _ _) rfl (by simp [maxLen])) (flat_one _) (by simp [maxLen]; omega) (by omega) (by simp; omega) ?_; intro A4 c4 w4 hown4 hg4 hb4)
        go_roundw
        case rel =>
          refine ⟨j + 1, c4, A4, Lib.hid HLT.out, by go_num, rfl, ?_, (hb9.alloc hsz9 _).trans hb4⟩
          rw [HSN.out, flat_app]
          exact hown4
        case measure => have := HLT.out; simp [intOf]; omega
      · have hjm : j = m := by have := HJ.out; omega
        have d3 : decide ((j : Int) < (m : Int)) = false := by simp; omega
        have d3' : decide (j < m) = false := by simp; omega
        have e1 : st.take j = st := List.take_of_length_le (by rw [HL.out, hjm]; exact Nat.le_refl _)
        rw [e1] at ho
        have HJM := Lib.hid hjm
        have ST := Lib.hid (sees_own ho)
        have bb := b6.trans (hb.mono hz6)
        have x7 := Lib.hid (x6.out.below hb (Nat.le_refl _))
        have y7 := Lib.hid (y6.out.below hb (Nat.le_refl _))
        have p7 := Lib.hid (own_below p6.out hb (Nat.le_refl _))
        have q7 := Lib.hid (own_below q6.out hb (Nat.le_refl _))
        clear hlt hjm e1 ho x6 y6 p6 q6 s6 l6
        clear b6 hb
        go_wp2_with fail
        go_quiet (fail)
        have k13 : Below wr.heap.size wr (wr.drewN nq) := below_drewN (Below.refl _ _) nq
        generalize wr.drewN nq = w12 at k13 ⊢
        go_wp2_with fail
        have bb12 := below_step bb k13
        have ST12 := Lib.hid (ST.out.below k13 (Nat.le_refl _))
        have x12 := Lib.hid (x7.out.below k13 (Nat.le_refl _))
        have y12 := Lib.hid (y7.out.below k13 (Nat.le_refl _))
        have p12 := Lib.hid (own_below p7.out k13 (Nat.le_refl _))
        have q12 := Lib.hid (own_below q7.out k13 (Nat.le_refl _))
        clear k13 bb ST x7 y7 p7 q7
        go_wp2_with (first
          | (go_at_call_of 34 (Value.slice A2 n2 c2); refine (KeptInts_any _ A2 n2 _ c2 ls _ (by exact sees_own q16.out) (by exact H2.out.below b16 (Nat.le_refl _)) (by have := HN.out; omega)).mono ?_; rintro e w17 ⟨rfl, k17⟩; have b17 := below_step b16 k17; have y17 := Lib.hid (y16.out.below k17 (Nat.le_refl _)); have l17 := Lib.hid (l16.out.below k17 (Nat.le_refl _)))
          | (go_at_call_of 34 (Value.slice A1 n1 c1); refine (KeptInts_any _ A1 n1 _ c1 cs _ (by exact sees_own p15.out) (by exact H1.out.below b15 (Nat.le_refl _)) (by have := HN.out; omega)).mono ?_; rintro e w16 ⟨rfl, k16⟩; have b16 := below_step b15 k16; have y16 := Lib.hid (y15.out.below k16 (Nat.le_refl _)); have l16 := Lib.hid (l15.out.below k16 (Nat.le_refl _)); have q16 := Lib.hid (own_below q15.out k16 (Nat.le_refl _)))
          | (go_at_call 18; refine (SameInts_any _ _ _ _ _ _ (D1.map (·.2)) (D1.map (·.2)) _ (by exact x14.out) (by exact d14.out)).mono ?_; rw [eqL_self]; rintro e w15 ⟨rfl, k15⟩; have b15 := below_step b14 k15; have y15 := Lib.hid (y14.out.below k15 (Nat.le_refl _)); have l15 := Lib.hid (l14.out.below k15 (Nat.le_refl _)); have p15 := Lib.hid (own_below p14.out k15 (Nat.le_refl _)); have q15 := Lib.hid (own_below q14.out k15 (Nat.le_refl _)))
          | (go_at_call 43; refine (refStamps_any _ _ _ _ _ _ _ cs ls _ (by exact H1.out.below b13 (Nat.le_refl _)) (by exact H2.out.below b13 (Nat.le_refl _)) (by have := HN.out; omega)).mono ?_; rw [HT.out]; rintro e w14 ⟨A14, c14, m14, rfl, o14, k14⟩; obtain rfl : m14 = m6 := same_len (sees_own o14) y13.out; have b14 := below_step b13 k14; have l14 := Lib.hid (sees_own o14); have d14 := Lib.hid (d13.out.below k14 (Nat.le_refl _)); have x14 := Lib.hid (x13.out.below k14 (Nat.le_refl _)); have y14 := Lib.hid (y13.out.below k14 (Nat.le_refl _)); have p14 := Lib.hid (own_below p13.out k14 (Nat.le_refl _)); have q14 := Lib.hid (own_below q13.out k14 (Nat.le_refl _)))
          | (go_at_call 42; refine (refDeltas_any _ _ _ _ st _ (by exact ST12.out) (by have := HN.out; have := HJ.out; omega)).mono ?_; rw [HD.out]; rintro e w13 ⟨A13, c13, m13, rfl, o13, k13⟩; have b13 := below_step bb12 k13; have d13 := Lib.hid (sees_own o13); have x13 := Lib.hid (x12.out.below k13 (Nat.le_refl _)); have y13 := Lib.hid (y12.out.below k13 (Nat.le_refl _)); have p13 := Lib.hid (own_below p12.out k13 (Nat.le_refl _)); have q13 := Lib.hid (own_below q12.out k13 (Nat.le_refl _))))
        have hm6 : m14 ≤ 10000 := by have h1 := y17.out.len; have h2 := T1_len HT.out; have := HN.out; have := HL1.out; rw [flat_len] at h1; omega
        have hmi : (m14 : Int) ≤ 10000 := by omega
        have HTL : Hid (T1.length = m14) := Lib.hid (by have h1 := y17.out.len; rw [flat_len] at h1; omega)
        clear y12 y13 y14 y15 y16 l14 l15 l16 x12 x13 x14 d13 d14 p12 p13 p14 p15 q12 q13 q14 q15 q16 b13 b14 b15 b16 bb12 ST12
        go_loopw [164] (fun i wq => ∃ jj : Nat, i = .int .i64 (jj : Int) ∧ jj ≤ m14 ∧ Below w17.heap.size w17 wq) (fun i _ => m14 - (intOf i).toNat)
        case atStart => exact ⟨0, rfl, Nat.zero_le _, Below.refl _ _⟩
        case round =>
          obtain ⟨jj, rfl, hjj, hbq⟩ := hrel
          by_cases hlt : jj < m14
          · obtain ⟨by1, oy1, hA, g1, g2⟩ := (y17.out.below hbq (Nat.le_refl _)).stamp hlt
            cases hA
            obtain ⟨bl1, ol1, hA, e1, e2⟩ := (l17.out.below hbq (Nat.le_refl _)).stamp hlt
            cases hA
            obtain ⟨x, hx⟩ : ∃ x, (T1.getD jj (0, 0)).1 = x := ⟨_, rfl⟩
            obtain ⟨y, hy⟩ : ∃ x, (T1.getD jj (0, 0)).2 = x := ⟨_, rfl⟩
            rw [hx] at g1 e1
            rw [hy] at g2 e2
            have hj2 : (jj : Int) < (m14 : Int) := by omega
            clear hx hy
            go_wp2_with fail
            go_quiet (fail)
            go_wp2
            go_roundw
            case rel => exact ⟨jj + 1, by go_num, by omega, below_drewN hbq _⟩
            case measure => simp [intOf]; omega
          · obtain rfl : jj = m14 := by omega
            clear hlt
            go_wp2
            go_ret
            exact ⟨rfl, below_step b17 hbq⟩

set_option maxRecDepth 100000 in
set_option maxHeartbeats 6400000 in
theorem tells_any (n : Int) (A A1 A2 : Option Addr) (m c n1 c1 n2 c2 : Nat) (st : List (Int × Int)) (cs ls : List Int) (w : World) (h : Sees w 2 A m c (flat st)) (h1 : Sees w 1 A1 n1 c1 (cs.map (Value.int .i64))) (h2 : Sees w 1 A2 n2 c2 (ls.map (Value.int .i64))) :
    Calls Try.prog 22 #[.int .i64 n, .slice A m c, .slice A1 n1 c1, .slice A2 n2 c2] w fun e w' => e = .returned (.bool true) ∧ Below w.heap.size w w' := by
  by_cases hb0 : 100 < m ∨ 100 < n1 ∨ 100 < n2
  · have HS := Lib.hid h
    have H1 := Lib.hid h1
    have H2 := Lib.hid h2
    clear h h1 h2
    by_cases hc0 : 100 < m
    · have d1 : decide ((100 : Int) < (m : Int)) = true := by simp; omega
      have d1' : decide (100 < m) = true := by simp; omega
      clear hc0
      go_enter Try.func22, Try.ntmps22
      go_wp2
      go_ret
      exact ⟨rfl, Below.refl _ _⟩
    have d1 : decide ((100 : Int) < (m : Int)) = false := by simp; omega
    have d1' : decide (100 < m) = false := by simp; omega
    by_cases hb1 : 100 < n1
    · have d2 : decide ((100 : Int) < (n1 : Int)) = true := by simp; omega
      have d2' : decide (100 < n1) = true := by simp; omega
      clear hc0 hb1
      go_enter Try.func22, Try.ntmps22
      go_wp2
      go_ret
      exact ⟨rfl, Below.refl _ _⟩
    have d2 : decide ((100 : Int) < (n1 : Int)) = false := by simp; omega
    have d2' : decide (100 < n1) = false := by simp; omega
    by_cases hb2 : 100 < n2
    · have d3 : decide ((100 : Int) < (n2 : Int)) = true := by simp; omega
      have d3' : decide (100 < n2) = true := by simp; omega
      clear hc0 hb1 hb2
      go_enter Try.func22, Try.ntmps22
      go_wp2
      go_ret
      exact ⟨rfl, Below.refl _ _⟩
    have d3 : decide ((100 : Int) < (n2 : Int)) = false := by simp; omega
    have d3' : decide (100 < n2) = false := by simp; omega
    omega
  · by_cases hr : 1 ≤ n ∧ n ≤ 64
    · exact tells_good n A A1 A2 m c n1 c1 n2 c2 st cs ls w h h1 h2 (by omega) hr
    · exact tells_bad n A A1 A2 m c n1 c1 n2 c2 st cs ls w h h1 h2 (by omega) hr

set_option maxRecDepth 20000 in
theorem ClockTells_any (n : Int) (A A1 A2 : Option Addr) (m c n1 c1 n2 c2 : Nat) (st : List (Int × Int)) (cs ls : List Int) (w : World) (h : Sees w 2 A m c (flat st)) (h1 : Sees w 1 A1 n1 c1 (cs.map (Value.int .i64))) (h2 : Sees w 1 A2 n2 c2 (ls.map (Value.int .i64))) :
    Calls Try.prog 7 #[.int .i64 n, .slice A m c, .slice A1 n1 c1, .slice A2 n2 c2] w fun e w' => e = .returned (.bool true) ∧ Below w.heap.size w w' := by
  go_enter Try.func7, Try.ntmps7
  go_wp2_with (first
    | (go_at_call 11; refine (awake_any _).mono ?_; rintro e w2 ⟨rfl, k2⟩; have b2 := below_step b1 k2)
    | (go_at_call 22; refine (tells_any n _ _ _ _ _ _ _ _ _ st cs ls _ h h1 h2).mono ?_; rintro e w1 ⟨rfl, b1⟩))
  go_ret
  exact ⟨rfl, b2⟩
end Go.Proofs.Ytllbcohfelgamaa
