/- Walks: the law's tells. -/
import Derived.Test.YtllbcohfelgamaaProg
import Derived.Test.YtllbcohfelgamaaCw
import Derived.Test.YtllbcohfelgamaaCu
namespace Go.Proofs.Ytllbcohfelgamaa
open Go.RowKit
set_option linter.unusedVariables false

theorem flat_one (st : List (Int × Int)) : ∀ u ∈ flat st, u.oneCell' = true := by
  intro u hu
  induction st with
  | nil => cases hu
  | cons s r ih =>
    rw [flat_cons] at hu
    simp at hu
    rcases hu with rfl | rfl | hu
    · rfl
    · rfl
    · exact ih hu
theorem lent_pre {w : World} {base e n c : Nat} {A : Option Addr} {l ys : List Int} (h : w.ownsRow base e 1 (.slice A (n + 12) c) (n + 12) ((l ++ ys).map (Value.int .i64))) (hl : l.length = n) : Sees w 1 A n c (l.map (Value.int .i64)) := by
  have := sees_own h
  rw [List.map_append] at this
  exact this.take (by rw [List.length_map, hl]; omega) (by omega)
theorem own_form0 {w : World} {base e s n m : Nat} {A : Option Addr} {c : Nat} {xs ys : List Value} (h : w.ownsRow base e s (.slice A (0 + n) c) (0 + n) ([] ++ xs)) : w.ownsRow base e s (.slice A n c) n xs := by
  rw [Nat.zero_add, List.nil_append] at h; exact h

theorem runE_len (f : List Int → Int → Int → List Int × Int × Int) : ∀ (ps : List (Int × Int)) (xs : List Int) (acc : List (Int × Int)), (runE f ps xs acc).1.length ≤ acc.length + ps.length
  | [], xs, acc => by simp [runE]
  | (c, t) :: r, xs, acc => by
    rw [runE]
    split
    · have := runE_len f r (f xs c t).1 (acc ++ [(c, (f xs c t).2.1)])
      simp at this ⊢
      omega
    · simp
theorem T1_len {n : Int} {cs ls : List Int} {T1 : List (Int × Int)} {Te : Int} (h : eachF tickF n cs ls = (T1, Te)) : T1.length ≤ cs.length := by
  have e : T1 = (eachF tickF n cs ls).1 := by rw [h]
  subst e
  unfold eachF
  split
  · simp
  · have := runE_len tickF (cs.zip ls) (List.replicate n.toNat 0) []
    simp at this ⊢
    omega
theorem same_len {w w' : World} {A B : Option Addr} {n m c d : Nat} {T : List (Int × Int)} (h1 : Sees w 2 A n c (flat T)) (h2 : Sees w' 2 B m d (flat T)) : n = m := by
  have e1 := h1.len
  have e2 := h2.len
  omega
theorem wp_mkF {P : Program} {t e : TypeId} {K : IntKind} {bytes : Nat} (E : Elem P t e (.int K 0) 1 bytes) {o : Oper} {a : Act} {KK : Act → World → Prop} {Q : Exit → Act → World → Prop} {w : World}
    (l c : Operand) (hop : o.op = Op.makeSlice t l c) {kl kc : IntKind} (n : Nat) {L C : Int} (hl : a.eval l = .int kl L) (hc : a.eval c = .int kc C) (hL : L = (n : Int)) (hC : C = (n : Int)) (b2 : bytes * n ≤ 281474976710656) (b3 : n ≤ maxLen)
    (hK : ∀ w', w'.ownsRow w.heap.size e 1 (.slice (some ⟨w.heap.size, 0, none⟩) n n) n ((List.replicate n (0 : Int)).map (Value.int K)) → Below w.heap.size w w' → KK (a.put o.dst (.slice (some ⟨w.heap.size, 0, none⟩) n n)) w') : o.wp P a w KK Q := by
  obtain ⟨ht, hz, hs, i, hi, hz0, hz1, hz2⟩ := E
  obtain ⟨w', hrun, r1, r2⟩ := run_make_full (P := P) w w.heap.size t e i (.int K 0) 1 ht hi hz0 hz1 kl kc n (by rw [hz2]; exact b2) b3 (Nat.le_refl _)
  subst hL
  subst hC
  rw [made_zeros] at r1
  unfold Oper.wp
  simp [execOp, hop, hl, hc, hrun, Result.andThen]
  exact hK w' r1 ((Below.refl _ w).grown r2 (Nat.le_refl _) (fun k hk => by cases hk))

set_option maxRecDepth 100000 in
set_option maxHeartbeats 6400000 in
theorem tells_good (n : Int) (A A1 A2 : Option Addr) (m c n1 c1 n2 c2 : Nat) (st : List (Int × Int)) (cs ls : List Int) (w : World) (h : Sees w 2 A m c (flat st)) (h1 : Sees w 1 A1 n1 c1 (cs.map (Value.int .i64))) (h2 : Sees w 1 A2 n2 c2 (ls.map (Value.int .i64))) (hb : m ≤ 100 ∧ n1 ≤ 100 ∧ n2 ≤ 100) (hr : 1 ≤ n ∧ n ≤ 64) :
    Calls Try.prog 22 #[.int .i64 n, .slice A m c, .slice A1 n1 c1, .slice A2 n2 c2] w fun e w' => e = .returned (.bool true) ∧ Below w.heap.size w w' := by
  have HS := Lib.hid h
  have H1 := Lib.hid h1
  have H2 := Lib.hid h2
  have d1 : decide ((100 : Int) < (m : Int)) = false := by simp; omega
  have d1' : decide (100 < m) = false := by simp; omega
  have d2 : decide ((100 : Int) < (n1 : Int)) = false := by simp; omega
  have d2' : decide (100 < n1) = false := by simp; omega
  have d3 : decide ((100 : Int) < (n2 : Int)) = false := by simp; omega
  have d3' : decide (100 < n2) = false := by simp; omega
  have HN : Hid (m ≤ 100 ∧ n1 ≤ 100 ∧ n2 ≤ 100) := Lib.hid (by omega)
  have hm2 : (m : Int) ≤ 100 := by omega
  have HL : Hid (st.length = m) := Lib.hid (by have := HS.out.len; rw [flat_len] at this; omega)
  have HL1 := Lib.hid H1.out.length
  have HL2 := Lib.hid H2.out.length
  obtain ⟨D1, De, hD⟩ : ∃ D1 De, eachF untilF n (st.map (·.1)) (st.map (·.2)) = (D1, De) := ⟨_, _, rfl⟩
  obtain ⟨T1, Te, hT⟩ : ∃ T1 Te, eachF tickF n cs ls = (T1, Te) := ⟨_, _, rfl⟩
  have HD := Lib.hid hD
  have HT := Lib.hid hT
  clear hD hT h h1 h2 hb
  obtain ⟨N, rfl⟩ : ∃ N : Nat, n = (N : Int) := ⟨n.toNat, by omega⟩
  have HR : Hid (1 ≤ N ∧ N ≤ 64) := Lib.hid (by omega)
  have r1 : decide ((1 : Int) ≤ (N : Int)) = true := by simp; omega
  have r2 : decide ((N : Int) ≤ 64) = true := by simp; omega
  have hN3 : (N : Int) ≤ 64 := by omega
  clear hr
  go_enter Try.func22, Try.ntmps22
  go_wp2_with (first
    | (go_at_call 23; refine (Stamps_any _ _ _ _ _ _ _ cs ls _ (by exact p5.out) (by exact q5.out) (by have := HN.out; omega)).mono ?_; rw [HT.out]; rintro e w6 ⟨A6, c6, m6, rfl, o6, k6⟩; have b6 := below_step b5 k6; have y6 := Lib.hid (sees_own o6); have h6 := Lib.hid (h5.out.below k6); have s6 := Lib.hid (s5.out.below k6 (Nat.le_refl _)); have x6 := Lib.hid (x5.out.below k6 (Nat.le_refl _)); have p6 := Lib.hid (own_below pp5.out k6 (Nat.le_refl _)); have q6 := Lib.hid (own_below qq5.out k6 (Nat.le_refl _)))
    | (go_at_call 24; refine (Deltas_any _ _ _ _ st _ (by exact s4.out) (by have := HN.out; omega)).mono ?_; rw [HD.out]; rintro e w5 ⟨A5, c5, m5, rfl, o5, k5⟩; have b5 := below_step b4 k5; have x5 := Lib.hid (sees_own o5); have h5 := Lib.hid (h4.out.below k5); have s5 := Lib.hid (s4.out.below k5 (Nat.le_refl _)); have pp5 := Lib.hid (own_below pp4.out k5 (Nat.le_refl _)); have qq5 := Lib.hid (own_below qq4.out k5 (Nat.le_refl _)); have p5 := Lib.hid (p4.out.below k5 (Nat.le_refl _)); have q5 := Lib.hid (q4.out.below k5 (Nat.le_refl _)))
    | (go_at_call 12; refine (New_any N _ HR.out).mono ?_; rintro e w4 ⟨p, g, c4, rfl, h4, k4⟩; have b4 := below_step b3 k4; have h4 := Lib.hid h4; have s4 := Lib.hid (s3.out.below k4 (Nat.le_refl _)); have pp4 := Lib.hid (own_below pp3.out k4 (Nat.le_refl _)); have qq4 := Lib.hid (own_below qq3.out k4 (Nat.le_refl _)); have p4 := Lib.hid (lent_pre pp4.out HL1.out); have q4 := Lib.hid (lent_pre qq4.out HL2.out))
    | (go_at_call_of 33 (Value.slice A2 n2 c2); refine (LentInts_any A2 n2 c2 ls _ (by exact H2.out.below b2 (Nat.le_refl _)) (by have := HN.out; omega)).mono ?_; rintro e w3 ⟨Aq, cq, rfl, oq, k3⟩; have b3 := below_step b2 k3; have qq3 := Lib.hid oq; have pp3 := Lib.hid (own_below pp2.out k3 (Nat.le_refl _)); have s3 := Lib.hid (s2.out.below k3 (Nat.le_refl _)))
    | (go_at_call_of 33 (Value.slice A1 n1 c1); refine (LentInts_any A1 n1 c1 cs _ (by exact H1.out.below b1 (Nat.le_refl _)) (by have := HN.out; omega)).mono ?_; rintro e w2 ⟨Ap, cp, rfl, op, k2⟩; have b2 := below_step b1 k2; have pp2 := Lib.hid op; have s2 := Lib.hid (s1.out.below k2 (Nat.le_refl _)))
    | (at_builtin; refine wpList_app E_stamp rfl _ _ rfl rfl (World.ownsRow_lit (base := w.heap.size) (e := 52) (size := 2) w #[] 0 (Nat.le_refl _) (by decide) rfl) rfl (HS.out.below ((Below.refl _ _).alloc (Nat.le_refl _) _) (Nat.le_refl _)) (flat_one _) (by have := HN.out; simp [maxLen]; omega) (by have := HN.out; omega) (by simp) ?_; intro A3 c3 w1 o1 g1 k1; rw [Nat.zero_add, List.nil_append] at o1; have b1 := ((Below.refl w.heap.size w).alloc (Nat.le_refl _) (.cells #[] 52)).trans k1; have s1 := Lib.hid (sees_own o1); clear o1 g1 k1))
  have l6 := Lib.hid (HS.out.below b6 (Nat.le_refl _))
  have hz6 : w.heap.size ≤ w6.heap.size := b6.size
  clear d1 d1' d2 d2' d3 d3' b1 b2 b3 b4 b5
  go_loopw [18, 67] (fun v i wr => ∃ (j cA : Nat) (A' : Option Addr), Hid (j ≤ m) ∧ i = .int .i64 (j : Int) ∧ v = .slice A' j cA ∧ wr.ownsRow w6.heap.size 72 2 (.slice A' j cA) j (flat (st.take j)) ∧ Below w6.heap.size w6 wr) (fun _ i _ => m - (intOf i).toNat)
  case atStart => exact ⟨0, 0, none, Lib.hid (Nat.zero_le _), rfl, rfl, World.ownsRow_nil _ _ _ _, Below.refl _ _⟩
  case round =>
    obtain ⟨j, cA, A', HJ, rfl, rfl, ho, hb⟩ := hrel
    by_cases hlt : j < m
    · obtain ⟨ba, oa, hA, g1, g2⟩ := (l6.out.below hb (Nat.le_refl _)).stamp hlt
      cases hA
      obtain ⟨bo, oo, hA, e1, e2⟩ := (s6.out.below hb (Nat.le_refl _)).stamp hlt
      cases hA
      have hjl : j < st.length := by rw [HL.out]; exact hlt
      have hsn : st.take (j + 1) = st.take j ++ [st.getD j (0, 0)] := by
        rw [List.take_succ_eq_append_getElem hjl]; simp [List.getD, hjl]
      obtain ⟨x, hx⟩ : ∃ x, (st.getD j (0, 0)).1 = x := ⟨_, rfl⟩
      obtain ⟨y, hy⟩ : ∃ x, (st.getD j (0, 0)).2 = x := ⟨_, rfl⟩
      rw [show st.getD j (0, 0) = (x, y) from Prod.ext hx hy] at hsn
      rw [hx] at g1 e1
      rw [hy] at g2 e2
      have HSN := Lib.hid hsn
      have k1 := blt_of_cell e1
      have k2 := blt_of_cell g1
      have d3 : decide ((j : Int) < (m : Int)) = true := by simp; omega
      have hj2 : (j : Int) < (m : Int) := by omega
      have hj3 : (j : Int) ≤ 99 := by omega
      have HLT := Lib.hid hlt
      have hsz := hb.size
      clear hsn hlt hx hy hjl
      go_wp2_with fail
      go_quiet (fail)
      have z0 : ((wr.alloc (.cells #[.int .i64 x, .int .i64 y] 52)).drewN nq).cell? ⟨wr.heap.size, 0, none⟩ = some (.int .i64 x) := by simp
      have z1 : ((wr.alloc (.cells #[.int .i64 x, .int .i64 y] 52)).drewN nq).cell? ⟨wr.heap.size, 1, none⟩ = some (.int .i64 y) := by simp
      have b9 : Below wr.heap.size wr ((wr.alloc (.cells #[.int .i64 x, .int .i64 y] 52)).drewN nq) := below_drewN ((Below.refl _ _).alloc (Nat.le_refl _) _) _
      have o9 := own_below ho b9 (Nat.le_refl _)
      have hb9 := below_step hb b9
      have hsz9 := hb9.size
      clear g1 g2 e1 e2 k1 k2 b9
      generalize (wr.alloc (.cells #[.int .i64 x, .int .i64 y] 52)).drewN nq = w9 at z0 z1 o9 hb9 hsz9 ⊢
      go_wp2_with (at_builtin; refine wpList_app E_rst rfl _ _ rfl rfl (o9.alloc _) rfl (sees_block2 (w := w9.alloc (.cells #[.int .i64 x, .int .i64 y] 72)) (g := w9.heap.size) (st := [(x, y)]) (heap_alloc_new _ _) rfl (by simp [maxLen])) (flat_one _) (by simp [maxLen]; omega) (by omega) (by simp; omega) ?_; intro A4 c4 w4 hown4 hg4 hb4)
      go_roundw
      case rel =>
        refine ⟨j + 1, c4, A4, Lib.hid HLT.out, by go_num, rfl, ?_, (hb9.alloc hsz9 _).trans hb4⟩
        rw [HSN.out, flat_app]
        exact hown4
      case measure => have := HLT.out; simp [intOf]; omega
    · have hjm : j = m := by have := HJ.out; omega
      have d3 : decide ((j : Int) < (m : Int)) = false := by simp; omega
      have d3' : decide (j < m) = false := by simp; omega
      have e1 : st.take j = st := List.take_of_length_le (by rw [HL.out, hjm]; exact Nat.le_refl _)
      rw [e1] at ho
      have HJM := Lib.hid hjm
      have ST := Lib.hid (sees_own ho)
      have bb := b6.trans (hb.mono hz6)
      have h7 := Lib.hid (h6.out.below hb)
      have x7 := Lib.hid (x6.out.below hb (Nat.le_refl _))
      have y7 := Lib.hid (y6.out.below hb (Nat.le_refl _))
      have p7 := Lib.hid (own_below p6.out hb (Nat.le_refl _))
      have q7 := Lib.hid (own_below q6.out hb (Nat.le_refl _))
      clear hlt hjm e1 ho hb h6 x6 y6 p6 q6 s6 l6 b6
      go_wp2_with fail
      refine wp_region_any (by kernel_rfl) ?_
      change wpAny _ _ _ _ _ _ _ (World.drew _)
      refine wpAny_take (i := 0) (v := (.bool true)) rfl (by kernel_rfl) (by kernel_rfl) (by kernel_rfl) (fun _ _ _ h => h) (Or.inl ⟨by rfl, fun w => by go_simp⟩) ?_
      simp only [Act.put, List.getElem_toArray, List.getElem_cons_succ, List.getElem_cons_zero, List.setIfInBounds_toArray, List.set_cons_succ, List.set_cons_zero]
      refine wpAny_take (i := 1) (v := (.int .i64 0)) rfl (by kernel_rfl) (by kernel_rfl) (by kernel_rfl) (fun _ _ _ h => h) (Or.inl ⟨by rfl, fun w => by go_simp⟩) ?_
      simp only [Act.put, List.getElem_toArray, List.getElem_cons_succ, List.getElem_cons_zero, List.setIfInBounds_toArray, List.set_cons_succ, List.set_cons_zero]
      refine wpAny_take (i := 2) (v := (.bool true)) rfl (by kernel_rfl) (by kernel_rfl) (by kernel_rfl) (fun _ _ _ h => h) (Or.inl ⟨by rfl, fun w => by go_simp⟩) ?_
      simp only [Act.put, List.getElem_toArray, List.getElem_cons_succ, List.getElem_cons_zero, List.setIfInBounds_toArray, List.set_cons_succ, List.set_cons_zero]
      refine wpAny_take (i := 3) (v := (.bool false)) rfl (by kernel_rfl) (by kernel_rfl) (by kernel_rfl) (fun _ _ _ h => h) (Or.inl ⟨by rfl, fun w => by go_simp⟩) ?_
      simp only [Act.put, List.getElem_toArray, List.getElem_cons_succ, List.getElem_cons_zero, List.setIfInBounds_toArray, List.set_cons_succ, List.set_cons_zero]
      refine wpAny_take (i := 4) (v := (.bool false)) rfl (by kernel_rfl) (by kernel_rfl) (by kernel_rfl) (fun _ _ _ h => h) (Or.inl ⟨by rfl, fun w => by go_simp⟩) ?_
      simp only [Act.put, List.getElem_toArray, List.getElem_cons_succ, List.getElem_cons_zero, List.setIfInBounds_toArray, List.set_cons_succ, List.set_cons_zero]
      refine wpAny_take (i := 5) (v := (.bool true)) rfl (by kernel_rfl) (by kernel_rfl) (by kernel_rfl) (fun _ _ _ h => h) (Or.inl ⟨by rfl, fun w => by go_simp⟩) ?_
      simp only [Act.put, List.getElem_toArray, List.getElem_cons_succ, List.getElem_cons_zero, List.setIfInBounds_toArray, List.set_cons_succ, List.set_cons_zero]
      refine wpAny_take (i := 6) (v := (.bool true)) rfl (by kernel_rfl) (by kernel_rfl) (by kernel_rfl) (fun _ _ _ h => h) (Or.inl ⟨by rfl, fun w => by go_simp⟩) ?_
      simp only [Act.put, List.getElem_toArray, List.getElem_cons_succ, List.getElem_cons_zero, List.setIfInBounds_toArray, List.set_cons_succ, List.set_cons_zero]
      refine wpAny_take (i := 7) (v := (.pointer (some ⟨p, 0, none⟩))) rfl (by kernel_rfl) (by kernel_rfl) (by kernel_rfl) (fun _ _ _ h => h) (Or.inl ⟨by rfl, fun w => by go_simp⟩) ?_
      simp only [Act.put, List.getElem_toArray, List.getElem_cons_succ, List.getElem_cons_zero, List.setIfInBounds_toArray, List.set_cons_succ, List.set_cons_zero]
      refine wpAny_take (i := 9) (v := (.int .i64 (N : Int))) rfl (by kernel_rfl) (by kernel_rfl) (by kernel_rfl) (fun _ _ _ h => h) (Or.inl ⟨by rfl, fun w => by go_simp⟩) ?_
      simp only [Act.put, List.getElem_toArray, List.getElem_cons_succ, List.getElem_cons_zero, List.setIfInBounds_toArray, List.set_cons_succ, List.set_cons_zero]
      refine wpAny_ready (rs := [8, 10]) (by kernel_rfl) (by simp) ?_
      refine AllReady.cons rfl (fun K hK => ?_) (AllReady.cons rfl (fun K hK => ?_) AllReady.nil)
      · go_simp
        refine (All_any _ _ _ _ _ _ _ (h7.out.below ((Below.refl _ _).drew)) (by have := HR.out; omega)).mono ?_
        rintro e w10 ⟨A10, c10, rfl, o10, k10⟩
        refine hK _ _ ?_
        try simp only [Act.put, List.getElem_toArray, List.getElem_cons_succ, List.getElem_cons_zero, List.setIfInBounds_toArray, List.set_cons_succ, List.set_cons_zero]
        refine wpAny_ready (rs := [10]) (by kernel_rfl) (by simp) ?_
        refine AllReady.cons rfl (fun K hK => ?_) AllReady.nil
        refine wp_mkF E_int (.tmp 98) (.tmp 98) rfl N rfl rfl rfl rfl (by have := HR.out; omega) (by have := HR.out; simp [maxLen]; omega) ?_
        intro w11 o11 k11
        refine hK _ _ ?_
        try simp only [Act.put, List.getElem_toArray, List.getElem_cons_succ, List.getElem_cons_zero, List.setIfInBounds_toArray, List.set_cons_succ, List.set_cons_zero]
        have k11' := below_step (below_step ((Below.refl wr.heap.size wr).drew) k10) k11
        refine wpAny_ready (rs := [11]) (by kernel_rfl) (by simp) ?_
        refine AllReady.cons rfl (fun K hK => ?_) AllReady.nil
        go_simp
        refine (SameInts_any _ _ _ _ _ _ (List.replicate N 0) (List.replicate N 0) _ ((sees_own o10).below k11 (Nat.le_refl _)) (sees_own o11)).mono ?_
        rw [eqL_self]
        rintro e w12 ⟨rfl, k12⟩
        refine hK _ _ ?_
        try simp only [Act.put, List.getElem_toArray, List.getElem_cons_succ, List.getElem_cons_zero, List.setIfInBounds_toArray, List.set_cons_succ, List.set_cons_zero]
        refine wpAny_take (i := 12) (v := (.bool false)) rfl (by kernel_rfl) (by kernel_rfl) (by kernel_rfl) (fun _ _ _ h => h) (Or.inl ⟨by rfl, fun w => by go_simp⟩) ?_
        simp only [Act.put, List.getElem_toArray, List.getElem_cons_succ, List.getElem_cons_zero, List.setIfInBounds_toArray, List.set_cons_succ, List.set_cons_zero]
        refine wpAny_take (i := 13) (v := (.bool false)) rfl (by kernel_rfl) (by kernel_rfl) (by kernel_rfl) (fun _ _ _ h => h) (Or.inl ⟨by rfl, fun w => by go_simp⟩) ?_
        simp only [Act.put, List.getElem_toArray, List.getElem_cons_succ, List.getElem_cons_zero, List.setIfInBounds_toArray, List.set_cons_succ, List.set_cons_zero]
        refine wpAny_take (i := 14) (v := (.bool false)) rfl (by kernel_rfl) (by kernel_rfl) (by kernel_rfl) (fun _ _ _ h => h) (Or.inl ⟨by rfl, fun w => by go_simp⟩) ?_
        simp only [Act.put, List.getElem_toArray, List.getElem_cons_succ, List.getElem_cons_zero, List.setIfInBounds_toArray, List.set_cons_succ, List.set_cons_zero]
        refine wpAny_take (i := 15) (v := (.bool false)) rfl (by kernel_rfl) (by kernel_rfl) (by kernel_rfl) (fun _ _ _ h => h) (Or.inl ⟨by rfl, fun w => by go_simp⟩) ?_
        simp only [Act.put, List.getElem_toArray, List.getElem_cons_succ, List.getElem_cons_zero, List.setIfInBounds_toArray, List.set_cons_succ, List.set_cons_zero]
        refine wpAny_take (i := 16) (v := (.bool true)) rfl (by kernel_rfl) (by kernel_rfl) (by kernel_rfl) (fun _ _ _ h => h) (Or.inl ⟨by rfl, fun w => by go_simp⟩) ?_
        simp only [Act.put, List.getElem_toArray, List.getElem_cons_succ, List.getElem_cons_zero, List.setIfInBounds_toArray, List.set_cons_succ, List.set_cons_zero]
        refine wpAny_take (i := 17) (v := (.bool false)) rfl (by kernel_rfl) (by kernel_rfl) (by kernel_rfl) (fun _ _ _ h => h) (Or.inl ⟨by rfl, fun w => by go_simp⟩) ?_
        simp only [Act.put, List.getElem_toArray, List.getElem_cons_succ, List.getElem_cons_zero, List.setIfInBounds_toArray, List.set_cons_succ, List.set_cons_zero]
        refine wpAny_take (i := 18) (v := (.bool false)) rfl (by kernel_rfl) (by kernel_rfl) (by kernel_rfl) (fun _ _ _ h => h) (Or.inl ⟨by rfl, fun w => by go_simp⟩) ?_
        simp only [Act.put, List.getElem_toArray, List.getElem_cons_succ, List.getElem_cons_zero, List.setIfInBounds_toArray, List.set_cons_succ, List.set_cons_zero]
        refine wpAny_take (i := 19) (v := undef) rfl (by kernel_rfl) (by kernel_rfl) (by kernel_rfl) (fun _ _ _ h => h) (Or.inr ⟨by rfl, rfl⟩) ?_
        simp only [Act.put, List.getElem_toArray, List.getElem_cons_succ, List.getElem_cons_zero, List.setIfInBounds_toArray, List.set_cons_succ, List.set_cons_zero]
        refine wpAny_take (i := 20) (v := undef) rfl (by kernel_rfl) (by kernel_rfl) (by kernel_rfl) (fun _ _ _ h => h) (Or.inr ⟨by rfl, rfl⟩) ?_
        simp only [Act.put, List.getElem_toArray, List.getElem_cons_succ, List.getElem_cons_zero, List.setIfInBounds_toArray, List.set_cons_succ, List.set_cons_zero]
        refine wpAny_take (i := 21) (v := undef) rfl (by kernel_rfl) (by kernel_rfl) (by kernel_rfl) (fun _ _ _ h => h) (Or.inr ⟨by rfl, rfl⟩) ?_
        simp only [Act.put, List.getElem_toArray, List.getElem_cons_succ, List.getElem_cons_zero, List.setIfInBounds_toArray, List.set_cons_succ, List.set_cons_zero]
        refine wpAny_take (i := 22) (v := undef) rfl (by kernel_rfl) (by kernel_rfl) (by kernel_rfl) (fun _ _ _ h => h) (Or.inr ⟨by rfl, rfl⟩) ?_
        simp only [Act.put, List.getElem_toArray, List.getElem_cons_succ, List.getElem_cons_zero, List.setIfInBounds_toArray, List.set_cons_succ, List.set_cons_zero]
        refine wpAny_take (i := 23) (v := undef) rfl (by kernel_rfl) (by kernel_rfl) (by kernel_rfl) (fun _ _ _ h => h) (Or.inr ⟨by rfl, rfl⟩) ?_
        simp only [Act.put, List.getElem_toArray, List.getElem_cons_succ, List.getElem_cons_zero, List.setIfInBounds_toArray, List.set_cons_succ, List.set_cons_zero]
        refine wpAny_take (i := 24) (v := undef) rfl (by kernel_rfl) (by kernel_rfl) (by kernel_rfl) (fun _ _ _ h => h) (Or.inr ⟨by rfl, rfl⟩) ?_
        simp only [Act.put, List.getElem_toArray, List.getElem_cons_succ, List.getElem_cons_zero, List.setIfInBounds_toArray, List.set_cons_succ, List.set_cons_zero]
        refine wpAny_take (i := 25) (v := (.bool false)) rfl (by kernel_rfl) (by kernel_rfl) (by kernel_rfl) (fun _ _ _ h => h) (Or.inl ⟨by rfl, fun w => by go_simp⟩) ?_
        simp only [Act.put, List.getElem_toArray, List.getElem_cons_succ, List.getElem_cons_zero, List.setIfInBounds_toArray, List.set_cons_succ, List.set_cons_zero]
        refine wpAny_take (i := 26) (v := (.bool false)) rfl (by kernel_rfl) (by kernel_rfl) (by kernel_rfl) (fun _ _ _ h => h) (Or.inl ⟨by rfl, fun w => by go_simp⟩) ?_
        simp only [Act.put, List.getElem_toArray, List.getElem_cons_succ, List.getElem_cons_zero, List.setIfInBounds_toArray, List.set_cons_succ, List.set_cons_zero]
        refine wpAny_done (by kernel_rfl) ?_ _
        have k13 := below_step k11' k12
        have bb12 := below_step bb k13
        have ST12 := Lib.hid (ST.out.below k13 (Nat.le_refl _))
        have x12 := Lib.hid (x7.out.below k13 (Nat.le_refl _))
        have y12 := Lib.hid (y7.out.below k13 (Nat.le_refl _))
        have p12 := Lib.hid (own_below p7.out k13 (Nat.le_refl _))
        have q12 := Lib.hid (own_below q7.out k13 (Nat.le_refl _))
        clear k13 k12 k11' k11 k10 o10 o11 bb ST x7 y7 p7 q7 h7
        go_wp2_with (first
          | (go_at_call_of 34 (Value.slice A2 n2 c2); refine (KeptInts_any _ A2 n2 _ c2 ls _ (by exact sees_own q16.out) (by exact H2.out.below b16 (Nat.le_refl _)) (by have := HN.out; omega)).mono ?_; rintro e w17 ⟨rfl, k17⟩; have b17 := below_step b16 k17; have y17 := Lib.hid (y16.out.below k17 (Nat.le_refl _)); have l17 := Lib.hid (l16.out.below k17 (Nat.le_refl _)))
          | (go_at_call_of 34 (Value.slice A1 n1 c1); refine (KeptInts_any _ A1 n1 _ c1 cs _ (by exact sees_own p15.out) (by exact H1.out.below b15 (Nat.le_refl _)) (by have := HN.out; omega)).mono ?_; rintro e w16 ⟨rfl, k16⟩; have b16 := below_step b15 k16; have y16 := Lib.hid (y15.out.below k16 (Nat.le_refl _)); have l16 := Lib.hid (l15.out.below k16 (Nat.le_refl _)); have q16 := Lib.hid (own_below q15.out k16 (Nat.le_refl _)))
          | (go_at_call 18; refine (SameInts_any _ _ _ _ _ _ (D1.map (·.2)) (D1.map (·.2)) _ (by exact x14.out) (by exact d14.out)).mono ?_; rw [eqL_self]; rintro e w15 ⟨rfl, k15⟩; have b15 := below_step b14 k15; have y15 := Lib.hid (y14.out.below k15 (Nat.le_refl _)); have l15 := Lib.hid (l14.out.below k15 (Nat.le_refl _)); have p15 := Lib.hid (own_below p14.out k15 (Nat.le_refl _)); have q15 := Lib.hid (own_below q14.out k15 (Nat.le_refl _)))
          | (go_at_call 43; refine (refStamps_any _ _ _ _ _ _ _ cs ls _ (by exact H1.out.below b13 (Nat.le_refl _)) (by exact H2.out.below b13 (Nat.le_refl _)) (by have := HN.out; omega)).mono ?_; rw [HT.out]; rintro e w14 ⟨A14, c14, m14, rfl, o14, k14⟩; obtain rfl : m14 = m6 := same_len (sees_own o14) y13.out; have b14 := below_step b13 k14; have l14 := Lib.hid (sees_own o14); have d14 := Lib.hid (d13.out.below k14 (Nat.le_refl _)); have x14 := Lib.hid (x13.out.below k14 (Nat.le_refl _)); have y14 := Lib.hid (y13.out.below k14 (Nat.le_refl _)); have p14 := Lib.hid (own_below p13.out k14 (Nat.le_refl _)); have q14 := Lib.hid (own_below q13.out k14 (Nat.le_refl _)))
          | (go_at_call 42; refine (refDeltas_any _ _ _ _ st _ (by exact ST12.out) (by have := HN.out; have := HJ.out; omega)).mono ?_; rw [HD.out]; rintro e w13 ⟨A13, c13, m13, rfl, o13, k13⟩; have b13 := below_step bb12 k13; have d13 := Lib.hid (sees_own o13); have x13 := Lib.hid (x12.out.below k13 (Nat.le_refl _)); have y13 := Lib.hid (y12.out.below k13 (Nat.le_refl _)); have p13 := Lib.hid (own_below p12.out k13 (Nat.le_refl _)); have q13 := Lib.hid (own_below q12.out k13 (Nat.le_refl _))))
        have hm6 : m14 ≤ 10000 := by have h1 := y17.out.len; have h2 := T1_len HT.out; have := HN.out; have := HL1.out; rw [flat_len] at h1; omega
        have hmi : (m14 : Int) ≤ 10000 := by omega
        have HTL : Hid (T1.length = m14) := Lib.hid (by have h1 := y17.out.len; rw [flat_len] at h1; omega)
        clear y12 y13 y14 y15 y16 l14 l15 l16 x12 x13 x14 d13 d14 p12 p13 p14 p15 q12 q13 q14 q15 q16 b13 b14 b15 b16 bb12 ST12
        go_loopw [164] (fun i wq => ∃ jj : Nat, i = .int .i64 (jj : Int) ∧ jj ≤ m14 ∧ Below w17.heap.size w17 wq) (fun i _ => m14 - (intOf i).toNat)
        case atStart => exact ⟨0, rfl, Nat.zero_le _, Below.refl _ _⟩
        case round =>
          obtain ⟨jj, rfl, hjj, hbq⟩ := hrel
          by_cases hlt : jj < m14
          · obtain ⟨by1, oy1, hA, g1, g2⟩ := (y17.out.below hbq (Nat.le_refl _)).stamp hlt
            cases hA
            obtain ⟨bl1, ol1, hA, e1, e2⟩ := (l17.out.below hbq (Nat.le_refl _)).stamp hlt
            cases hA
            obtain ⟨x, hx⟩ : ∃ x, (T1.getD jj (0, 0)).1 = x := ⟨_, rfl⟩
            obtain ⟨y, hy⟩ : ∃ x, (T1.getD jj (0, 0)).2 = x := ⟨_, rfl⟩
            rw [hx] at g1 e1
            rw [hy] at g2 e2
            have hj2 : (jj : Int) < (m14 : Int) := by omega
            clear hx hy
            go_wp2_with fail
            go_quiet (fail)
            go_wp2
            go_roundw
            case rel => exact ⟨jj + 1, by go_num, by omega, below_drewN hbq _⟩
            case measure => simp [intOf]; omega
          · obtain rfl : jj = m14 := by omega
            clear hlt
            go_wp2
            go_ret
            exact ⟨rfl, below_step b17 hbq⟩
      · refine wp_mkF E_int (.tmp 98) (.tmp 98) rfl N rfl rfl rfl rfl (by have := HR.out; omega) (by have := HR.out; simp [maxLen]; omega) ?_
        intro w11 o11 k11
        refine hK _ _ ?_
        try simp only [Act.put, List.getElem_toArray, List.getElem_cons_succ, List.getElem_cons_zero, List.setIfInBounds_toArray, List.set_cons_succ, List.set_cons_zero]
        refine wpAny_ready (rs := [8]) (by kernel_rfl) (by simp) ?_
        refine AllReady.cons rfl (fun K hK => ?_) AllReady.nil
        go_simp
        refine (All_any _ _ _ _ _ _ _ (h7.out.below (below_step ((Below.refl _ _).drew) k11)) (by have := HR.out; omega)).mono ?_
        rintro e w10 ⟨A10, c10, rfl, o10, k10⟩
        refine hK _ _ ?_
        try simp only [Act.put, List.getElem_toArray, List.getElem_cons_succ, List.getElem_cons_zero, List.setIfInBounds_toArray, List.set_cons_succ, List.set_cons_zero]
        have k11' := below_step (below_step ((Below.refl wr.heap.size wr).drew) k11) k10
        refine wpAny_ready (rs := [11]) (by kernel_rfl) (by simp) ?_
        refine AllReady.cons rfl (fun K hK => ?_) AllReady.nil
        go_simp
        refine (SameInts_any _ _ _ _ _ _ (List.replicate N 0) (List.replicate N 0) _ (sees_own o10) ((sees_own o11).below k10 (Nat.le_refl _))).mono ?_
        rw [eqL_self]
        rintro e w12 ⟨rfl, k12⟩
        refine hK _ _ ?_
        try simp only [Act.put, List.getElem_toArray, List.getElem_cons_succ, List.getElem_cons_zero, List.setIfInBounds_toArray, List.set_cons_succ, List.set_cons_zero]
        refine wpAny_take (i := 12) (v := (.bool false)) rfl (by kernel_rfl) (by kernel_rfl) (by kernel_rfl) (fun _ _ _ h => h) (Or.inl ⟨by rfl, fun w => by go_simp⟩) ?_
        simp only [Act.put, List.getElem_toArray, List.getElem_cons_succ, List.getElem_cons_zero, List.setIfInBounds_toArray, List.set_cons_succ, List.set_cons_zero]
        refine wpAny_take (i := 13) (v := (.bool false)) rfl (by kernel_rfl) (by kernel_rfl) (by kernel_rfl) (fun _ _ _ h => h) (Or.inl ⟨by rfl, fun w => by go_simp⟩) ?_
        simp only [Act.put, List.getElem_toArray, List.getElem_cons_succ, List.getElem_cons_zero, List.setIfInBounds_toArray, List.set_cons_succ, List.set_cons_zero]
        refine wpAny_take (i := 14) (v := (.bool false)) rfl (by kernel_rfl) (by kernel_rfl) (by kernel_rfl) (fun _ _ _ h => h) (Or.inl ⟨by rfl, fun w => by go_simp⟩) ?_
        simp only [Act.put, List.getElem_toArray, List.getElem_cons_succ, List.getElem_cons_zero, List.setIfInBounds_toArray, List.set_cons_succ, List.set_cons_zero]
        refine wpAny_take (i := 15) (v := (.bool false)) rfl (by kernel_rfl) (by kernel_rfl) (by kernel_rfl) (fun _ _ _ h => h) (Or.inl ⟨by rfl, fun w => by go_simp⟩) ?_
        simp only [Act.put, List.getElem_toArray, List.getElem_cons_succ, List.getElem_cons_zero, List.setIfInBounds_toArray, List.set_cons_succ, List.set_cons_zero]
        refine wpAny_take (i := 16) (v := (.bool true)) rfl (by kernel_rfl) (by kernel_rfl) (by kernel_rfl) (fun _ _ _ h => h) (Or.inl ⟨by rfl, fun w => by go_simp⟩) ?_
        simp only [Act.put, List.getElem_toArray, List.getElem_cons_succ, List.getElem_cons_zero, List.setIfInBounds_toArray, List.set_cons_succ, List.set_cons_zero]
        refine wpAny_take (i := 17) (v := (.bool false)) rfl (by kernel_rfl) (by kernel_rfl) (by kernel_rfl) (fun _ _ _ h => h) (Or.inl ⟨by rfl, fun w => by go_simp⟩) ?_
        simp only [Act.put, List.getElem_toArray, List.getElem_cons_succ, List.getElem_cons_zero, List.setIfInBounds_toArray, List.set_cons_succ, List.set_cons_zero]
        refine wpAny_take (i := 18) (v := (.bool false)) rfl (by kernel_rfl) (by kernel_rfl) (by kernel_rfl) (fun _ _ _ h => h) (Or.inl ⟨by rfl, fun w => by go_simp⟩) ?_
        simp only [Act.put, List.getElem_toArray, List.getElem_cons_succ, List.getElem_cons_zero, List.setIfInBounds_toArray, List.set_cons_succ, List.set_cons_zero]
        refine wpAny_take (i := 19) (v := undef) rfl (by kernel_rfl) (by kernel_rfl) (by kernel_rfl) (fun _ _ _ h => h) (Or.inr ⟨by rfl, rfl⟩) ?_
        simp only [Act.put, List.getElem_toArray, List.getElem_cons_succ, List.getElem_cons_zero, List.setIfInBounds_toArray, List.set_cons_succ, List.set_cons_zero]
        refine wpAny_take (i := 20) (v := undef) rfl (by kernel_rfl) (by kernel_rfl) (by kernel_rfl) (fun _ _ _ h => h) (Or.inr ⟨by rfl, rfl⟩) ?_
        simp only [Act.put, List.getElem_toArray, List.getElem_cons_succ, List.getElem_cons_zero, List.setIfInBounds_toArray, List.set_cons_succ, List.set_cons_zero]
        refine wpAny_take (i := 21) (v := undef) rfl (by kernel_rfl) (by kernel_rfl) (by kernel_rfl) (fun _ _ _ h => h) (Or.inr ⟨by rfl, rfl⟩) ?_
        simp only [Act.put, List.getElem_toArray, List.getElem_cons_succ, List.getElem_cons_zero, List.setIfInBounds_toArray, List.set_cons_succ, List.set_cons_zero]
        refine wpAny_take (i := 22) (v := undef) rfl (by kernel_rfl) (by kernel_rfl) (by kernel_rfl) (fun _ _ _ h => h) (Or.inr ⟨by rfl, rfl⟩) ?_
        simp only [Act.put, List.getElem_toArray, List.getElem_cons_succ, List.getElem_cons_zero, List.setIfInBounds_toArray, List.set_cons_succ, List.set_cons_zero]
        refine wpAny_take (i := 23) (v := undef) rfl (by kernel_rfl) (by kernel_rfl) (by kernel_rfl) (fun _ _ _ h => h) (Or.inr ⟨by rfl, rfl⟩) ?_
        simp only [Act.put, List.getElem_toArray, List.getElem_cons_succ, List.getElem_cons_zero, List.setIfInBounds_toArray, List.set_cons_succ, List.set_cons_zero]
        refine wpAny_take (i := 24) (v := undef) rfl (by kernel_rfl) (by kernel_rfl) (by kernel_rfl) (fun _ _ _ h => h) (Or.inr ⟨by rfl, rfl⟩) ?_
        simp only [Act.put, List.getElem_toArray, List.getElem_cons_succ, List.getElem_cons_zero, List.setIfInBounds_toArray, List.set_cons_succ, List.set_cons_zero]
        refine wpAny_take (i := 25) (v := (.bool false)) rfl (by kernel_rfl) (by kernel_rfl) (by kernel_rfl) (fun _ _ _ h => h) (Or.inl ⟨by rfl, fun w => by go_simp⟩) ?_
        simp only [Act.put, List.getElem_toArray, List.getElem_cons_succ, List.getElem_cons_zero, List.setIfInBounds_toArray, List.set_cons_succ, List.set_cons_zero]
        refine wpAny_take (i := 26) (v := (.bool false)) rfl (by kernel_rfl) (by kernel_rfl) (by kernel_rfl) (fun _ _ _ h => h) (Or.inl ⟨by rfl, fun w => by go_simp⟩) ?_
        simp only [Act.put, List.getElem_toArray, List.getElem_cons_succ, List.getElem_cons_zero, List.setIfInBounds_toArray, List.set_cons_succ, List.set_cons_zero]
        refine wpAny_done (by kernel_rfl) ?_ _
        have k13 := below_step k11' k12
        have bb12 := below_step bb k13
        have ST12 := Lib.hid (ST.out.below k13 (Nat.le_refl _))
        have x12 := Lib.hid (x7.out.below k13 (Nat.le_refl _))
        have y12 := Lib.hid (y7.out.below k13 (Nat.le_refl _))
        have p12 := Lib.hid (own_below p7.out k13 (Nat.le_refl _))
        have q12 := Lib.hid (own_below q7.out k13 (Nat.le_refl _))
        clear k13 k12 k11' k11 k10 o10 o11 bb ST x7 y7 p7 q7 h7
        go_wp2_with (first
          | (go_at_call_of 34 (Value.slice A2 n2 c2); refine (KeptInts_any _ A2 n2 _ c2 ls _ (by exact sees_own q16.out) (by exact H2.out.below b16 (Nat.le_refl _)) (by have := HN.out; omega)).mono ?_; rintro e w17 ⟨rfl, k17⟩; have b17 := below_step b16 k17; have y17 := Lib.hid (y16.out.below k17 (Nat.le_refl _)); have l17 := Lib.hid (l16.out.below k17 (Nat.le_refl _)))
          | (go_at_call_of 34 (Value.slice A1 n1 c1); refine (KeptInts_any _ A1 n1 _ c1 cs _ (by exact sees_own p15.out) (by exact H1.out.below b15 (Nat.le_refl _)) (by have := HN.out; omega)).mono ?_; rintro e w16 ⟨rfl, k16⟩; have b16 := below_step b15 k16; have y16 := Lib.hid (y15.out.below k16 (Nat.le_refl _)); have l16 := Lib.hid (l15.out.below k16 (Nat.le_refl _)); have q16 := Lib.hid (own_below q15.out k16 (Nat.le_refl _)))
          | (go_at_call 18; refine (SameInts_any _ _ _ _ _ _ (D1.map (·.2)) (D1.map (·.2)) _ (by exact x14.out) (by exact d14.out)).mono ?_; rw [eqL_self]; rintro e w15 ⟨rfl, k15⟩; have b15 := below_step b14 k15; have y15 := Lib.hid (y14.out.below k15 (Nat.le_refl _)); have l15 := Lib.hid (l14.out.below k15 (Nat.le_refl _)); have p15 := Lib.hid (own_below p14.out k15 (Nat.le_refl _)); have q15 := Lib.hid (own_below q14.out k15 (Nat.le_refl _)))
          | (go_at_call 43; refine (refStamps_any _ _ _ _ _ _ _ cs ls _ (by exact H1.out.below b13 (Nat.le_refl _)) (by exact H2.out.below b13 (Nat.le_refl _)) (by have := HN.out; omega)).mono ?_; rw [HT.out]; rintro e w14 ⟨A14, c14, m14, rfl, o14, k14⟩; obtain rfl : m14 = m6 := same_len (sees_own o14) y13.out; have b14 := below_step b13 k14; have l14 := Lib.hid (sees_own o14); have d14 := Lib.hid (d13.out.below k14 (Nat.le_refl _)); have x14 := Lib.hid (x13.out.below k14 (Nat.le_refl _)); have y14 := Lib.hid (y13.out.below k14 (Nat.le_refl _)); have p14 := Lib.hid (own_below p13.out k14 (Nat.le_refl _)); have q14 := Lib.hid (own_below q13.out k14 (Nat.le_refl _)))
          | (go_at_call 42; refine (refDeltas_any _ _ _ _ st _ (by exact ST12.out) (by have := HN.out; have := HJ.out; omega)).mono ?_; rw [HD.out]; rintro e w13 ⟨A13, c13, m13, rfl, o13, k13⟩; have b13 := below_step bb12 k13; have d13 := Lib.hid (sees_own o13); have x13 := Lib.hid (x12.out.below k13 (Nat.le_refl _)); have y13 := Lib.hid (y12.out.below k13 (Nat.le_refl _)); have p13 := Lib.hid (own_below p12.out k13 (Nat.le_refl _)); have q13 := Lib.hid (own_below q12.out k13 (Nat.le_refl _))))
        have hm6 : m14 ≤ 10000 := by have h1 := y17.out.len; have h2 := T1_len HT.out; have := HN.out; have := HL1.out; rw [flat_len] at h1; omega
        have hmi : (m14 : Int) ≤ 10000 := by omega
        have HTL : Hid (T1.length = m14) := Lib.hid (by have h1 := y17.out.len; rw [flat_len] at h1; omega)
        clear y12 y13 y14 y15 y16 l14 l15 l16 x12 x13 x14 d13 d14 p12 p13 p14 p15 q12 q13 q14 q15 q16 b13 b14 b15 b16 bb12 ST12
        go_loopw [164] (fun i wq => ∃ jj : Nat, i = .int .i64 (jj : Int) ∧ jj ≤ m14 ∧ Below w17.heap.size w17 wq) (fun i _ => m14 - (intOf i).toNat)
        case atStart => exact ⟨0, rfl, Nat.zero_le _, Below.refl _ _⟩
        case round =>
          obtain ⟨jj, rfl, hjj, hbq⟩ := hrel
          by_cases hlt : jj < m14
          · obtain ⟨by1, oy1, hA, g1, g2⟩ := (y17.out.below hbq (Nat.le_refl _)).stamp hlt
            cases hA
            obtain ⟨bl1, ol1, hA, e1, e2⟩ := (l17.out.below hbq (Nat.le_refl _)).stamp hlt
            cases hA
            obtain ⟨x, hx⟩ : ∃ x, (T1.getD jj (0, 0)).1 = x := ⟨_, rfl⟩
            obtain ⟨y, hy⟩ : ∃ x, (T1.getD jj (0, 0)).2 = x := ⟨_, rfl⟩
            rw [hx] at g1 e1
            rw [hy] at g2 e2
            have hj2 : (jj : Int) < (m14 : Int) := by omega
            clear hx hy
            go_wp2_with fail
            go_quiet (fail)
            go_wp2
            go_roundw
            case rel => exact ⟨jj + 1, by go_num, by omega, below_drewN hbq _⟩
            case measure => simp [intOf]; omega
          · obtain rfl : jj = m14 := by omega
            clear hlt
            go_wp2
            go_ret
            exact ⟨rfl, below_step b17 hbq⟩
end Go.Proofs.Ytllbcohfelgamaa
