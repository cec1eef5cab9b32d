/- Walks: the reference's Stamps. -/
import Derived.Test.YtllbcohfelgamaaProg
import Derived.Test.YtllbcohfelgamaaCv
import Derived.StillTailTactics
namespace Go.Proofs.Ytllbcohfelgamaa
open Go.RowKit
set_option linter.unusedVariables false

theorem tickF_cpu {xs : List Int} {x y : Int} (h : x < 0 ∨ (xs.length : Int) ≤ x) : tickF xs x y = (xs, 0, 290) := by unfold tickF; rw [if_pos h]
theorem tickF_arg {xs : List Int} {q : Nat} {y : Int} (h : q < xs.length) (hy : y < 0) : tickF xs (q : Int) y = (xs, 0, 2) := by unfold tickF; rw [if_neg (by omega), if_pos hy]
theorem tickF_full {xs : List Int} {q : Nat} {y : Int} (h : q < xs.length) (hy : ¬ y < 0) (hb : 281474976710656 - xs.getD q 0 < y) : tickF xs (q : Int) y = (xs, 0, 4) := by unfold tickF; rw [if_neg (by omega), if_neg hy, Int.toNat_natCast, if_pos hb]
theorem tickF_go {xs : List Int} {q : Nat} {y : Int} (h : q < xs.length) (hy : ¬ y < 0) (hb : ¬ 281474976710656 - xs.getD q 0 < y) : tickF xs (q : Int) y = (xs.set q (xs.getD q 0 + y), xs.getD q 0 + y, 0) := by unfold tickF; rw [if_neg (by omega), if_neg hy, Int.toNat_natCast, if_neg hb]
theorem before_is (A : Option Addr) (m c k : Nat) (cpu z : Int) (st : List (Int × Int)) (w : World) (h : Sees w 2 A m c (flat st)) (hk : k ≤ m) (hm : m ≤ 10000) (hz : bef (st.take k) cpu = z) :
    Calls Try.prog 52 #[.slice A m c, .int .i64 (k : Int), .int .i64 cpu] w fun e w' => e = .returned (.int .i64 z) ∧ w' = w :=
  (before_any A m c k cpu st w h hk hm).mono fun e w' hh => ⟨by rw [hh.1, hz], hh.2.symm⟩
theorem bef_more {acc : List (Int × Int)} {xs : List Int} {N q : Nat} {v : Int} (hl : xs.length = N) (hb : ∀ i : Nat, i < N → bef acc (i : Int) = xs.getD i 0) (hq : q < N) :
    ∀ i : Nat, i < N → bef (acc ++ [((q : Int), v)]) (i : Int) = (xs.set q v).getD i 0 := by
  intro i hi
  rw [bef_snoc]
  by_cases e : q = i
  · subst e
    rw [if_pos rfl]
    simp [List.getD, hl, hq]
  · rw [if_neg (by show ¬ (q : Int) = (i : Int); omega), hb i hi]
    simp [List.getD, List.getElem?_set, e]
theorem own_drewR {w : World} {base e s n : Nat} {v : Value} {xs : List Value} (h : w.ownsRow base e s v n xs) : w.drew.ownsRow base e s v n xs := h
theorem step_wp {P : Program} {ops : Array Oper} {o : Oper} {a : Act} {K : Act → World → Prop} {Q : Exit → Act → World → Prop} {w : World} {F : Prop} (hgd : o.guard = none) (h : o.wp P a w K Q) :
    if Region.wanted o (yielded ops a.tmps) = true then Oper.wp P o a w K Q else F := by
  rw [if_pos (by simp [Region.wanted, hgd])]; exact h
theorem one_rst (x y : Int) : ∀ u ∈ flat [(x, y)], u.oneCell' = true := one2 x y

set_option maxRecDepth 20000 in
set_option maxHeartbeats 3200000 in
theorem refStamps_any (n : Int) (A1 A2 : Option Addr) (n1 c1 n2 c2 : Nat) (cs ls : List Int) (w : World) (s1 : Sees w 1 A1 n1 c1 (cs.map (Value.int .i64))) (s2 : Sees w 1 A2 n2 c2 (ls.map (Value.int .i64))) (hb : n1 ≤ 10000 ∧ n2 ≤ 10000) :
    Calls Try.prog 43 #[.int .i64 n, .slice A1 n1 c1, .slice A2 n2 c2] w fun e w' => ∃ A c m, e = .returned (.tuple #[.slice A m c, .int .i64 (eachF tickF n cs ls).2]) ∧ w'.ownsRow w.heap.size 72 2 (.slice A m c) m (flat (eachF tickF n cs ls).1) ∧ Below w.heap.size w w' := by
  have H1 := Lib.hid s1
  have H2 := Lib.hid s2
  have e1 := s1.length
  have e2 := s2.length
  obtain ⟨T, hT⟩ : ∃ T, eachF tickF n cs ls = T := ⟨_, rfl⟩
  rw [hT]
  unfold eachF at hT
  rw [e1, e2] at hT
  clear s1 s2
  by_cases hn : n < 1 ∨ 64 < n ∨ n1 ≠ n2
  · rw [if_pos hn] at hT
    subst hT
    have HB := Lib.hid hb
    clear hb e1 e2
    by_cases h1 : n < 1
    · have d1 : decide (n < 1) = true := by simpa using h1
      clear hn h1
      go_enter Try.func43, Try.ntmps43
      go_wp2
      go_ret2
      exact ⟨none, 0, 0, rfl, World.ownsRow_nil _ _ _ _, Below.refl _ _⟩
    · have d1 : decide (n < 1) = false := by simpa using h1
      by_cases h2 : 64 < n
      · have d2 : decide (64 < n) = true := by simpa using h2
        clear hn h1 h2
        go_enter Try.func43, Try.ntmps43
        go_wp2
        go_ret2
        exact ⟨none, 0, 0, rfl, World.ownsRow_nil _ _ _ _, Below.refl _ _⟩
      · have d2 : decide (64 < n) = false := by simpa using h2
        have d3 : ((n1 : Int) != (n2 : Int)) = true := by simp; omega
        clear hn h1 h2
        go_enter Try.func43, Try.ntmps43
        go_wp2
        go_ret2
        exact ⟨none, 0, 0, rfl, World.ownsRow_nil _ _ _ _, Below.refl _ _⟩
  · rw [if_neg hn] at hT
    obtain ⟨N, rfl⟩ : ∃ N : Nat, n = (N : Int) := ⟨n.toNat, by omega⟩
    rw [Int.toNat_natCast] at hT
    obtain ⟨m, hm1, hm2⟩ : ∃ m, n1 = m ∧ n2 = m := ⟨n1, rfl, by omega⟩
    subst hm1
    subst hm2
    have d1 : decide ((N : Int) < 1) = false := by simp; omega
    have d2 : decide ((64 : Int) < (N : Int)) = false := by simp; omega
    have hmi : (n2 : Int) ≤ 10000 := by omega
    have HT := Lib.hid hT
    have HE := Lib.hid (And.intro e1 e2)
    clear hn hT e1 e2 hb
    go_enter Try.func43, Try.ntmps43
    go_wp2
    clear d1 d2
    go_loopw [8, 9] (fun v i wr => ∃ (j cA : Nat) (A' : Option Addr) (xs : List Int) (acc : List (Int × Int)), Hid (j ≤ n2) ∧ i = .int .i64 (j : Int) ∧ v = .slice A' j cA ∧ wr.ownsRow w.heap.size 72 2 (.slice A' j cA) j (flat acc) ∧ Hid (runE tickF ((cs.zip ls).drop j) xs acc = T) ∧ Hid ((∀ i : Nat, i < N → bef acc (i : Int) = xs.getD i 0) ∧ OkT xs ∧ xs.length = N) ∧ Below w.heap.size w wr) (fun _ i _ => n2 - (intOf i).toNat)
    case atStart => exact ⟨0, 0, none, List.replicate N 0, [], Lib.hid (Nat.zero_le _), rfl, rfl, World.ownsRow_nil _ _ _ _, Lib.hid (by rw [List.drop_zero]; exact HT.out), Lib.hid ⟨fun i hi => by simp [bef, befR, List.getD, hi], OkT.zeros N, by simp⟩, Below.refl _ _⟩
    case round =>
      obtain ⟨j, cA, A', xs, acc, HJ, rfl, rfl, ho, HR, HX, hb⟩ := hrel
      by_cases hlt : j < n2
      · obtain ⟨ba, oa, hA, g1⟩ := (H1.out.below hb (Nat.le_refl _)).int hlt
        cases hA
        obtain ⟨bd, od, hA, g2⟩ := (H2.out.below hb (Nat.le_refl _)).int hlt
        cases hA
        obtain ⟨x, hx⟩ : ∃ x, cs.getD j 0 = x := ⟨_, rfl⟩
        obtain ⟨y, hy⟩ : ∃ x, ls.getD j 0 = x := ⟨_, rfl⟩
        have hr := HR.out
        rw [zip_drop (by rw [HE.out.1]; exact hlt) (by rw [HE.out.2]; exact hlt), hx, hy] at hr
        rw [hx] at g1
        rw [hy] at g2
        have d3 : decide ((j : Int) < (n2 : Int)) = true := by simp; omega
        have hj2 : (j : Int) < (n2 : Int) := by omega
        have hj3 : (j : Int) ≤ 9999 := by omega
        have HLT := Lib.hid hlt
        clear HR hlt hx hy
        by_cases hc : x < 0 ∨ (N : Int) ≤ x
        · rw [runE, tickF_cpu (by rw [HX.out.2.2]; exact hc), if_neg (by simp)] at hr
          have HT2 := Lib.hid hr
          clear hr
          by_cases h0 : x < 0
          · have d4 : decide (x < 0) = true := by simpa using h0
            clear hc h0
            go_wp2
            go_ret2
            exact ⟨none, 0, 0, by rw [← HT2.out]; rfl, by rw [← HT2.out]; exact World.ownsRow_nil _ _ _ _, hb⟩
          · have d4 : decide (x < 0) = false := by simpa using h0
            have d5 : decide ((N : Int) ≤ x) = true := by simp; omega
            clear hc h0
            go_wp2
            go_ret2
            exact ⟨none, 0, 0, by rw [← HT2.out]; rfl, by rw [← HT2.out]; exact World.ownsRow_nil _ _ _ _, hb⟩
        · obtain ⟨q, rfl⟩ : ∃ q : Nat, x = (q : Int) := ⟨x.toNat, by omega⟩
          have hq : q < N := by omega
          have d4 : decide ((q : Int) < 0) = false := by simp
          have d5 : decide ((N : Int) ≤ (q : Int)) = false := by simp; omega
          have d5' : decide (N ≤ q) = false := by simp; omega
          clear hc
          by_cases hy : y < 0
          · rw [runE, tickF_arg (by rw [HX.out.2.2]; exact hq) hy, if_neg (by simp)] at hr
            have HT2 := Lib.hid hr
            have d6 : decide (y < 0) = true := by simpa using hy
            clear hr hy
            go_wp2
            go_ret2
            exact ⟨none, 0, 0, by rw [← HT2.out]; rfl, by rw [← HT2.out]; exact World.ownsRow_nil _ _ _ _, hb⟩
          · have d6 : decide (y < 0) = false := by simp; omega
            obtain ⟨z, hz⟩ : ∃ z, xs.getD q 0 = z := ⟨_, rfl⟩
            have hz2 := HX.out.2.1.at_ (k := q) (by rw [HX.out.2.2]; exact hq)
            rw [hz] at hz2
            have hal : acc.length = j := by have := ho.1; rw [flat_len] at this; omega
            have HBF : Hid (bef (acc.take j) (q : Int) = z) := Lib.hid (by rw [List.take_of_length_le (by omega)]; exact (HX.out.1 q hq).trans hz)
            have hw : IntKind.i64.wrap (281474976710656 - z) = 281474976710656 - z := IntWalk.i64_in _ (by omega)
            have hS : wr.cell? ⟨ba, oa + j, none⟩ = some (.int .i64 (q : Int)) ∧ wr.cell? ⟨bd, od + j, none⟩ = some (.int .i64 y) ∧ Below wr.heap.size wr wr := ⟨g1, g2, Below.refl _ _⟩
            have HSR := Lib.hid (sees_own ho)
            go_wp2_with fail
            go_region_held3 (fun w' => w'.cell? ⟨ba, oa + j, none⟩ = some (.int .i64 (q : Int)) ∧ w'.cell? ⟨bd, od + j, none⟩ = some (.int .i64 y) ∧ Below wr.heap.size wr w') (first | exact keep0 hS | assumption) (first
              | (go_at_call 52; refine (before_any _ _ _ _ _ acc _ (HSR.out.below (And.right (And.right (by assumption))) (Nat.le_refl _)) (Nat.le_refl _) (by omega)).mono ?_; rw [HBF.out]; rintro e w' ⟨rfl, rfl⟩))
            rename_i hH
            clear hS
            generalize wr.drew = w9 at hH ⊢
            have hb9 := below_step hb hH.2.2
            have ho9 := own_below ho hH.2.2 (Nat.le_refl _)
            have q1 := hH.1
            have q2 := hH.2.1
            have hsz9 := hb9.size
            clear hH hw g1 g2 ho hb HSR
            by_cases hyz : 281474976710656 - z < y
            · rw [runE, tickF_full (by rw [HX.out.2.2]; exact hq) (by omega) (by rw [hz]; exact hyz), if_neg (by simp)] at hr
              have HT2 := Lib.hid hr
              have d8 : decide (281474976710656 - z < y) = true := by simpa using hyz
              clear hr hy hz
              go_wp2
              go_ret2
              exact ⟨none, 0, 0, by rw [← HT2.out]; rfl, by rw [← HT2.out]; exact World.ownsRow_nil _ _ _ _, hb9⟩
            · rw [runE, tickF_go (by rw [HX.out.2.2]; exact hq) (by omega) (by rw [hz]; exact hyz), if_pos rfl] at hr
              rw [hz] at hr
              have HT2 := Lib.hid hr
              have d8 : decide (281474976710656 - z < y) = false := by simpa using hyz
              have HX2 : Hid ((∀ i : Nat, i < N → bef (acc ++ [((q : Int), z + y)]) (i : Int) = (xs.set q (z + y)).getD i 0) ∧ OkT (xs.set q (z + y)) ∧ (xs.set q (z + y)).length = N) := Lib.hid ⟨bef_more HX.out.2.2 HX.out.1 hq, HX.out.2.1.set q (by omega), by rw [List.length_set]; exact HX.out.2.2⟩
              have hw2 : IntKind.i64.wrap (z + y) = z + y := IntWalk.i64_in _ (by omega)
              have HSD := Lib.hid (sees_own ho9).drew
              have HSD0 := Lib.hid (sees_own ho9)
              have HJ2 : Hid (j ≤ 10000) := Lib.hid (by omega)
              have hyz2 : y ≤ 281474976710656 - z := by omega
              clear hr hy hz hyz hal
              go_wp2_with fail
              have LIT := Lib.hid (sees_block2 (w := w9.alloc (.cells #[.int .i64 (q : Int), .int .i64 (z + y)] 72)) (g := w9.heap.size) (st := [((q : Int), z + y)]) (heap_alloc_new _ _) rfl (by simp [maxLen]))
              have OWN := Lib.hid (ho9.alloc (.cells #[.int .i64 (q : Int), .int .i64 (z + y)] 72))
              have hb10 := hb9.alloc hsz9 (.cells #[.int .i64 (q : Int), .int .i64 (z + y)] 72)
              go_region_law (first
                | (refine step_app E_rst rfl (.tmp 60) (.tmp 78) rfl rfl (base := w.heap.size) (by first | exact OWN.out | exact own_drewR OWN.out) rfl (by first | exact LIT.out | exact LIT.out.drew) (one_rst _ _) (by simp [maxLen]; omega) (by omega) (by simp; omega) ?_; intro A4 c4 w4 hown4 hg4 hb4; have B4 : Below w.heap.size w w4 := (by first | exact hb10.trans hb4 | exact hb10.drew.trans hb4))
                | (refine step_wp rfl ?_; go_simp; go_at_call 52; refine (before_any _ _ _ _ _ acc _ (by first | exact HSD.out | exact HSD0.out) (Nat.le_refl _) HJ2.out).mono ?_; rw [HBF.out]; rintro e w' ⟨rfl, rfl⟩; dsimp only))
              all_goals simp only [Act.put, List.getElem_toArray, List.getElem_cons_succ, List.getElem_cons_zero, List.setIfInBounds_toArray, List.set_cons_succ, List.set_cons_zero]
              all_goals go_wp2
              all_goals go_roundw
              all_goals first
                | exact ⟨j + 1, c4, A4, xs.set q (z + y), acc ++ [((q : Int), z + y)], Lib.hid HLT.out, by go_num, rfl, by rw [flat_app]; exact hown4, HT2, HX2, B4⟩
                | (have := HLT.out; simp [intOf]; omega)
      · have hjm : j = n2 := by have := HJ.out; omega
        have d3 : decide ((j : Int) < (n2 : Int)) = false := by simp; omega
        have d3' : decide (j < n2) = false := by simp; omega
        have hr := HR.out
        rw [List.drop_of_length_le (by simp [HE.out.1, HE.out.2, hjm]), runE] at hr
        have HT2 := Lib.hid hr
        clear hr hlt hjm
        go_wp2
        go_ret2
        exact ⟨A', cA, j, by rw [← HT2.out]; rfl, by rw [← HT2.out]; exact ho, hb⟩
end Go.Proofs.Ytllbcohfelgamaa
