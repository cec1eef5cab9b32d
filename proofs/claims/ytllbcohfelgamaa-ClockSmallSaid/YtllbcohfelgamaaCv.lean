/- Walks: the reference's before, Deltas. -/
import Derived.Test.YtllbcohfelgamaaProg
import Derived.Test.YtllbcohfelgamaaCs
import Derived.Test.YtllbcohfelgamaaCl
import Derived.Deep.RegionHeld3
namespace Go.Proofs.Ytllbcohfelgamaa
open Go.RowKit
set_option linter.unusedVariables false

/-- The time of the last stamp of a CPU; 0 if there is none. -/
def befR (cpu : Int) : List (Int × Int) → Int
  | [] => 0
  | s :: r => if s.1 = cpu then s.2 else befR cpu r
def bef (st : List (Int × Int)) (cpu : Int) : Int := befR cpu st.reverse
theorem bef_snoc (st : List (Int × Int)) (s : Int × Int) (cpu : Int) : bef (st ++ [s]) cpu = if s.1 = cpu then s.2 else bef st cpu := by
  unfold bef
  rw [List.reverse_append]
  rfl
theorem bef_nil (cpu : Int) : bef [] cpu = 0 := rfl

theorem E_rst : Elem Try.prog 71 72 (.agg #[.int .i64 0, .int .i64 0]) 2 16 := elem_of Try.underlying71 (by kernel_rfl) rfl (by decide)

set_option maxRecDepth 20000 in
set_option maxHeartbeats 800000 in
theorem before_any (A : Option Addr) (m c k : Nat) (cpu : Int) (st : List (Int × Int)) (w : World) (h : Sees w 2 A m c (flat st)) (hk : k ≤ m) (hm : m ≤ 10000) :
    Calls Try.prog 52 #[.slice A m c, .int .i64 (k : Int), .int .i64 cpu] w fun e w' => e = .returned (.int .i64 (bef (st.take k) cpu)) ∧ w = w' := by
  have HS := Lib.hid h
  have hl : st.length = m := by have := h.len; rw [flat_len] at this; omega
  have HL := Lib.hid hl
  have hk2 : (k : Int) ≤ 10000 := by omega
  have hkm : (k : Int) ≤ (m : Int) := by omega
  have HKM := Lib.hid hk
  clear h hl hk hm
  go_enter Try.func52, Try.ntmps52
  go_wp2
  go_loop [7] (fun i => ∃ (j : Nat) (i0 : Int), i = .int .i64 i0 ∧ Hid (i0 = (j : Int) - 1) ∧ j ≤ k ∧ Hid (bef (st.take j) cpu = bef (st.take k) cpu)) (fun i => (intOf i + 1).toNat)
  case atStart => exact ⟨k, _, rfl, Lib.hid rfl, Nat.le_refl _, Lib.hid rfl⟩
  case round =>
    obtain ⟨j, i0, rfl, HI, hj, HB⟩ := hrel
    cases j with
    | zero =>
      obtain rfl : i0 = -1 := by have := HI.out; omega
      rw [List.take_zero, bef_nil] at HB
      clear HI
      go_wp2
      go_ret
      exact ⟨by rw [← HB.out]; rfl, rfl⟩
    | succ j =>
      obtain rfl : i0 = (j : Int) := by have := HI.out; omega
      obtain ⟨ba, oa, hA, g1, g2⟩ := HS.out.stamp (k := j) (by have := HKM.out; omega)
      cases hA
      have hjl : j < st.length := by rw [HL.out]; have := HKM.out; omega
      have hsn : st.take (j + 1) = st.take j ++ [st.getD j (0, 0)] := by
        rw [List.take_succ_eq_append_getElem hjl]; simp [List.getD, hjl]
      rw [hsn, bef_snoc] at HB
      obtain ⟨x, hx⟩ : ∃ x, (st.getD j (0, 0)).1 = x := ⟨_, rfl⟩
      obtain ⟨y, hy⟩ : ∃ x, (st.getD j (0, 0)).2 = x := ⟨_, rfl⟩
      rw [hx] at g1 HB
      rw [hy] at g2 HB
      have hj2 : (j : Int) < (m : Int) := by omega
      clear hsn hx hy HI hjl
      by_cases hc : x = cpu
      · subst hc
        rw [if_pos rfl] at HB
        go_wp2
        go_ret
        exact ⟨by rw [← HB.out]; rfl, rfl⟩
      · rw [if_neg hc] at HB
        have d1 : (x == cpu) = false := by simpa using hc
        clear hc
        go_wp2
        go_round
        case rel => exact ⟨j, _, rfl, Lib.hid rfl, by omega, HB⟩
        case measure => simp [intOf] <;> omega

theorem cellB {w w' : World} (h : Below w.heap.size w w') {a : Addr} {v : Value} (hc : w.cell? a = some v) : w'.cell? a = some v := (h.cell (World.block_lt_of_cell? _ _ hc)).trans hc
theorem keep3 {W w w' : World} {a b : Addr} {u v : Value} (h : w.cell? a = some u ∧ w.cell? b = some v ∧ Below W.heap.size W w) (k : Below w.heap.size w w') : w'.cell? a = some u ∧ w'.cell? b = some v ∧ Below W.heap.size W w' := ⟨cellB k h.1, cellB k h.2.1, below_step h.2.2 k⟩
theorem keep0 {W w : World} {a b : Addr} {u v : Value} (h : w.cell? a = some u ∧ w.cell? b = some v ∧ Below W.heap.size W w) : w.drew.cell? a = some u ∧ w.drew.cell? b = some v ∧ Below W.heap.size W w.drew := ⟨h.1, h.2.1, h.2.2.drew⟩
theorem pair_drop {st : List (Int × Int)} {k : Nat} (h : k < st.length) : st.drop k = ((st.getD k (0, 0)).1, (st.getD k (0, 0)).2) :: st.drop (k + 1) := by
  rw [show st.getD k (0, 0) = st[k] by simp [List.getD, h]]
  exact List.drop_eq_getElem_cons h
theorem zip_self (st : List (Int × Int)) : (st.map (·.1)).zip (st.map (·.2)) = st := by
  induction st with
  | nil => rfl
  | cons q r ih => simp [ih]
theorem untilF_cpu {xs : List Int} {x y : Int} (h : x < 0 ∨ (xs.length : Int) ≤ x) : untilF xs x y = (xs, 0, 290) := by unfold untilF; rw [if_pos h]
theorem untilF_arg {xs : List Int} {q : Nat} {y : Int} (h : q < xs.length) (hy : y < 0 ∨ 281474976710656 < y) : untilF xs (q : Int) y = (xs, 0, 2) := by unfold untilF; rw [if_neg (by omega), if_pos hy]
theorem untilF_back {xs : List Int} {q : Nat} {y : Int} (h : q < xs.length) (hy : ¬ (y < 0 ∨ 281474976710656 < y)) (hb : y < xs.getD q 0) : untilF xs (q : Int) y = (xs, 0, 291) := by unfold untilF; rw [if_neg (by omega), if_neg hy, Int.toNat_natCast, if_pos hb]
theorem untilF_go {xs : List Int} {q : Nat} {y : Int} (h : q < xs.length) (hy : ¬ (y < 0 ∨ 281474976710656 < y)) (hb : ¬ y < xs.getD q 0) : untilF xs (q : Int) y = (xs.set q y, y - xs.getD q 0, 0) := by unfold untilF; rw [if_neg (by omega), if_neg hy, Int.toNat_natCast, if_neg hb]
theorem bef_step {st : List (Int × Int)} {xs : List Int} {N j q : Nat} {y : Int} (hj : j < st.length) (hx : st.getD j (0, 0) = ((q : Int), y)) (hl : xs.length = N) (hb : ∀ i : Nat, i < N → bef (st.take j) (i : Int) = xs.getD i 0) (hq : q < N) :
    ∀ i : Nat, i < N → bef (st.take (j + 1)) (i : Int) = (xs.set q y).getD i 0 := by
  intro i hi
  have hsn : st.take (j + 1) = st.take j ++ [st.getD j (0, 0)] := by
    rw [List.take_succ_eq_append_getElem hj]; simp [List.getD, hj]
  rw [hsn, bef_snoc, hx]
  by_cases e : q = i
  · subst e
    rw [if_pos rfl]
    simp [List.getD, hl, hq]
  · rw [if_neg (by show ¬ (q : Int) = (i : Int); omega), hb i hi]
    simp [List.getD, List.getElem?_set, e]

set_option maxRecDepth 20000 in
set_option maxHeartbeats 3200000 in
theorem refDeltas_any (n : Int) (A : Option Addr) (m c : Nat) (st : List (Int × Int)) (w : World) (h : Sees w 2 A m c (flat st)) (hm : m ≤ 10000) :
    Calls Try.prog 42 #[.int .i64 n, .slice A m c] w fun e w' => ∃ A' c' m', e = .returned (.tuple #[.slice A' m' c', .int .i64 (eachF untilF n (st.map (·.1)) (st.map (·.2))).2]) ∧ w'.ownsRow w.heap.size 3 1 (.slice A' m' c') m' (((eachF untilF n (st.map (·.1)) (st.map (·.2))).1.map (·.2)).map (Value.int .i64)) ∧ Below w.heap.size w w' := by
  have HS := Lib.hid h
  have hl : st.length = m := by have := h.len; rw [flat_len] at this; omega
  have HL := Lib.hid hl
  have hm2 : (m : Int) ≤ 10000 := by omega
  obtain ⟨T, hT⟩ : ∃ T, eachF untilF n (st.map (·.1)) (st.map (·.2)) = T := ⟨_, rfl⟩
  rw [hT]
  unfold eachF at hT
  rw [zip_self] at hT
  simp only [List.length_map, ne_eq, not_true_eq_false, or_false] at hT
  clear h hl hm
  by_cases hn : n < 1 ∨ 64 < n
  · rw [if_pos hn] at hT
    subst hT
    by_cases h1 : n < 1
    · have d1 : decide (n < 1) = true := by simpa using h1
      clear hn h1
      go_enter Try.func42, Try.ntmps42
      go_wp2
      go_ret2
      exact ⟨none, 0, 0, rfl, World.ownsRow_nil _ _ _ _, Below.refl _ _⟩
    · have d1 : decide (n < 1) = false := by simpa using h1
      have d2 : decide (64 < n) = true := by simp; omega
      clear hn h1
      go_enter Try.func42, Try.ntmps42
      go_wp2
      go_ret2
      exact ⟨none, 0, 0, rfl, World.ownsRow_nil _ _ _ _, Below.refl _ _⟩
  · rw [if_neg hn] at hT
    obtain ⟨N, rfl⟩ : ∃ N : Nat, n = (N : Int) := ⟨n.toNat, by omega⟩
    rw [Int.toNat_natCast] at hT
    have d1 : decide ((N : Int) < 1) = false := by simp; omega
    have d2 : decide ((64 : Int) < (N : Int)) = false := by simp; omega
    have HT := Lib.hid hT
    clear hn hT
    go_enter Try.func42, Try.ntmps42
    go_wp2
    clear d1 d2
    go_loopw [6, 7] (fun v i wr => ∃ (j cA : Nat) (A' : Option Addr) (xs : List Int) (acc : List (Int × Int)), Hid (j ≤ m) ∧ i = .int .i64 (j : Int) ∧ v = .slice A' j cA ∧ wr.ownsRow w.heap.size 3 1 (.slice A' j cA) j ((acc.map (·.2)).map (Value.int .i64)) ∧ Hid (runE untilF (st.drop j) xs acc = T) ∧ Hid ((∀ i : Nat, i < N → bef (st.take j) (i : Int) = xs.getD i 0) ∧ OkT xs ∧ xs.length = N) ∧ Below w.heap.size w wr) (fun _ i _ => m - (intOf i).toNat)
    case atStart => exact ⟨0, 0, none, List.replicate N 0, [], Lib.hid (Nat.zero_le _), rfl, rfl, World.ownsRow_nil _ _ _ _, Lib.hid (by rw [List.drop_zero]; exact HT.out), Lib.hid ⟨fun i hi => by simp [bef, befR, List.getD, hi], OkT.zeros N, by simp⟩, Below.refl _ _⟩
    case round =>
      obtain ⟨j, cA, A', xs, acc, HJ, rfl, rfl, ho, HR, HX, hb⟩ := hrel
      by_cases hlt : j < m
      · have hjl : j < st.length := by rw [HL.out]; exact hlt
        obtain ⟨ba, oa, hA, g1, g2⟩ := (HS.out.below hb (Nat.le_refl _)).stamp hlt
        cases hA
        obtain ⟨x, hx⟩ : ∃ x, (st.getD j (0, 0)).1 = x := ⟨_, rfl⟩
        obtain ⟨y, hy⟩ : ∃ x, (st.getD j (0, 0)).2 = x := ⟨_, rfl⟩
        have hr := HR.out
        rw [pair_drop hjl, hx, hy] at hr
        have hxy : st.getD j (0, 0) = (x, y) := Prod.ext hx hy
        rw [hx] at g1
        rw [hy] at g2
        have d3 : decide ((j : Int) < (m : Int)) = true := by simp; omega
        have hj2 : (j : Int) < (m : Int) := by omega
        have hj3 : (j : Int) ≤ 9999 := by omega
        have HLT := Lib.hid hlt
        clear HR hlt hx hy
        by_cases hc : x < 0 ∨ (N : Int) ≤ x
        · rw [runE, untilF_cpu (by rw [HX.out.2.2]; exact hc), if_neg (by simp)] at hr
          have HT2 := Lib.hid hr
          clear hr hxy
          by_cases h0 : x < 0
          · have d4 : decide (x < 0) = true := by simpa using h0
            clear hc h0
            go_wp2
            go_ret2
            exact ⟨none, 0, 0, by rw [← HT2.out]; rfl, by rw [← HT2.out]; exact World.ownsRow_nil _ _ _ _, hb⟩
          · have d4 : decide (x < 0) = false := by simpa using h0
            have d5 : decide ((N : Int) ≤ x) = true := by simp; omega
            clear hc h0
            go_wp2
            go_ret2
            exact ⟨none, 0, 0, by rw [← HT2.out]; rfl, by rw [← HT2.out]; exact World.ownsRow_nil _ _ _ _, hb⟩
        · obtain ⟨q, rfl⟩ : ∃ q : Nat, x = (q : Int) := ⟨x.toNat, by omega⟩
          have hq : q < N := by omega
          have d4 : decide ((q : Int) < 0) = false := by simp
          have d5 : decide ((N : Int) ≤ (q : Int)) = false := by simp; omega
          have d5' : decide (N ≤ q) = false := by simp; omega
          clear hc
          by_cases hy : y < 0 ∨ 281474976710656 < y
          · rw [runE, untilF_arg (by rw [HX.out.2.2]; exact hq) hy, if_neg (by simp)] at hr
            have HT2 := Lib.hid hr
            clear hr hxy
            by_cases h0 : y < 0
            · have d6 : decide (y < 0) = true := by simpa using h0
              clear hy h0
              go_wp2
              go_ret2
              exact ⟨none, 0, 0, by rw [← HT2.out]; rfl, by rw [← HT2.out]; exact World.ownsRow_nil _ _ _ _, hb⟩
            · have d6 : decide (y < 0) = false := by simpa using h0
              have d7 : decide ((281474976710656 : Int) < y) = true := by simp; omega
              clear hy h0
              go_wp2
              go_ret2
              exact ⟨none, 0, 0, by rw [← HT2.out]; rfl, by rw [← HT2.out]; exact World.ownsRow_nil _ _ _ _, hb⟩
          · have d6 : decide (y < 0) = false := by simp; omega
            have d7 : decide ((281474976710656 : Int) < y) = false := by simp; omega
            obtain ⟨z, hz⟩ : ∃ z, xs.getD q 0 = z := ⟨_, rfl⟩
            have hz2 := HX.out.2.1.at_ (k := q) (by rw [HX.out.2.2]; exact hq)
            rw [hz] at hz2
            have HBF : Hid (bef (st.take j) (q : Int) = z) := Lib.hid ((HX.out.1 q hq).trans hz)
            have hw : IntKind.i64.wrap (y - z) = y - z := IntWalk.i64_in _ (by omega)
            have hS : wr.cell? ⟨ba, oa + j * 2, none⟩ = some (.int .i64 (q : Int)) ∧ wr.cell? ⟨ba, oa + j * 2 + 1, none⟩ = some (.int .i64 y) ∧ Below wr.heap.size wr wr := ⟨g1, g2, Below.refl _ _⟩
            go_wp2_with fail
            go_region_held3 (fun w' => w'.cell? ⟨ba, oa + j * 2, none⟩ = some (.int .i64 (q : Int)) ∧ w'.cell? ⟨ba, oa + j * 2 + 1, none⟩ = some (.int .i64 y) ∧ Below wr.heap.size wr w') (first | exact keep0 hS | assumption) (first
              | (go_at_call 52; refine (before_any _ _ _ _ _ st _ ((HS.out.below hb (Nat.le_refl _)).below (And.right (And.right (by assumption))) (Nat.le_refl _)) HJ.out (by omega)).mono ?_; rw [HBF.out]; rintro e w' ⟨rfl, rfl⟩))
            rename_i hH
            clear hS
            generalize wr.drew = w9 at hH ⊢
            have hb9 := below_step hb hH.2.2
            have ho9 := own_below ho hH.2.2 (Nat.le_refl _)
            clear hH hw g1 g2 ho hb
            by_cases hyz : y < z
            · rw [runE, untilF_back (by rw [HX.out.2.2]; exact hq) hy (by rw [hz]; exact hyz), if_neg (by simp)] at hr
              have HT2 := Lib.hid hr
              have d8 : decide (y - z < 0) = true := by simp; omega
              clear hr hxy hy hz hyz
              go_wp2
              go_ret2
              exact ⟨none, 0, 0, by rw [← HT2.out]; rfl, by rw [← HT2.out]; exact World.ownsRow_nil _ _ _ _, hb9⟩
            · rw [runE, untilF_go (by rw [HX.out.2.2]; exact hq) hy (by rw [hz]; exact hyz), if_pos rfl] at hr
              rw [hz] at hr
              have HT2 := Lib.hid hr
              have d8 : decide (y - z < 0) = false := by simp; omega
              have HX2 : Hid ((∀ i : Nat, i < N → bef (st.take (j + 1)) (i : Int) = (xs.set q y).getD i 0) ∧ OkT (xs.set q y) ∧ (xs.set q y).length = N) := Lib.hid ⟨bef_step hjl hxy HX.out.2.2 HX.out.1 hq, HX.out.2.1.set q (by omega), by rw [List.length_set]; exact HX.out.2.2⟩
              have hsz9 := hb9.size
              clear hr hxy hy hz hyz hjl
              go_wp2_with (at_builtin; refine wpList_app E_int rfl _ _ rfl rfl (ho9.alloc _) rfl (Sees.one _ _ _) (ints1 _ [y - z]) (by simp [maxLen]; omega) (by omega) (by simp; omega) ?_; intro A4 c4 w4 hown4 hg4 hb4)
              go_roundw
              case rel =>
                refine ⟨j + 1, c4, A4, xs.set q y, acc ++ [((q : Int), y - z)], Lib.hid HLT.out, by go_num, rfl, ?_, HT2, HX2, (hb9.alloc hsz9 _).trans hb4⟩
                simpa using hown4
              case measure => have := HLT.out; simp [intOf]; omega
      · have hjm : j = m := by have := HJ.out; omega
        have d3 : decide ((j : Int) < (m : Int)) = false := by simp; omega
        have d3' : decide (j < m) = false := by simp; omega
        have hr := HR.out
        rw [List.drop_of_length_le (by rw [HL.out, hjm]; exact Nat.le_refl _), runE] at hr
        have HT2 := Lib.hid hr
        clear hr hlt hjm
        go_wp2
        go_ret2
        exact ⟨A', cA, j, by rw [← HT2.out]; rfl, by rw [← HT2.out]; exact ho, hb⟩
end Go.Proofs.Ytllbcohfelgamaa
