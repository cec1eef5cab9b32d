/- Walks: each, Deltas. -/
import Derived.Test.YtllbcohfelgamaaProg
import Derived.Test.YtllbcohfelgamaaCd
namespace Go.Proofs.Ytllbcohfelgamaa
open Go.RowKit
set_option linter.unusedVariables false

theorem own_keeps {w w' : World} {base e s n G : Nat} {v : Value} {xs : List Value} (h : w.ownsRow base e s v n xs) (hk : Keeps G w w') (hG : G < base) : w'.ownsRow base e s v n xs := by
  obtain ⟨r1, r2⟩ := h
  refine ⟨r1, ?_⟩
  rcases r2 with h | ⟨g', cap, cur, hv, hg, hh, rest⟩
  · exact .inl h
  · exact .inr ⟨g', cap, cur, hv, hg, by rw [hk.block g' (lt_of_heap hh) (by omega)]; exact hh, rest⟩

theorem Clk.belowB {w w' : World} {B p g c n B' : Nat} {xs : List Int} (h : Clk w B p g c n xs) (hb : Below B' w w') (h1 : p < B') (h2 : g < B') : Clk w' B p g c n xs := by
  refine ⟨h.ne, h.bp, by rw [hb.block p h1]; exact h.obj, ?_, h.pos⟩
  obtain ⟨r1, r2⟩ := h.row
  refine ⟨r1, ?_⟩
  rcases r2 with ⟨e, _⟩ | ⟨g', cap, cur, hv, hg, hh, rest⟩
  · cases e
  · cases hv
    exact .inr ⟨g, c, cur, rfl, hg, by rw [hb.block g h2]; exact hh, rest⟩

/-- The calls of a step on clocks, one after the other: what is returned for each; nothing, and the error, at the first that fails. -/
def runE (f : List Int → Int → Int → List Int × Int × Int) : List (Int × Int) → List Int → List (Int × Int) → List (Int × Int) × Int
  | [], xs, acc => (acc, 0)
  | (c, t) :: r, xs, acc => if (f xs c t).2.2 = 0 then runE f r (f xs c t).1 (acc ++ [(c, (f xs c t).2.1)]) else ([], (f xs c t).2.2)
def eachF (f : List Int → Int → Int → List Int × Int × Int) (n : Int) (cs ls : List Int) : List (Int × Int) × Int :=
  if n < 1 ∨ 64 < n ∨ cs.length ≠ ls.length then ([], 2) else runE f (cs.zip ls) (List.replicate n.toNat 0) []

theorem zip_drop {cs ls : List Int} {k : Nat} (h1 : k < cs.length) (h2 : k < ls.length) : (cs.zip ls).drop k = (cs.getD k 0, ls.getD k 0) :: (cs.zip ls).drop (k + 1) := by
  rw [List.drop_eq_getElem_cons (by simp; omega)]
  simp [List.getD_eq_getElem?_getD, h1, h2]

set_option maxRecDepth 20000 in
theorem stepUntil_any (a : Addr) (w : World) : Calls Try.prog 47 #[.pointer (some a)] w fun e w' => e = .returned (.func (.func 17) #[.pointer (some a)] #[]) ∧ w = w' := by
  have hmf : ∀ (fn : Fn) (first cap : Array Value) (w : World), (Instr.makeFunc fn first cap).run Try.prog w = .ok (.func fn first cap) w := fun _ _ _ _ => rfl
  go_enter Try.func47, Try.ntmps47
  go_wp2
  go_ret
  exact ⟨rfl, rfl⟩
set_option maxRecDepth 20000 in
theorem outInt_any (a b : Int) (w : World) : Calls Try.prog 49 #[.int .i64 a, .int .i64 b] w fun e w' => e = .returned (.int .i64 b) ∧ w = w' := by
  go_enter Try.func49, Try.ntmps49
  go_wp2
  go_ret
  exact ⟨rfl, rfl⟩

set_option maxRecDepth 20000 in
set_option maxHeartbeats 1600000 in
theorem eachInt_any (n : Int) (A1 A2 : Option Addr) (n1 c1 n2 c2 : Nat) (cs ls : List Int) (w : World) (s1 : Sees w 1 A1 n1 c1 (cs.map (Value.int .i64))) (s2 : Sees w 1 A2 n2 c2 (ls.map (Value.int .i64))) (hb : n1 ≤ 10000 ∧ n2 ≤ 10000) :
    Calls Try.prog 48 #[.int .i64 n, .slice A1 n1 c1, .slice A2 n2 c2, .func (.func 47) #[] #[], .func (.func 49) #[] #[]] w fun e w' => ∃ A c m, e = .returned (.tuple #[.slice A m c, .int .i64 (eachF untilF n cs ls).2]) ∧ w'.ownsRow w.heap.size 3 1 (.slice A m c) m (((eachF untilF n cs ls).1.map (·.2)).map (Value.int .i64)) ∧ Below w.heap.size w w' := by
  have l1 := s1.length
  have l2 := s2.length
  by_cases hn : n < 1 ∨ 64 < n
  · have he : eachF untilF n cs ls = ([], 2) := by unfold eachF; rw [if_pos (by omega)]
    rw [he]
    have HN := Lib.hid hn
    clear hn he
    go_enter Try.func48, Try.ntmps48
    go_wp2_with (go_at_call 12; refine (New_bad n _ HN.out).mono ?_; rintro e w1 ⟨rfl, b1⟩)
    go_ret2
    exact ⟨none, 0, 0, rfl, World.ownsRow_nil _ _ _ _, b1⟩
  · obtain ⟨N, rfl⟩ : ∃ N : Nat, n = (N : Int) := ⟨n.toNat, by omega⟩
    have hN : 1 ≤ N ∧ N ≤ 64 := by omega
    by_cases hl : n1 = n2
    · subst hl
      have he : eachF untilF (N : Int) cs ls = runE untilF (cs.zip ls) (List.replicate N 0) [] := by unfold eachF; rw [if_neg (by omega), Int.toNat_natCast]
      rw [he]
      obtain ⟨fin, hfin⟩ : ∃ fin, runE untilF (cs.zip ls) (List.replicate N 0) [] = fin := ⟨_, rfl⟩
      rw [hfin]
      have HF := Lib.hid hfin
      have HL := Lib.hid (And.intro l1 (And.intro l2 hb))
      have HN := Lib.hid hN
      have hn3 : (n1 : Int) ≤ 10000 := by omega
      clear hn he hfin l1 l2 hb hN
      go_enter Try.func48, Try.ntmps48
      go_wp2_with (first
        | (go_at_call 12; refine (New_any N _ HN.out).mono ?_; rintro e w1 ⟨p, g, c, rfl, hC, b1⟩; have HC := Lib.hid hC; clear hC)
        | (go_at_call 47; refine (stepUntil_any _ _).mono ?_; rintro e w2 ⟨rfl, rfl⟩))
      have hbase : g < w1.heap.size := HC.out.glt
      have hwg : w.heap.size ≤ g := HC.out.bg
      have HG := Lib.hid (And.intro hbase (And.intro hwg (And.intro b1.size HC.out.plt)))
      clear hbase hwg
      go_loopw [15, 39] (fun v i wr => ∃ (k c' : Nat) (A' : Option Addr) (xs : List Int) (acc : List (Int × Int)), Hid (k ≤ n1) ∧ i = .int .i64 (k : Int) ∧ v = .slice A' k c' ∧ wr.ownsRow w1.heap.size 3 1 (.slice A' k c') k ((acc.map (·.2)).map (Value.int .i64)) ∧ Hid (Clk wr w.heap.size p g c N xs ∧ OkT xs ∧ runE untilF ((cs.zip ls).drop k) xs acc = fin) ∧ Below w.heap.size w wr ∧ w1.heap.size ≤ wr.heap.size) (fun _ i _ => n1 - (intOf i).toNat)
      case atStart => exact ⟨0, 0, none, _, [], Lib.hid (Nat.zero_le _), rfl, rfl, World.ownsRow_nil _ _ _ _, Lib.hid ⟨HC.out, OkT.zeros N, by rw [List.drop_zero]; exact HF.out⟩, b1, Nat.le_refl _⟩
      case round =>
        obtain ⟨k, c', A', xs, acc, HK, rfl, rfl, ho, HX, hbl, hsz⟩ := hrel
        by_cases hlt : k < n1
        · obtain ⟨ba, oa, hA1, g1⟩ := (s1.below hbl (Nat.le_refl _)).int hlt
          obtain ⟨bb, ob, hA2, g2⟩ := (s2.below hbl (Nat.le_refl _)).int hlt
          cases hA1
          cases hA2
          have hz := zip_drop (cs := cs) (ls := ls) (k := k) (by have := HL.out; omega) (by have := HL.out; omega)
          obtain ⟨cpu, hcpu⟩ : ∃ x, cs.getD k 0 = x := ⟨_, rfl⟩
          obtain ⟨t, ht⟩ : ∃ x, ls.getD k 0 = x := ⟨_, rfl⟩
          rw [hcpu, ht] at hz
          rw [hcpu] at g1
          rw [ht] at g2
          have hrun := HX.out.2.2
          rw [hz, runE] at hrun
          have d3 : decide ((k : Int) < (n1 : Int)) = true := by simp; omega
          have hk2 : (k : Int) ≤ 9999 := by omega
          have HLT := Lib.hid hlt
          obtain ⟨xs', v, er, hu⟩ : ∃ xs' v er, untilF xs cpu t = (xs', v, er) := ⟨_, _, _, rfl⟩
          rw [hu] at hrun
          have HU := Lib.hid hu
          by_cases her : er = 0
          · rw [if_pos her] at hrun
            subst her
            have HR := Lib.hid hrun
            clear hrun hz hcpu ht hlt hu
            go_wp2_with (first
              | (go_at_call 17; refine (Until_any _ _ _ _ _ cpu t xs _ HX.out.1 (by have := HN.out; omega) HX.out.2.1).mono ?_; rw [HU.out]; rintro e w2 ⟨rfl, hC2, hk3⟩; have HC2 := Lib.hid hC2; clear hC2; have ho2 := own_keeps ho hk3 HG.out.1; have hB2 := hbl.trans (hk3.below HG.out.2.1 hbl.size); have hs2 := hk3.size)
              | (go_at_call 49; refine (outInt_any _ _ _).mono ?_; rintro e w3 ⟨rfl, rfl⟩)
              | (at_builtin; refine wpList_app E_int rfl _ _ rfl rfl (ho2.alloc _) rfl (Sees.one _ _ _) (one1 rfl) (by simp [maxLen]; omega) (by omega) (by simp; omega) ?_; intro A4 c4 w4 hown4 hg4 hb4))
            go_roundw
            case rel =>
              have hC4 := (HC2.out.below ((Below.refl _ _).alloc (Nat.le_refl _) (.cells #[.int .i64 v] 3))).belowB hb4 HG.out.2.2.2 HG.out.1
              have hO := (untilF_ok HX.out.2.1 cpu t).1
              rw [HU.out] at hO
              exact ⟨k + 1, c4, A4, xs', acc ++ [(cpu, v)], Lib.hid HLT.out, by go_num, rfl, by simpa using hown4, Lib.hid ⟨hC4, hO, HR.out⟩, (hB2.alloc hB2.size _).trans (hb4.mono HG.out.2.2.1), by have := hb4.size; simp at this; omega⟩
            case measure => have := HLT.out; simp [intOf]; omega
          · rw [if_neg her] at hrun
            have d4 : (er == 0) = false := by simpa using her
            have HR := Lib.hid hrun
            clear hrun hz hcpu ht hlt hu her
            go_wp2_with (go_at_call 17; refine (Until_any _ _ _ _ _ cpu t xs _ HX.out.1 (by have := HN.out; omega) HX.out.2.1).mono ?_; rw [HU.out]; rintro e w2 ⟨rfl, hC2, hk3⟩; have hB2 := hbl.trans (hk3.below HG.out.2.1 hbl.size))
            go_ret2
            have e1 := HR.out
            subst e1
            exact ⟨none, 0, 0, rfl, World.ownsRow_nil _ _ _ _, hB2⟩
        · have hkn : k = n1 := by have := HK.out; omega
          have d3 : decide ((k : Int) < (n1 : Int)) = false := by simp; omega
          have d3' : decide (k < n1) = false := by simp; omega
          have hfin2 : (acc, (0 : Int)) = fin := by
            have := HX.out.2.2
            rwa [List.drop_eq_nil_of_le (by have := HL.out; simp; omega), runE] at this
          have HR := Lib.hid hfin2
          clear hlt hkn hfin2
          go_wp2
          go_ret2
          have e1 := HR.out
          subst e1
          exact ⟨A', c', k, rfl, own_base ho HG.out.2.2.1, hbl⟩
    · have he : eachF untilF (N : Int) cs ls = ([], 2) := by unfold eachF; rw [if_pos (by omega)]
      rw [he]
      have HN := Lib.hid hN
      have d1 : ((n1 : Int) == (n2 : Int)) = false := by simp; omega
      clear hn he hN
      go_enter Try.func48, Try.ntmps48
      go_wp2_with (go_at_call 12; refine (New_any N _ HN.out).mono ?_; rintro e w1 ⟨p, g, c, rfl, hC, b1⟩)
      go_ret2
      exact ⟨none, 0, 0, rfl, World.ownsRow_nil _ _ _ _, b1⟩
end Go.Proofs.Ytllbcohfelgamaa
