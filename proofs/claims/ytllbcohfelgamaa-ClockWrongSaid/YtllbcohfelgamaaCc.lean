/- Walks: SameInts, Load, New, first. -/
import Derived.Test.YtllbcohfelgamaaProg
import Derived.Test.YtllbcohfelgamaaCb
namespace Go.Proofs.Ytllbcohfelgamaa
open Go.RowKit
set_option linter.unusedVariables false

set_option maxHeartbeats 400000 in
theorem SameInts_any (A1 A2 : Option Addr) (n1 n2 c1 c2 : Nat) (l1 l2 : List Int) (w : World) (h1 : Sees w 1 A1 n1 c1 (l1.map (Value.int .i64))) (h2 : Sees w 1 A2 n2 c2 (l2.map (Value.int .i64))) :
    Calls Try.prog 18 #[.slice A1 n1 c1, .slice A2 n2 c2] w fun e w' => e = .returned (.bool (eqL l1 l2)) ∧ Below w.heap.size w w' := by
  have e1 := h1.length
  have e2 := h2.length
  by_cases hn : n1 = n2
  · subst hn
    have hm : n1 ≤ 9223372036854775807 := Nat.le_trans h1.cap h1.capm
    have E1 := Lib.hid e1
    have E2 := Lib.hid e2
    clear e1 e2
    go_enter Try.func18, Try.ntmps18
    go_wp2
    go_loopw [5] (fun i wr => ∃ k : Nat, k ≤ n1 ∧ i = .int .i64 k ∧ Below w.heap.size w wr ∧ Hid (l1.take k = l2.take k)) (fun i _ => n1 - (intOf i).toNat)
    case atStart => exact ⟨0, by omega, rfl, Below.refl _ _, rfl⟩
    case round =>
      obtain ⟨k, hk, rfl, hb, HT⟩ := hrel
      by_cases hlt : k < n1
      · obtain ⟨b1, o1, rfl, g1⟩ := (h1.below hb (Nat.le_refl _)).int hlt
        obtain ⟨b2, o2, rfl, g2⟩ := (h2.below hb (Nat.le_refl _)).int hlt
        generalize hx : l1.getD k 0 = x at g1
        generalize hy : l2.getD k 0 = y at g2
        have HX := Lib.hid hx
        have HY := Lib.hid hy
        clear hx hy
        by_cases hxy : x = y
        · subst hxy
          go_wp2_with fail
          go_quiet (fail)
          go_wp2
          go_roundw
          case rel => exact ⟨k + 1, by omega, by go_num, below_drewN hb _, takes_on (by rw [E1.out]; exact hlt) (by rw [E2.out]; exact hlt) HT.out (HX.out.trans HY.out.symm)⟩
          case measure => simp [intOf]; omega
        · have hxy' : (x != y) = true := by simpa using hxy
          have hfin : eqL l1 l2 = false := eqL_ne fun e => hxy (by rw [← HX.out, ← HY.out, e])
          have HF := Lib.hid hfin
          clear hfin
          go_wp2_with fail
          go_quiet (fail)
          go_wp2
          go_ret
          exact ⟨ret_bool HF.out.symm, below_drewN hb _⟩
      · have hfin : eqL l1 l2 = true := eqL_of (by
          have := HT.out
          rwa [List.take_of_length_le (by have := E1.out; omega), List.take_of_length_le (by have := E2.out; omega)] at this)
        have HF := Lib.hid hfin
        clear hfin
        go_wp2
        go_ret
        exact ⟨ret_bool HF.out.symm, hb⟩
  · have hne : ((n1 : Int) != (n2 : Int)) = true := by simp; omega
    have hfin : eqL l1 l2 = false := eqL_len (by omega)
    have HF := Lib.hid hfin
    clear hfin e1 e2
    go_enter Try.func18, Try.ntmps18
    go_wp2
    go_ret
    exact ⟨ret_bool HF.out.symm, Below.refl _ _⟩

/-- Times that there are. -/
def OkT (l : List Int) : Prop := ∀ x ∈ l, 0 ≤ x ∧ x ≤ 281474976710656
theorem OkT.at_ {l : List Int} (h : OkT l) {k : Nat} (hk : k < l.length) : 0 ≤ l.getD k 0 ∧ l.getD k 0 ≤ 281474976710656 := by
  have : l.getD k 0 ∈ l := by rw [List.getD_eq_getElem?_getD, List.getElem?_eq_getElem hk]; exact List.getElem_mem hk
  exact h _ this
theorem OkT.set {l : List Int} (h : OkT l) (k : Nat) {v : Int} (hv : 0 ≤ v ∧ v ≤ 281474976710656) : OkT (l.set k v) := fun x hx => (List.mem_or_eq_of_mem_set hx).elim (h x) (fun e => e ▸ hv)
theorem OkT.zeros (n : Nat) : OkT (List.replicate n 0) := fun x hx => by rw [List.eq_of_mem_replicate hx]; decide

theorem own_glt {w : World} {base e s n g c : Nat} {xs : List Value} (h : w.ownsRow base e s (.slice (some ⟨g, 0, none⟩) n c) n xs) : g < w.heap.size := by
  obtain ⟨_, h2⟩ := h
  rcases h2 with ⟨e, _⟩ | ⟨g', cap, cur, hv, hg, hh, _⟩
  · cases e
  · cases hv; exact lt_of_heap hh

set_option maxRecDepth 20000 in
set_option maxHeartbeats 800000 in
theorem Load_any (A : Option Addr) (n c : Nat) (l : List Int) (w : World) (h : Sees w 1 A n c (l.map (Value.int .i64))) (hn : 1 ≤ n ∧ n ≤ 64) (hl : OkT l) :
    Calls Try.prog 16 #[.slice A n c] w fun e w' => ∃ p g c', e = .returned (.tuple #[.pointer (some ⟨p, 0, none⟩), .int .i64 0]) ∧ Clk w' w.heap.size p g c' n l ∧ Below w.heap.size w w' := by
  have hlen := h.length
  have HLEN := Lib.hid hlen
  have HN := Lib.hid hn
  have d1 : decide ((n : Int) < 1) = false := by simp; omega
  have d2 : decide ((64 : Int) < (n : Int)) = false := by simp; omega
  have hn2 : (n : Int) ≤ 64 := by omega
  clear hlen hn
  go_enter Try.func16, Try.ntmps16
  go_wp2
  go_loopw [17] (fun i wr => ∃ k : Nat, Hid (k ≤ n) ∧ i = .int .i64 (k : Int) ∧ w = wr) (fun i _ => n - (intOf i).toNat)
  case atStart => exact ⟨0, Lib.hid (Nat.zero_le _), rfl, rfl⟩
  case round =>
    obtain ⟨k, HK, rfl, rfl⟩ := hrel
    by_cases hlt : k < n
    · obtain ⟨b1, o1, hA1, g1⟩ := h.int hlt
      cases hA1
      have hx := hl.at_ (k := k) (by rw [HLEN.out]; exact hlt)
      generalize l.getD k 0 = x at g1 hx
      have x1 : ¬ x < 0 := by omega
      have x2 : ¬ 281474976710656 < x := by omega
      have d3 : decide ((k : Int) < (n : Int)) = true := by simp; omega
      have hk2 : (k : Int) ≤ 63 := by omega
      have HL := Lib.hid hlt
      clear hlt hx
      go_wp2
      go_roundw
      case rel => exact ⟨k + 1, Lib.hid HL.out, by go_num, trivial⟩
      case measure => have := HL.out; simp [intOf]; omega
    · have d3 : decide ((k : Int) < (n : Int)) = false := by simp; omega
      have d3' : decide (k < n) = false := by simp; omega
      clear hlt
      go_wp2_with (go_at_call 29; refine (Clone_any _ _ _ l _ h (by have := HN.out; omega)).mono ?_; rintro e w2 ⟨A2, c2, rfl, o2, b2⟩; obtain ⟨g, c3, hA2, hg⟩ := own_addrK o2 HN.out.1; cases hA2; have HO := Lib.hid o2; have HB := Lib.hid b2; clear o2 b2)
      go_ret2
      exact ⟨w2.heap.size, g, c2, rfl, ⟨fun e => by have := own_glt HO.out; omega, HB.out.size, heap_alloc_new _ _, HO.out.alloc _, HN.out.1⟩, HB.out.alloc HB.out.size _⟩

set_option maxRecDepth 20000 in
theorem Load_bad (A : Option Addr) (n c : Nat) (l : List Int) (w : World) (h : Sees w 1 A n c (l.map (Value.int .i64))) (hn : ¬ ((1 ≤ n ∧ n ≤ 64) ∧ OkT l)) :
    Calls Try.prog 16 #[.slice A n c] w fun e w' => e = .returned (.tuple #[.pointer none, .int .i64 2]) ∧ w = w' := by
  have hlen := h.length
  have HLEN := Lib.hid hlen
  have hmm : n ≤ 9223372036854775807 := Nat.le_trans h.cap h.capm
  have hmx : (n : Int) ≤ 9223372036854775807 := by omega
  clear hmm
  by_cases h1 : n < 1
  · have d1 : decide ((n : Int) < 1) = true := by simp; omega
    clear hn h1 hlen
    go_enter Try.func16, Try.ntmps16
    go_wp2
    go_ret2
    exact ⟨rfl, rfl⟩
  · have d1 : decide ((n : Int) < 1) = false := by simp; omega
    by_cases h2 : 64 < n
    · have d2 : decide ((64 : Int) < (n : Int)) = true := by simp; omega
      clear hn h1 h2 hlen
      go_enter Try.func16, Try.ntmps16
      go_wp2
      go_ret2
      exact ⟨rfl, rfl⟩
    · have d2 : decide ((64 : Int) < (n : Int)) = false := by simp; omega
      have HBAD : Hid (¬ OkT l) := Lib.hid fun hk => hn ⟨⟨by omega, by omega⟩, hk⟩
      have hn2 : (n : Int) ≤ 64 := by omega
      clear hn h1 h2 hlen hmx
      go_enter Try.func16, Try.ntmps16
      go_wp2
      go_loopw [17] (fun i wr => ∃ k : Nat, Hid (k ≤ n ∧ OkT (l.take k)) ∧ i = .int .i64 (k : Int) ∧ w = wr) (fun i _ => n - (intOf i).toNat)
      case atStart => exact ⟨0, Lib.hid ⟨Nat.zero_le _, fun x hx => by simp at hx⟩, rfl, rfl⟩
      case round =>
        obtain ⟨k, HK, rfl, rfl⟩ := hrel
        by_cases hlt : k < n
        · obtain ⟨b1, o1, hA1, g1⟩ := h.int hlt
          cases hA1
          have htk := take_one (a := l) (k := k) (by rw [HLEN.out]; exact hlt)
          obtain ⟨x, ex⟩ : ∃ x, l.getD k 0 = x := ⟨_, rfl⟩
          rw [ex] at g1 htk
          have d3 : decide ((k : Int) < (n : Int)) = true := by simp; omega
          have hk2 : (k : Int) ≤ 63 := by omega
          have HL := Lib.hid hlt
          have HT := Lib.hid htk
          clear hlt htk ex
          by_cases x1 : x < 0
          · go_wp2
            go_ret2
            exact ⟨rfl, rfl⟩
          · by_cases x2 : 281474976710656 < x
            · go_wp2
              go_ret2
              exact ⟨rfl, rfl⟩
            · have HX : Hid (0 ≤ x ∧ x ≤ 281474976710656) := Lib.hid (by omega)
              go_wp2
              go_roundw
              case rel => exact ⟨k + 1, Lib.hid ⟨HL.out, fun y hy => by
                rw [HT.out] at hy
                rcases List.mem_append.1 hy with h | h
                · exact HK.out.2 y h
                · rw [List.mem_singleton.1 h]; exact HX.out⟩, by go_num, trivial⟩
              case measure => have := HL.out; simp [intOf]; omega
        · have hkn : k = n := by have := HK.out; omega
          exact (HBAD.out (by have := HK.out.2; rwa [hkn, List.take_of_length_le (by rw [HLEN.out]; exact Nat.le_refl _)] at this)).elim

set_option maxRecDepth 20000 in
theorem New_any (n : Nat) (w : World) (hn : 1 ≤ n ∧ n ≤ 64) :
    Calls Try.prog 12 #[.int .i64 (n : Int)] w fun e w' => ∃ p g c', e = .returned (.tuple #[.pointer (some ⟨p, 0, none⟩), .int .i64 0]) ∧ Clk w' w.heap.size p g c' n (List.replicate n 0) ∧ Below w.heap.size w w' := by
  have HN := Lib.hid hn
  have d1 : decide ((n : Int) < 0) = false := by simp
  have d2 : decide ((64 : Int) < (n : Int)) = false := by simp; omega
  have hn2 : (n : Int) ≤ 64 := by omega
  clear hn
  go_enter Try.func12, Try.ntmps12
  go_wp2_with (first
    | (at_make; refine wpList_mkF E_int rfl _ _ rfl n rfl rfl (by rfl) (by rfl) (by omega) (by simp [maxLen]; omega) ?_; intro w1 hown1 hg1 hb1; have HO := Lib.hid hown1; clear hown1)
    | (go_at_call 16; refine (Load_any _ _ _ (List.replicate n 0) _ (by exact sees_own HO.out) HN.out (OkT.zeros n)).mono ?_; rintro e w2 ⟨p, g, c2, rfl, hC, b2⟩; have HC := Lib.hid hC; clear hC))
  go_ret2
  exact ⟨p, g, c2, rfl, HC.out.base hb1.size, below_step hb1 b2⟩

set_option maxRecDepth 20000 in
theorem New_bad (n : Int) (w : World) (hn : n < 1 ∨ 64 < n) :
    Calls Try.prog 12 #[.int .i64 n] w fun e w' => e = .returned (.tuple #[.pointer none, .int .i64 2]) ∧ Below w.heap.size w w' := by
  by_cases h0 : n < 0
  · clear hn
    go_enter Try.func12, Try.ntmps12
    go_wp2
    go_ret2
    exact ⟨rfl, Below.refl _ _⟩
  · by_cases h1 : 64 < n
    · clear hn
      go_enter Try.func12, Try.ntmps12
      go_wp2
      go_ret2
      exact ⟨rfl, Below.refl _ _⟩
    · obtain rfl : n = 0 := by omega
      clear hn h0 h1
      go_enter Try.func12, Try.ntmps12
      go_wp2_with (first
        | (at_make; refine wpList_mkF E_int rfl _ _ rfl 0 rfl rfl (by rfl) (by rfl) (by omega) (by simp [maxLen]) ?_; intro w1 hown1 hg1 hb1; have HO := Lib.hid hown1; clear hown1)
        | (go_at_call 16; refine (Load_bad _ _ _ (List.replicate 0 0) _ (by exact sees_own HO.out) (by omega)).mono ?_; rintro e w2 ⟨rfl, rfl⟩))
      go_ret2
      exact ⟨rfl, hb1⟩
end Go.Proofs.Ytllbcohfelgamaa
