/- made; RingWrong. -/
import Derived.Test.YtgomnifcgaigkaaProg
import Derived.Test.YtgomnifcgaigkaaGi
namespace Go.Proofs.Ytgomnifcgaigkaa
open Go.RowKit Go.Shelf
set_option linter.unusedVariables false

set_option maxRecDepth 20000 in
theorem made_any (c : Nat) (w : World) (hc : c < 256) :
    Calls Try.prog 12 #[.int .u8 (c : Int)] w fun e w' => ∃ p, e = .returned (.tuple #[.pointer (some ⟨p, 0, none⟩), .int .i64 (1 + (c : Int) % 20), .bool true]) ∧ RngI w' w.heap.size p p ⟨0, 0, 0, 1 + (c : Int) % 20, []⟩ ∧ Below w.heap.size w w' := by
  have h1 : (c : Int) < 256 := by omega
  have HN := Lib.hid (show 1 ≤ 1 + (c : Int) % 20 ∧ 1 + (c : Int) % 20 ≤ 65536 by omega)
  clear hc
  go_enter Try.func12, Try.ntmps12
  go_wp2_with (go_at_call 25; refine (NewR_any _ _ HN.out).mono ?_; rintro e w' ⟨p, rfl, hr, hb⟩)
  exact bodyPost_ret (results_tmp3 rfl _ _ _) rfl ⟨p, rfl, hr, hb⟩

/-- Put, Take, Drain, with what lies below, and what has been counted. -/
theorem PutI_at (B p g B0 : Nat) (N x : Int) (S : RS (Int × Int)) (w0 w : World) (h : RngI w B p g S) (hc : Cnt N S) (hN : N ≤ 1000000) (hb : Below B0 w0 w) (hB : B0 ≤ B) :
    Calls Try.prog 14 #[.pointer (some ⟨p, 0, none⟩), .int .i64 x] w fun e w' => ∃ g', e = .returned (.int .i64 (putR (fun o => (x, o)) S).2) ∧ RngI w' B p g' (putR (fun o => (x, o)) S).1 ∧ Cnt (N + 1) (putR (fun o => (x, o)) S).1 ∧ (g' = g ∨ w.heap.size ≤ g') ∧ Spared p g w w' ∧ Below B0 w0 w' := by
  have h1 := h.bp
  have h2 := h.plt
  have h3 := h.bg
  refine (PutI_any B p g S x w h (hc.mono (by omega))).mono ?_
  rintro e w' ⟨g', e1, e2, e3, e4⟩
  exact ⟨g', e1, e2, hc.put _, e3, e4, e4.below (by omega) (by omega) hb (by omega)⟩
theorem TakeI_at (B p g B0 : Nat) (N k : Int) (S : RS (Int × Int)) (w0 w : World) (h : RngI w B p g S) (hc : Cnt N S) (hb : Below B0 w0 w) (hB : B0 ≤ B) :
    Calls Try.prog 15 #[.pointer (some ⟨p, 0, none⟩), .int .i64 k] w fun e w' => ∃ A c, e = .returned (.tuple #[.slice A (takeR k S).2.1.length c, .int .i64 (takeR k S).2.2]) ∧ RngI w' B p g (takeR k S).1 ∧ Cnt N (takeR k S).1 ∧ w'.ownsRow w.heap.size 29 2 (.slice A (takeR k S).2.1.length c) (takeR k S).2.1.length ((takeR k S).2.1.flatMap ceI) ∧ Spared p g w w' ∧ Below B0 w0 w' := by
  have h1 := h.bp
  have h2 := h.plt
  have h3 := h.bg
  refine (TakeI_any B p g S k w h).mono ?_
  rintro e w' ⟨v, e1, ⟨A, c, rfl, e2⟩, e3, e4⟩
  exact ⟨A, c, e1, e3, hc.take k, e2, e4, e4.below (by omega) (by omega) hb (by omega)⟩
theorem DrainI_at (B p g B0 : Nat) (N : Int) (S : RS (Int × Int)) (w0 w : World) (h : RngI w B p g S) (hc : Cnt N S) (hb : Below B0 w0 w) (hB : B0 ≤ B) :
    Calls Try.prog 16 #[.pointer (some ⟨p, 0, none⟩)] w fun e w' => ∃ A c, e = .returned (.tuple #[.slice A S.L.length c, .int .i64 S.o, .int .i64 0]) ∧ RngI w' B p g (drainR S).1 ∧ Cnt N (drainR S).1 ∧ w'.ownsRow w.heap.size 29 2 (.slice A S.L.length c) S.L.length (S.L.flatMap ceI) ∧ Spared p g w w' ∧ Below B0 w0 w' := by
  have h1 := h.bp
  have h2 := h.plt
  have h3 := h.bg
  refine (DrainR_any B p g S w h).mono ?_
  rintro e w' ⟨v, e1, ⟨A, c, rfl, e2⟩, e3, e4⟩
  exact ⟨A, c, e1, e3, hc.drain, e2, e4, e4.below (by omega) (by omega) hb (by omega)⟩
theorem Cnt.zero {α : Type} (n : Int) : Cnt 0 (⟨0, 0, 0, n, []⟩ : RS α) := by unfold Cnt; simp

set_option maxRecDepth 100000 in
set_option maxHeartbeats 1600000 in
theorem RingWrong_any (c : Nat) (n : Int) (it : Nat) (w : World) (hc : c < 256) (hn : -9223372036854775808 ≤ n ∧ n ≤ 9223372036854775807) (hi : it < 256) :
    Calls Try.prog 6 #[.int .u8 (c : Int), .int .i64 n, .int .u8 (it : Int)] w fun e w' => e = .returned (.bool true) ∧ Below w.heap.size w w' := by
  obtain ⟨N1, hN1, hN1b⟩ : ∃ N : Int, (if 0 < n then 0 else n) = N ∧ N < 1 := ⟨_, rfl, by split <;> omega⟩
  obtain ⟨N2, hN2, hN2b⟩ : ∃ N : Int, (if n < 65537 then 65537 else n) = N ∧ 65536 < N := ⟨_, rfl, by split <;> omega⟩
  obtain ⟨N3, hN3, hN3b⟩ : ∃ N : Int, (if -1 < n then -1 else n) = N ∧ N < 0 := ⟨_, rfl, by split <;> omega⟩
  have HN := Lib.hid (And.intro hN1b (And.intro hN2b hN3b))
  have HC := Lib.hid hc
  obtain ⟨K, hK, hK2⟩ : ∃ K : Nat, (it : Int) % 50 = (K : Int) ∧ K < 50 := ⟨it % 50, by norm_cast, Nat.mod_lt _ (by decide)⟩
  have HK := Lib.hid hK2
  have hi3 : (it : Int) < 256 := by omega
  clear hN1b hN2b hN3b hn hc hK2 hi
  go_enter Try.func6, Try.ntmps6
  go_wp2_with (go_at_call 11; refine (awake_any _).mono ?_; rintro e w1 ⟨rfl, b1⟩)
  obtain ⟨W, hW⟩ : ∃ W, w1.alloc (.cells #[.int .i64 N1, .int .i64 N2] 3) = W := ⟨_, rfl⟩
  have hbW : Below w.heap.size w W := by rw [← hW]; exact b1.alloc b1.size _
  have h2W : ∀ i, i < 2 → ∃ v, (v < 1 ∨ 65536 < v) ∧ W.cell? ⟨w1.heap.size, i, none⟩ = some (.int .i64 v) := by
    intro i hi
    rw [← hW]
    match i, hi with
    | 0, _ => exact ⟨N1, .inl HN.out.1, (cell_of_row _ _ 0 _ _ _ (heap_alloc_new w1 _)).trans rfl⟩
    | 1, _ => exact ⟨N2, .inr HN.out.2.1, (cell_of_row _ _ 1 _ _ _ (heap_alloc_new w1 _)).trans rfl⟩
  have hlW : w1.heap.size < W.heap.size := by rw [← hW]; simp
  have H2 := Lib.hid (And.intro h2W hlW)
  rw [hW]
  clear hW h2W hlW hN1 hN2 b1
  generalize w1.heap.size = G at H2 ⊢
  go_loopw [27] (fun i wr => ∃ k : Nat, Hid (k ≤ 2) ∧ i = .int .i64 (k : Int) ∧ Below W.heap.size W wr) (fun i _ => 2 - (intOf i).toNat)
  case atStart => exact ⟨0, Lib.hid (by omega), rfl, Below.refl _ _⟩
  case round =>
    obtain ⟨k, HI, rfl, hb⟩ := hrel
    by_cases hlt : k < 2
    · obtain ⟨v, hv, hcell⟩ := H2.out.1 k hlt
      have g1 : wr.cell? ⟨G, k, none⟩ = some (.int .i64 v) := (hb.cell (p := ⟨G, k, none⟩) H2.out.2).trans hcell
      have d1 : decide ((k : Int) < 2) = true := by simp; omega
      have hk1 : (k : Int) ≤ 1 := by omega
      have HLT := Lib.hid hlt
      have HV := Lib.hid hv
      clear hlt hcell hv
      go_wp2_with (go_at_call 25; refine (NewI_bad _ _ HV.out).mono ?_; rintro e w2 ⟨rfl, rfl⟩)
      go_roundw
      case rel => exact ⟨k + 1, Lib.hid HLT.out, by go_num, hb⟩
      case measure => have := HLT.out; simp [intOf]; omega
    · have d1 : decide ((k : Int) < 2) = false := by simp; omega
      have hb2 := hbW.trans (hb.mono hbW.size)
      clear hlt hb
      go_wp2_with (go_at_call 12; refine (made_any c _ HC.out).mono ?_; rintro e w3 ⟨p, rfl, hr, hb3⟩)
      have hb4 := hb2.trans (hb3.mono hb2.size)
      have hBs := hb2.size
      generalize wr.heap.size = B at hr hBs
      have HR := Lib.hid hr
      have HB := Lib.hid hBs
      clear hr hb3 d1 hBs hb2
      rw [hK]
      clear hK
      go_loopw [54] (fun i wq => ∃ (j g : Nat) (S : RS (Int × Int)), Hid (j ≤ K) ∧ i = .int .i64 (j : Int) ∧ Hid (RngI wq B p g S ∧ Cnt (j : Int) S) ∧ Below w.heap.size w wq) (fun i _ => K - (intOf i).toNat)
      case atStart => exact ⟨0, p, _, Lib.hid (Nat.zero_le _), rfl, Lib.hid ⟨HR.out, Cnt.zero _⟩, hb4⟩
      case round =>
        obtain ⟨j, g, S, HJ, rfl, HS, hbq⟩ := hrel
        by_cases hlt : j < K
        · have d2 : decide ((j : Int) < (K : Int)) = true := by simp; omega
          have hj1 : (j : Int) ≤ 49 := by have := HK.out; omega
          have HLT := Lib.hid hlt
          have HBQ := Lib.hid hbq
          clear hlt hbq
          go_wp2_with (go_at_call 14; refine (PutI_at B p g w.heap.size (j : Int) _ S w wr HS.out.1 HS.out.2 (by omega) HBQ.out HB.out).mono ?_; rintro e w5 ⟨g5, rfl, r5, c5, n5, s5, b5⟩)
          go_roundw
          case rel => exact ⟨j + 1, g5, _, Lib.hid HLT.out, by go_num, Lib.hid ⟨r5, c5⟩, b5⟩
          case measure => have := HLT.out; simp [intOf]; omega
        · have d2 : decide ((j : Int) < (K : Int)) = false := by simp; omega
          have d2' : decide (j < K) = false := by simp; omega
          have hT := TakeI_at B p g w.heap.size (j : Int) N3 S w wr HS.out.1 HS.out.2 hbq HB.out
          rw [show takeR N3 S = (S, [], 2) from if_pos HN.out.2.2] at hT
          have HT := Lib.hid hT
          clear hlt hT hbq
          go_wp2_with (first
            | (go_at_call 15; refine HT.out.mono ?_; rintro e w6 ⟨A6, c6, rfl, r6, c6', o6, s6, b6⟩; have R6 := Lib.hid r6; clear r6 c6' o6 s6)
            | (go_at_call 19; have _q := R6; refine (LenR_any _ p _ S _ R6.out).mono ?_; rintro e w7 ⟨rfl, rfl⟩)
            | (go_at_call 20; have _q := R6; refine (OpenR_any _ p _ S _ R6.out).mono ?_; rintro e w7 ⟨rfl, rfl⟩)
            | (go_at_call 19; refine (LenR_any _ p _ S _ HS.out.1).mono ?_; rintro e w7 ⟨rfl, rfl⟩)
            | (go_at_call 20; refine (OpenR_any _ p _ S _ HS.out.1).mono ?_; rintro e w7 ⟨rfl, rfl⟩))
          go_ret
          exact ⟨rfl, b6⟩
end Go.Proofs.Ytgomnifcgaigkaa
