/- Walks: RingFresh. -/
import Derived.Test.YtgomnifcgaigkaaProg
import Derived.Test.YtgomnifcgaigkaaGl
namespace Go.Proofs.Ytgomnifcgaigkaa
open Go.RowKit Go.Shelf
set_option linter.unusedVariables false

theorem made_N (c N : Nat) (w : World) (hc : c < 256) (hN : 1 + (c : Int) % 20 = (N : Int)) :
    Calls Try.prog 12 #[.int .u8 (c : Int)] w fun e w' => ∃ p, e = .returned (.tuple #[.pointer (some ⟨p, 0, none⟩), .int .i64 (N : Int), .bool true]) ∧ RngI w' w.heap.size p p ⟨0, 0, 0, N, []⟩ ∧ Below w.heap.size w w' := by
  have := made_any c w hc
  rwa [hN] at this
theorem putR_cap {α : Type} (mk : Int → α) (S : RS α) : (putR mk S).1.cap = S.cap := by unfold putR; split <;> rfl
theorem takeR_cap {α : Type} (k : Int) (S : RS α) : (takeR k S).1.cap = S.cap := by unfold takeR; split <;> rfl

def seqS (j : Nat) : List (Int × Int) := (List.range j).map fun (i : Nat) => ((100 : Int) + (i : Int), (0 : Int))
theorem seqS_len (j : Nat) : (seqS j).length = j := by simp [seqS]
theorem seqS_get {j k : Nat} (h : k < j) : (seqS j)[k]? = some ((100 : Int) + (k : Int), (0 : Int)) := by simp [seqS, h]
theorem put_seq {a rf : Int} {N j : Nat} (h : j < N) : putR (fun o => ((100 + j : Int), o)) (⟨0, a, rf, N, seqS j⟩ : RS (Int × Int)) = (⟨0, a + 1, rf, N, seqS (j + 1)⟩, 0) := by
  unfold putR
  rw [if_neg (by simp only [seqS_len]; omega)]
  simp [seqS, List.range_succ]
theorem put_seqN {a rf : Int} {N : Nat} (x : Int) : putR (fun o => (x, o)) (⟨0, a, rf, N, seqS N⟩ : RS (Int × Int)) = (⟨1, a, rf + 1, N, seqS N⟩, 4) := by
  unfold putR
  rw [if_pos (by simp only [seqS_len])]
  rfl

theorem PutI_to (B p g B0 : Nat) (N x : Int) (S S' : RS (Int × Int)) (r : Int) (w0 w : World) (h : RngI w B p g S) (hc : Cnt N S) (hN : N ≤ 1000000) (hb : Below B0 w0 w) (hB : B0 ≤ B) (hS : putR (fun o => (x, o)) S = (S', r)) :
    Calls Try.prog 14 #[.pointer (some ⟨p, 0, none⟩), .int .i64 x] w fun e w' => ∃ g', e = .returned (.int .i64 r) ∧ RngI w' B p g' S' ∧ Cnt (N + 1) S' ∧ (g' = g ∨ w.heap.size ≤ g') ∧ Spared p g w w' ∧ Below B0 w0 w' := by
  have := PutI_at B p g B0 N x S w0 w h hc hN hb hB
  rwa [hS] at this

theorem DrainI_to (B p g B0 nn : Nat) (N o ac rf cap : Int) (L : List (Int × Int)) (w0 w : World) (h : RngI w B p g ⟨o, ac, rf, cap, L⟩) (hc : Cnt N (⟨o, ac, rf, cap, L⟩ : RS (Int × Int))) (hb : Below B0 w0 w) (hB : B0 ≤ B) (hn : L.length = nn) :
    Calls Try.prog 16 #[.pointer (some ⟨p, 0, none⟩)] w fun e w' => ∃ A c, e = .returned (.tuple #[.slice A nn c, .int .i64 o, .int .i64 0]) ∧ RngI w' B p g ⟨0, ac, rf, cap, []⟩ ∧ Cnt N (⟨0, ac, rf, cap, []⟩ : RS (Int × Int)) ∧ HeldRow w' 29 2 (.slice A nn c) nn (L.flatMap ceI) p g ∧ Below B0 w0 w' := by
  subst hn
  refine (DrainI_at B p g B0 N _ w0 w h hc hb hB).mono ?_
  rintro e w' ⟨A, c, e1, e2, e3, e4, e5, e6⟩
  exact ⟨A, c, e1, e2, e3, HeldRow.fresh e4 h.plt h.glt, e6⟩

set_option maxRecDepth 100000 in
set_option maxHeartbeats 3200000 in
theorem RingFresh_any (c : Nat) (A : Option Addr) (n0 cp : Nat) (l : List Int) (w : World) (hc : c < 256) (h : Sees w 1 A n0 cp (l.map (Value.int .u8))) (hl : Bytes l) :
    Calls Try.prog 4 #[.int .u8 (c : Int), .slice A n0 cp] w fun e w' => e = .returned (.bool true) ∧ Below w.heap.size w w' := by
  obtain ⟨n, hm0, hm20, hmin, hmc⟩ := min_is n0 100
  have hmi : (if (100 : Int) < (n0 : Int) then (100 : Int) else (n0 : Int)) = (n : Int) := by split <;> omega
  have hmi' : (if 100 < n0 then (100 : Int) else (n0 : Int)) = (n : Int) := by split <;> omega
  have hcut := fun w => run_cutr E_u8 A n0 cp n (Nat.le_trans hm0 h.cap) w
  have hs := h.pre hm0
  rw [Nat.mul_one, ← List.map_take] at hs
  have hb := (show Bytes (l.take n) from fun y hy => hl y (List.mem_of_mem_take hy))
  generalize l.take n = r at hs hb
  obtain ⟨N, hN, hN2⟩ : ∃ N : Nat, 1 + (c : Int) % 20 = (N : Int) ∧ 1 ≤ N ∧ N ≤ 20 := ⟨1 + c % 20, by norm_cast, by omega, by omega⟩
  have HS := Lib.hid hs
  have HB := Lib.hid hb
  have HK := Lib.hid hm20
  have HC := Lib.hid (And.intro hc hN)
  have HN := Lib.hid hN2
  have hn3 : (n : Int) ≤ 100 := by omega
  have hN3 : (N : Int) ≤ 20 := by omega
  clear hs hb h hl hm0 hm20 hmin hmc hc hN hN2
  go_enter Try.func4, Try.ntmps4
  go_wp2_with (first
    | (go_at_call 12; refine (made_N c N _ HC.out.1 HC.out.2).mono ?_; rintro e w2 ⟨p, rfl, hr, b2⟩)
    | (go_at_call 11; refine (awake_any _).mono ?_; rintro e w1 ⟨rfl, b1⟩))
  have hB : w.heap.size ≤ w1.heap.size := b1.size
  have hb2 := b1.trans (b2.mono b1.size)
  generalize w1.heap.size = B at hr hB
  have HR := Lib.hid hr
  have HBB := Lib.hid hB
  have HB2 := Lib.hid hb2
  clear hB hr b1 b2 hb2
  go_loopw [35] (fun i wr => ∃ (k g : Nat) (S : RS (Int × Int)), Hid (k ≤ n) ∧ i = .int .i64 (k : Int) ∧ Hid (RngI wr B p g S ∧ Cnt (k : Int) S ∧ S.cap = (N : Int) ∧ Below w.heap.size w wr)) (fun i _ => n - (intOf i).toNat)
  case atStart => exact ⟨0, p, _, Lib.hid (Nat.zero_le _), rfl, Lib.hid ⟨HR.out, Cnt.zero _, rfl, HB2.out⟩⟩
  case round =>
    obtain ⟨k, g, S, HI, rfl, HH⟩ := hrel
    by_cases hlt : k < n
    · obtain ⟨b0, o0, hA, g1⟩ := (HS.out.below HH.out.2.2.2 (Nat.le_refl _)).int hlt
      cases hA
      have hx := HB.out.at_ (k := k) (by rw [HS.out.length]; exact hlt)
      generalize r.getD k 0 = a at g1 hx
      obtain ⟨hx1, hx2⟩ := hx
      have d1 : decide ((k : Int) < (n : Int)) = true := by simp; omega
      have hk2 : (k : Int) < (n : Int) := by omega
      have HLT := Lib.hid hlt
      clear hlt
      by_cases ha : a < 200
      · have d2 : decide (a < 200) = true := by simpa using ha
        clear ha
        go_wp2_with (go_at_call 14; refine (PutI_at B p g w.heap.size (k : Int) _ S w _ HH.out.1 HH.out.2.1 (by omega) HH.out.2.2.2 HBB.out).mono ?_; rintro e1 w5 ⟨g5, rfl, r5, c5, n5, s5, b5⟩)
        go_roundw
        case rel => exact ⟨k + 1, g5, _, Lib.hid HLT.out, by go_num, Lib.hid ⟨r5, c5, by rw [putR_cap]; exact HH.out.2.2.1, b5⟩⟩
        case measure => have := HLT.out; simp [intOf]; omega
      · have d2 : decide (a < 200) = false := by simpa using ha
        have hT := TakeI_at B p g w.heap.size (k : Int) (a % 3) S w wr HH.out.1 HH.out.2.1 HH.out.2.2.2 HBB.out
        have hcp := takeR_cap (a % 3) S
        generalize takeR (a % 3) S = T at hT hcp
        obtain ⟨T1, T2, T3⟩ := T
        have HT := Lib.hid hT
        have HP := Lib.hid hcp
        clear ha hT hcp
        go_wp2_with (go_at_call 15; refine HT.out.mono ?_; rintro e1 w5 ⟨A5, c5, rfl, r5, n5, o5, s5, b5⟩)
        go_roundw
        case rel => exact ⟨k + 1, g, T1, Lib.hid HLT.out, by go_num, Lib.hid ⟨r5, n5.mono (by omega), by have := HP.out; exact this.trans HH.out.2.2.1, b5⟩⟩
        case measure => have := HLT.out; simp [intOf]; omega
    · have d1 : decide ((k : Int) < (n : Int)) = false := by simp; omega
      have d1' : decide (k < n) = false := by simp; omega
      obtain ⟨so, sa, sr, sc, sL⟩ := S
      have hcp : sc = (N : Int) := HH.out.2.2.1
      subst hcp
      have HT := Lib.hid (DrainI_at B p g w.heap.size (k : Int) _ w wr HH.out.1 HH.out.2.1 HH.out.2.2.2 HBB.out)
      have HKN := Lib.hid HI.out
      have hk9 : (k : Int) ≤ 100 := by have := HI.out; omega
      clear hlt
      go_wp2_with (first
        | (go_at_call 16; refine HT.out.mono ?_; rintro e1 w6 ⟨A6, c6, rfl, r6, c6', o6, s6, b6⟩; have R6 := Lib.hid (show RngI w6 B p g ⟨0, sa, sr, N, []⟩ from r6); have C6 := Lib.hid (show Cnt (k : Int) (⟨0, sa, sr, N, []⟩ : RS (Int × Int)) from c6'); have B6 := Lib.hid b6; clear r6 c6' o6 s6 b6)
        | (go_at_call 19; refine (LenR_any _ p _ _ _ R6.out).mono ?_; rintro e w7 ⟨rfl, rfl⟩)
        | (go_at_call 20; refine (OpenR_any _ p _ _ _ R6.out).mono ?_; rintro e w7 ⟨rfl, rfl⟩))
      clear d1 d1'
      go_loopw [68] (fun i wr => ∃ (j g : Nat), Hid (j ≤ N) ∧ i = .int .i64 (j : Int) ∧ Hid (RngI wr B p g ⟨0, sa + j, sr, N, seqS j⟩ ∧ Cnt ((k : Int) + j) (⟨0, sa + j, sr, N, seqS j⟩ : RS (Int × Int)) ∧ Below w.heap.size w wr)) (fun i _ => N - (intOf i).toNat)
      case atStart => exact ⟨0, g, Lib.hid (Nat.zero_le _), rfl, Lib.hid ⟨by simpa [seqS] using R6.out, by simpa [seqS] using C6.out, B6.out⟩⟩
      case round =>
        obtain ⟨j, g', HJ, rfl, HQ⟩ := hrel
        by_cases hlt : j < N
        · have d2 : decide ((j : Int) < (N : Int)) = true := by simp; omega
          have hj2 : (j : Int) < (N : Int) := by omega
          have HLT := Lib.hid hlt
          clear hlt
          go_wp2_with (go_at_call 14; refine (PutI_to B p g' w.heap.size ((k : Int) + j) _ _ _ _ w _ HQ.out.1 HQ.out.2.1 (by omega) HQ.out.2.2 HBB.out (put_seq HLT.out)).mono ?_; rintro e1 w5 ⟨g5, rfl, r5, c5, n5, s5, b5⟩)
          go_roundw
          case rel => exact ⟨j + 1, g5, Lib.hid HLT.out, by go_num, Lib.hid ⟨by have := r5; rw [Int.add_assoc] at this; exact_mod_cast this, by have := c5; rw [Int.add_assoc, Int.add_assoc] at this; exact_mod_cast this, b5⟩⟩
          case measure => have := HLT.out; simp [intOf]; omega
        · have hjN : j = N := by have := HJ.out; omega
          subst hjN
          have d2 : decide ((j : Int) < (j : Int)) = false := by simp
          have HT2 := Lib.hid (PutI_to B p g' w.heap.size ((k : Int) + j) 0 _ _ _ w wr HQ.out.1 HQ.out.2.1 (by omega) HQ.out.2.2 HBB.out (put_seqN 0))
          clear hlt
          go_wp2_with (first
            | (go_at_call 16; have _q := R5; refine (DrainI_to B p g5 w.heap.size j _ _ _ _ _ _ w _ R5.out.1 R5.out.2.1 R5.out.2.2 HBB.out (seqS_len j)).mono ?_; rintro e1 w6 ⟨A6, c6, rfl, r6, c6', o6, b6⟩; have O6 := Lib.hid (And.intro o6 b6); clear r6 c6' o6 b6)
            | (go_at_call 14; refine HT2.out.mono ?_; rintro e1 w5 ⟨g5, rfl, r5, c5, n5, s5, b5⟩; have R5 := Lib.hid (And.intro r5 (And.intro c5 b5)); clear r5 c5 n5 s5 b5))
          go_loopw [100] (fun i wr => ∃ m : Nat, Hid (m ≤ j) ∧ i = .int .i64 (m : Int) ∧ Below w6.heap.size w6 wr) (fun i _ => j - (intOf i).toNat)
          case atStart => exact ⟨0, Lib.hid (Nat.zero_le _), rfl, Below.refl _ _⟩
          case round =>
            obtain ⟨m, HM, rfl, hb⟩ := hrel
            by_cases hlt : m < j
            · obtain ⟨e1, e2⟩ := ceI_get (seqS_get hlt)
              obtain ⟨q, rfl, s0, s1⟩ := look2 (O6.out.1.below hb (Nat.le_refl _)) e1 e2
              rw [Nat.mul_comm 2 m] at s0 s1
              simp only [] at s0 s1
              have d3 : decide ((m : Int) < (j : Int)) = true := by simp; omega
              have hm2 : (m : Int) < (j : Int) := by omega
              have HLT := Lib.hid hlt
              clear hlt e1 e2
              go_wp2
              go_roundw
              case rel => exact ⟨m + 1, Lib.hid HLT.out, by go_num, hb.alloc hb.size _⟩
              case measure => have := HLT.out; simp [intOf]; omega
            · have d3 : decide ((m : Int) < (j : Int)) = false := by simp; omega
              have d3' : decide (m < j) = false := by simp; omega
              have HBF := Lib.hid (O6.out.2.trans (hb.mono O6.out.2.size))
              clear hlt
              go_wp2
              go_ret
              exact ⟨rfl, HBF.out⟩
end Go.Proofs.Ytgomnifcgaigkaa
