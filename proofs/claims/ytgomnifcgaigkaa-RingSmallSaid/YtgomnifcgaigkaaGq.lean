/- Walks: RingFull. Printed by gen_gq.py. -/
import Derived.Test.YtgomnifcgaigkaaProg
import Derived.Test.YtgomnifcgaigkaaGp
namespace Go.Proofs.Ytgomnifcgaigkaa
open Go.RowKit Go.Shelf
set_option linter.unusedVariables false

theorem last_cells {w : World} {TS nn c p g : Nat} {A : Option Addr} {L : List (Int × Int)} {k o : Int} (h : HeldRow w TS 2 (.slice A (nn + 1) c) (nn + 1) ((L ++ [(k, o)]).flatMap ceI) p g) (hn : L.length = nn) :
    ∃ q, A = some ⟨q, 0, none⟩ ∧ w.cell? ⟨q, nn * 2, none⟩ = some (.int .i64 k) ∧ w.cell? ⟨q, nn * 2 + 1, none⟩ = some (.int .i64 o) := by
  have hlast : (L ++ [(k, o)])[nn]? = some (k, o) := by
    rw [← hn, List.getElem?_append_right (Nat.le_refl _)]; simp
  obtain ⟨v1, v2⟩ := ceI_get hlast
  obtain ⟨q, hq, t0, t1⟩ := look2 h v1 v2
  rw [Nat.mul_comm 2 nn] at t0 t1
  exact ⟨q, hq, t0, t1⟩

set_option maxRecDepth 100000 in
set_option maxHeartbeats 6400000 in
theorem RingFull_any (c : Nat) (A : Option Addr) (n0 cp : Nat) (l : List Int) (w : World) (hc : c < 256) (h : Sees w 1 A n0 cp (l.map (Value.int .u8))) (hl : Bytes l) :
    Calls Try.prog 7 #[.int .u8 (c : Int), .slice A n0 cp] w fun e w' => e = .returned (.bool true) ∧ Below w.heap.size w w' := by
  obtain ⟨n, hm0, hm20, hmin, hmc⟩ := min_is n0 200
  have hmi : (if (200 : Int) < (n0 : Int) then (200 : Int) else (n0 : Int)) = (n : Int) := by split <;> omega
  have hmi' : (if 200 < n0 then (200 : Int) else (n0 : Int)) = (n : Int) := by split <;> omega
  have hcut := fun w => run_cutr E_u8 A n0 cp n (Nat.le_trans hm0 h.cap) w
  have hs := h.pre hm0
  rw [Nat.mul_one, ← List.map_take] at hs
  have hb := (show Bytes (l.take n) from fun y hy => hl y (List.mem_of_mem_take hy))
  generalize l.take n = r at hs hb
  obtain ⟨N, hN, hN2⟩ : ∃ N : Nat, 1 + (c : Int) % 20 = (N : Int) ∧ 1 ≤ N ∧ N ≤ 20 := ⟨1 + c % 20, by norm_cast, by omega, by omega⟩
  have HS := Lib.hid hs
  have HB := Lib.hid hb
  have HK := Lib.hid hm20
  have HC := Lib.hid (And.intro hc hN)
  have hn3 : (n : Int) ≤ 200 := by omega
  have hN3 : (N : Int) ≤ 20 := by omega
  clear hs hb h hl hm0 hm20 hmin hmc hc hN hN2
  go_enter Try.func7, Try.ntmps7
  go_wp2_with (first
    | (go_at_call 12; refine (made_N c N _ HC.out.1 HC.out.2).mono ?_; rintro e w2 ⟨p, rfl, hr, b2⟩)
    | (go_at_call 11; refine (awake_any _).mono ?_; rintro e w1 ⟨rfl, b1⟩))
  have hB : w.heap.size ≤ w1.heap.size := b1.size
  have hb2 := b1.trans (b2.mono b1.size)
  generalize w1.heap.size = B at hr hB
  have HR := Lib.hid hr
  have HBB := Lib.hid hB
  have HB2 := Lib.hid hb2
  clear hB hr b1 b2 hb2
  go_loopw [35] (fun i wr => ∃ (k g : Nat) (o ac rf : Int) (L : List (Int × Int)), Hid (k ≤ n) ∧ i = .int .i64 (k : Int) ∧ Hid (RngI wr B p g ⟨o, ac, rf, N, L⟩ ∧ Cnt (k : Int) (⟨o, ac, rf, N, L⟩ : RS (Int × Int)) ∧ Below w.heap.size w wr)) (fun i _ => n - (intOf i).toNat)
  case atStart => exact ⟨0, p, 0, 0, 0, [], Lib.hid (Nat.zero_le _), rfl, Lib.hid ⟨HR.out, Cnt.zero _, HB2.out⟩⟩
  case round =>
    obtain ⟨k, g, o, ac, rf, L, HI, rfl, HH⟩ := hrel
    by_cases hlt : k < n
    · obtain ⟨b0, o0, hA, g1⟩ := (HS.out.below HH.out.2.2 (Nat.le_refl _)).int hlt
      cases hA
      have hx := HB.out.at_ (k := k) (by rw [HS.out.length]; exact hlt)
      generalize r.getD k 0 = a at g1 hx
      obtain ⟨hx1, hx2⟩ := hx
      have d1 : decide ((k : Int) < (n : Int)) = true := by simp; omega
      have hk2 : (k : Int) < (n : Int) := by omega
      have HLT := Lib.hid hlt
      have hll : (L.length : Int) ≤ (N : Int) := HH.out.1.len.1
      have hc1 := HH.out.2.1.1
      have hc2 := HH.out.2.1.2.1
      have hc3 := HH.out.2.1.2.2.1
      have hc4 := HH.out.2.1.2.2.2.1
      have hc5 := HH.out.2.1.2.2.2.2
      simp only [] at hc1 hc2 hc3 hc4 hc5
      have q1 : o ≤ 200 := by omega
      have q2 : ac ≤ 200 := by omega
      have q3 : rf ≤ 200 := by omega
      clear hlt hc4 hc5
      by_cases ha : 200 ≤ a
      · have d2 : decide (200 ≤ a) = true := by simpa using ha
        have hT := TakeI_at B p g w.heap.size (k : Int) (a % 4) _ w wr HH.out.1 HH.out.2.1 HH.out.2.2 HBB.out
        rw [show takeR (a % 4) (⟨o, ac, rf, N, L⟩ : RS (Int × Int)) = (⟨o, ac, rf, N, L.drop (a % 4).toNat⟩, L.take (a % 4).toNat, 0) from if_neg (by omega)] at hT
        obtain ⟨nn, hnn⟩ : ∃ nn, (L.take (a % 4).toNat).length = nn := ⟨_, rfl⟩
        simp only [hnn] at hT
        have HT := Lib.hid hT
        clear ha hT hnn
        go_wp2_with (go_at_call 15; refine HT.out.mono ?_; rintro e1 w5 ⟨A5, c5, rfl, r5, k5, o5, s5, b5⟩; have H5 := Lib.hid (And.intro r5 (And.intro k5 b5)); clear r5 k5 o5 s5 b5)
        go_roundw
        case rel => exact ⟨k + 1, g, o, ac, rf, _, Lib.hid HLT.out, by go_num, Lib.hid ⟨H5.out.1, H5.out.2.1.mono (by omega), H5.out.2.2⟩⟩
        case measure => have := HLT.out; simp [intOf]; omega
      · have d2 : decide (200 ≤ a) = false := by simp; omega
        obtain ⟨nn, hnn⟩ : ∃ nn, L.length = nn := ⟨_, rfl⟩
        rw [hnn] at hll
        have HA1 := Lib.hid (AllI_at B p g w.heap.size nn _ w wr HH.out.1 HH.out.2.2 HBB.out hnn)
        have HNN := Lib.hid hnn
        by_cases hful : nn = N
        · subst hful
          have hP : putR (fun o => ((k : Int), o)) (⟨o, ac, rf, nn, L⟩ : RS (Int × Int)) = (⟨o + 1, ac, rf + 1, nn, L⟩, 4) := by unfold putR; rw [if_pos (by simp only []; omega)]
          have hL2 : (L).length = nn := by exact hnn
          have f0 : decide ((nn : Int) < (nn : Int)) = false := by simp
          have HP := Lib.hid hP
          have HL2 := Lib.hid hL2
          clear ha hP hL2 hnn
          go_wp2_with (first
            | (go_at_call 26; have _q := H5; refine (AllI_at B p g5 w.heap.size (nn) _ w _ H5.out.1 H5.out.2.2.1 HBB.out HL2.out).mono ?_; rintro e w6 ⟨A6, c6, rfl, r6, h6, k6, b6⟩; have hb6 := H5.out.2.2.2.below k6 (Nat.le_refl _); have H6 := Lib.hid (And.intro r6 (And.intro h6 (And.intro hb6 b6))); clear r6 h6 k6 b6 hb6)
            | (go_at_call 14; refine (PutI_to B p g w.heap.size (k : Int) _ _ _ _ w _ H3.out.1 HH.out.2.1 (by omega) H3.out.2.2 HBB.out HP.out).mono ?_; rintro e w5 ⟨g5, rfl, r5, c5, n5, s5, b5⟩; have H5 := Lib.hid (And.intro r5 (And.intro c5 (And.intro b5 (H3.out.2.1.spared s5 n5)))); clear r5 c5 n5 s5 b5)
            | (go_at_call 26; refine HA1.out.mono ?_; rintro e w3 ⟨A3, c3, rfl, r3, h3, k3, b3⟩; have H3 := Lib.hid (And.intro r3 (And.intro h3 b3)); clear r3 h3 k3 b3)
            | (go_at_call 20; have _q := H6; refine (OpenR_any _ p _ _ _ H6.out.1).mono ?_; rintro e w9 ⟨rfl, rfl⟩)
            | (go_at_call 18; have _q := H6; refine (RefusedR_any _ p _ _ _ H6.out.1).mono ?_; rintro e w9 ⟨rfl, rfl⟩)
            | (go_at_call 17; have _q := H6; refine (AcceptedR_any _ p _ _ _ H6.out.1).mono ?_; rintro e w9 ⟨rfl, rfl⟩)
            | (go_at_call 19; have _q := H6; have hq := LenR_any B p g5 _ w6 H6.out.1; simp only [HL2.out] at hq; refine hq.mono ?_; clear hq; rintro e w9 ⟨rfl, rfl⟩)
            | (go_at_call 20; refine (OpenR_any _ p _ _ _ H3.out.1).mono ?_; rintro e w9 ⟨rfl, rfl⟩)
            | (go_at_call 18; refine (RefusedR_any _ p _ _ _ H3.out.1).mono ?_; rintro e w9 ⟨rfl, rfl⟩)
            | (go_at_call 17; refine (AcceptedR_any _ p _ _ _ H3.out.1).mono ?_; rintro e w9 ⟨rfl, rfl⟩))
          go_loopw [149] (fun i wr => ∃ m : Nat, Hid (m ≤ nn) ∧ i = .int .i64 (m : Int) ∧ Below w6.heap.size w6 wr) (fun i _ => nn - (intOf i).toNat)
          case atStart => exact ⟨0, Lib.hid (Nat.zero_le _), rfl, Below.refl _ _⟩
          case round =>
            obtain ⟨m, HM, rfl, hb⟩ := hrel
            by_cases hlm : m < nn
            · obtain ⟨⟨x1, x2⟩, hx⟩ : ∃ x, L[m]? = some x := ⟨_, List.getElem?_eq_getElem (by have := HNN.out; omega)⟩
              obtain ⟨e1, e2⟩ := ceI_get hx
              obtain ⟨qa, hqa, s0, s1⟩ := look2 (H6.out.2.2.1.below hb (Nat.le_refl _)) e1 e2
              have hx6 : (L)[m]? = some (x1, x2) := by exact hx
              obtain ⟨e3, e4⟩ := ceI_get hx6
              obtain ⟨qb, hqb, s2, s3⟩ := look2 (H6.out.2.1.below hb (Nat.le_refl _)) e3 e4
              rw [Nat.mul_comm 2 m] at s0 s1 s2 s3
              simp only [] at s0 s1 s2 s3
              cases hqa
              cases hqb
              have d3 : decide ((m : Int) < (nn : Int)) = true := by simp; omega
              have hm2 : (m : Int) < (nn : Int) := by omega
              have hm3 : (m : Int) < ((nn : Nat) : Int) := by omega
              have hm0 : (0 : Int) ≤ (m : Int) := by omega
              have HLM := Lib.hid hlm
              clear hlm e1 e2 e3 e4 hx hx6
              go_wp2
              go_quiet (fail)
              go_wp2
              go_roundw
              case rel => exact ⟨m + 1, Lib.hid HLM.out, by go_num, ⟨hb.os, hb.tape, hb.output, hb.size, hb.block⟩⟩
              case measure => have := HLM.out; simp [intOf]; omega
            · have d3 : decide ((m : Int) < (nn : Int)) = false := by simp; omega
              have d3' : decide (m < nn) = false := by simp; omega
              have R9 := Lib.hid (And.intro (H6.out.1.below hb H6.out.1.plt H6.out.1.glt) (H6.out.2.2.2.trans (hb.mono H6.out.2.2.2.size)))
              clear hlm hb
              go_wp2
              go_roundw
              case rel => exact ⟨k + 1, g5, _, _, _, _, Lib.hid HLT.out, by go_num, Lib.hid ⟨R9.out.1, H5.out.2.1, R9.out.2⟩⟩
              case measure => have := HLT.out; simp [intOf]; omega
        · have hroom : nn < N := by omega
          have hP : putR (fun o => ((k : Int), o)) (⟨o, ac, rf, N, L⟩ : RS (Int × Int)) = (⟨0, ac + 1, rf, N, L ++ [((k : Int), o)]⟩, 0) := by unfold putR; rw [if_neg (by simp only []; omega)]
          have hL2 : (L ++ [((k : Int), o)]).length = nn + 1 := by simp [hnn]
          have f0 : decide ((N : Int) < (nn : Int)) = false := by simp; omega
          have f1 : decide (N < nn) = false := by simp; omega
          have f2 : ((nn : Int) == (N : Int)) = false := by simp; omega
          have f3 : (nn == N) = false := by simp; omega
          have hnn9 : (nn : Int) ≤ 20 := by omega
          clear hroom hful
          have HP := Lib.hid hP
          have HL2 := Lib.hid hL2
          clear ha hP hL2 hnn
          go_wp2_with (first
            | (go_at_call 26; have _q := H5; refine (AllI_at B p g5 w.heap.size (nn + 1) _ w _ H5.out.1 H5.out.2.2.1 HBB.out HL2.out).mono ?_; rintro e w6 ⟨A6, c6, rfl, r6, h6, k6, b6⟩; have hb6 := H5.out.2.2.2.below k6 (Nat.le_refl _); have H6 := Lib.hid (And.intro r6 (And.intro h6 (And.intro hb6 b6))); obtain ⟨q6, rfl, t0, t1⟩ := last_cells h6 HNN.out; have hnn8 : (nn : Int) < ((nn + 1 : Nat) : Int) := (by omega); clear r6 h6 k6 b6 hb6)
            | (go_at_call 14; refine (PutI_to B p g w.heap.size (k : Int) _ _ _ _ w _ H3.out.1 HH.out.2.1 (by omega) H3.out.2.2 HBB.out HP.out).mono ?_; rintro e w5 ⟨g5, rfl, r5, c5, n5, s5, b5⟩; have H5 := Lib.hid (And.intro r5 (And.intro c5 (And.intro b5 (H3.out.2.1.spared s5 n5)))); clear r5 c5 n5 s5 b5)
            | (go_at_call 26; refine HA1.out.mono ?_; rintro e w3 ⟨A3, c3, rfl, r3, h3, k3, b3⟩; have H3 := Lib.hid (And.intro r3 (And.intro h3 b3)); clear r3 h3 k3 b3)
            | (go_at_call 20; have _q := H6; refine (OpenR_any _ p _ _ _ H6.out.1).mono ?_; rintro e w9 ⟨rfl, rfl⟩)
            | (go_at_call 18; have _q := H6; refine (RefusedR_any _ p _ _ _ H6.out.1).mono ?_; rintro e w9 ⟨rfl, rfl⟩)
            | (go_at_call 17; have _q := H6; refine (AcceptedR_any _ p _ _ _ H6.out.1).mono ?_; rintro e w9 ⟨rfl, rfl⟩)
            | (go_at_call 19; have _q := H6; have hq := LenR_any B p g5 _ w6 H6.out.1; simp only [HL2.out] at hq; refine hq.mono ?_; clear hq; rintro e w9 ⟨rfl, rfl⟩)
            | (go_at_call 20; refine (OpenR_any _ p _ _ _ H3.out.1).mono ?_; rintro e w9 ⟨rfl, rfl⟩)
            | (go_at_call 18; refine (RefusedR_any _ p _ _ _ H3.out.1).mono ?_; rintro e w9 ⟨rfl, rfl⟩)
            | (go_at_call 17; refine (AcceptedR_any _ p _ _ _ H3.out.1).mono ?_; rintro e w9 ⟨rfl, rfl⟩))
          go_loopw [149] (fun i wr => ∃ m : Nat, Hid (m ≤ nn) ∧ i = .int .i64 (m : Int) ∧ Below w6.heap.size w6 wr) (fun i _ => nn - (intOf i).toNat)
          case atStart => exact ⟨0, Lib.hid (Nat.zero_le _), rfl, Below.refl _ _⟩
          case round =>
            obtain ⟨m, HM, rfl, hb⟩ := hrel
            by_cases hlm : m < nn
            · obtain ⟨⟨x1, x2⟩, hx⟩ : ∃ x, L[m]? = some x := ⟨_, List.getElem?_eq_getElem (by have := HNN.out; omega)⟩
              obtain ⟨e1, e2⟩ := ceI_get hx
              obtain ⟨qa, hqa, s0, s1⟩ := look2 (H6.out.2.2.1.below hb (Nat.le_refl _)) e1 e2
              have hx6 : (L ++ [((k : Int), o)])[m]? = some (x1, x2) := by rw [List.getElem?_append_left (by have := HNN.out; omega)]; exact hx
              obtain ⟨e3, e4⟩ := ceI_get hx6
              obtain ⟨qb, hqb, s2, s3⟩ := look2 (H6.out.2.1.below hb (Nat.le_refl _)) e3 e4
              rw [Nat.mul_comm 2 m] at s0 s1 s2 s3
              simp only [] at s0 s1 s2 s3
              cases hqa
              cases hqb
              have d3 : decide ((m : Int) < (nn : Int)) = true := by simp; omega
              have hm2 : (m : Int) < (nn : Int) := by omega
              have hm3 : (m : Int) < ((nn + 1 : Nat) : Int) := by omega
              have hm0 : (0 : Int) ≤ (m : Int) := by omega
              have HLM := Lib.hid hlm
              clear hlm e1 e2 e3 e4 hx hx6
              go_wp2
              go_quiet (fail)
              go_wp2
              go_roundw
              case rel => exact ⟨m + 1, Lib.hid HLM.out, by go_num, ⟨hb.os, hb.tape, hb.output, hb.size, hb.block⟩⟩
              case measure => have := HLM.out; simp [intOf]; omega
            · have d3 : decide ((m : Int) < (nn : Int)) = false := by simp; omega
              have d3' : decide (m < nn) = false := by simp; omega
              have R9 := Lib.hid (And.intro (H6.out.1.below hb H6.out.1.plt H6.out.1.glt) (H6.out.2.2.2.trans (hb.mono H6.out.2.2.2.size)))
              clear hlm hb
              go_wp2
              go_roundw
              case rel => exact ⟨k + 1, g5, _, _, _, _, Lib.hid HLT.out, by go_num, Lib.hid ⟨R9.out.1, H5.out.2.1, R9.out.2⟩⟩
              case measure => have := HLT.out; simp [intOf]; omega
    · have d1 : decide ((k : Int) < (n : Int)) = false := by simp; omega
      have d1' : decide (k < n) = false := by simp; omega
      clear hlt
      go_wp2
      go_ret
      exact ⟨rfl, HH.out.2.2⟩
end Go.Proofs.Ytgomnifcgaigkaa
