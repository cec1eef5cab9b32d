/- Walks: RingSums. -/
import Derived.Test.YtgomnifcgaigkaaProg
import Derived.Test.YtgomnifcgaigkaaGn
namespace Go.Proofs.Ytgomnifcgaigkaa
open Go.RowKit Go.Shelf
set_option linter.unusedVariables false

theorem AllI_at (B p g B0 nn : Nat) (S : RS (Int × Int)) (w0 w : World) (h : RngI w B p g S) (hb : Below B0 w0 w) (hB : B0 ≤ B) (hn : S.L.length = nn) :
    Calls Try.prog 26 #[.pointer (some ⟨p, 0, none⟩)] w fun e w' => ∃ A c, e = .returned (.slice A nn c) ∧ RngI w' B p g S ∧ HeldRow w' 29 2 (.slice A nn c) nn (S.L.flatMap ceI) p g ∧ Below w.heap.size w w' ∧ Below B0 w0 w' := by
  subst hn
  have h1 := h.bp
  have h2 := h.plt
  refine (AllR_any B p g S w h).mono ?_
  rintro e w' ⟨v, e1, ⟨A, c, rfl, e2⟩, e3⟩
  exact ⟨A, c, e1, h.below e3 h.plt h.glt, HeldRow.fresh e2 h.plt h.glt, e3, hb.trans (e3.mono (by omega))⟩

set_option maxRecDepth 100000 in
set_option maxHeartbeats 3200000 in
theorem RingSums_any (c : Nat) (A : Option Addr) (n0 cp : Nat) (l : List Int) (w : World) (hc : c < 256) (h : Sees w 1 A n0 cp (l.map (Value.int .u8))) (hl : Bytes l) :
    Calls Try.prog 8 #[.int .u8 (c : Int), .slice A n0 cp] w fun e w' => e = .returned (.bool true) ∧ Below w.heap.size w w' := by
  obtain ⟨n, hm0, hm20, hmin, hmc⟩ := min_is n0 300
  have hmi : (if (300 : Int) < (n0 : Int) then (300 : Int) else (n0 : Int)) = (n : Int) := by split <;> omega
  have hmi' : (if 300 < n0 then (300 : Int) else (n0 : Int)) = (n : Int) := by split <;> omega
  have hcut := fun w => run_cutr E_u8 A n0 cp n (Nat.le_trans hm0 h.cap) w
  have hs := h.pre hm0
  rw [Nat.mul_one, ← List.map_take] at hs
  have hb := (show Bytes (l.take n) from fun y hy => hl y (List.mem_of_mem_take hy))
  generalize l.take n = r at hs hb
  have HS := Lib.hid hs
  have HB := Lib.hid hb
  have HK := Lib.hid hm20
  have HC := Lib.hid hc
  have hn3 : (n : Int) ≤ 300 := by omega
  clear hs hb h hl hm0 hm20 hmin hmc hc
  go_enter Try.func8, Try.ntmps8
  go_wp2_with (first
    | (go_at_call 12; refine (made_any c _ HC.out).mono ?_; rintro e w2 ⟨p, rfl, hr, b2⟩)
    | (go_at_call 11; refine (awake_any _).mono ?_; rintro e w1 ⟨rfl, b1⟩))
  have hB : w.heap.size ≤ w1.heap.size := b1.size
  have hb2 := b1.trans (b2.mono b1.size)
  generalize w1.heap.size = B at hr hB
  have HBB := Lib.hid hB
  have HST : Hid (SumsI w B p p 0 0 0 w2) := Lib.hid ⟨0, _, [], hr, Cnt.zero _, fun x hx => by simp at hx, hb2, Int.le_refl _, Int.le_refl _⟩
  clear hB hr b1 b2 hb2
  go_loopw [8, 9, 35] (fun v1 v2 i wr => ∃ (k g : Nat) (sum out : Int), Hid (k ≤ n) ∧ i = .int .i64 (k : Int) ∧ v1 = .int .i64 sum ∧ v2 = .int .i64 out ∧ Hid (SumsI w B p g (k : Int) sum out wr)) (fun _ _ i _ => n - (intOf i).toNat)
  case atStart => exact ⟨0, p, 0, 0, Lib.hid (Nat.zero_le _), rfl, rfl, rfl, HST.out⟩
  case round =>
    obtain ⟨k, g, sum, out, HI, rfl, rfl, rfl, HH⟩ := hrel
    obtain ⟨o, cap, L, h1, h2, hN, hbel, hs0, ho0⟩ := HH.out
    by_cases hlt : k < n
    · obtain ⟨b0, o0, hA, g1⟩ := (HS.out.below hbel (Nat.le_refl _)).int hlt
      cases hA
      have hx := HB.out.at_ (k := k) (by rw [HS.out.length]; exact hlt)
      generalize r.getD k 0 = a at g1 hx
      obtain ⟨hx1, hx2⟩ := hx
      have d1 : decide ((k : Int) < (n : Int)) = true := by simp; omega
      have hk2 : (k : Int) < (n : Int) := by omega
      have HLT := Lib.hid hlt
      have hll := h1.len
      simp only [] at hll
      have hbp := bef_pos hN
      have hcn : out + (L.length : Int) + (sum + bef L + o) ≤ (k : Int) := h2.2.2.2.2
      have ho1 : 0 ≤ o := h2.1
      have q1 : sum ≤ 300 := by omega
      have q2 : out ≤ 300 := by omega
      have q3 : o ≤ 300 := by omega
      have HH := Lib.hid (And.intro h1 (And.intro h2 (And.intro hN (And.intro hbel (And.intro (And.intro hs0 ho0) hll.1)))))
      have HL9 := Lib.hid (show L.length ≤ 65536 by omega)
      clear hlt h1 h2 hN hbel hll hbp hcn
      rcases (show a < 190 ∨ (190 ≤ a ∧ a < 245) ∨ 245 ≤ a by omega) with ha | ha | ha
      · have d2 : decide (a < 190) = true := by simpa using ha
        clear ha
        go_wp2_with (go_at_call 14; refine (PutI_at B p g w.heap.size (k : Int) _ _ w _ HH.out.1 HH.out.2.1 (by omega) HH.out.2.2.2.1 HBB.out).mono ?_; rintro e1 w5 ⟨g5, rfl, r5, c5, n5, s5, b5⟩; obtain ⟨o5, cap5, L5, hX⟩ := sums_put HH.out.2.2.1 HH.out.2.2.2.2.1 HH.out.2.1 r5 c5 b5; have HX := Lib.hid hX; clear hX r5 c5 n5 s5 b5)
        obtain ⟨T, hT0⟩ : ∃ T : List (Int × Int), [] = T := ⟨_, rfl⟩
        rw [hT0] at HX
        clear hT0
        go_loopw [8, 72] (fun v i wr => ∃ m : Nat, Hid (m ≤ 0) ∧ i = .int .i64 (m : Int) ∧ v = .int .i64 (sum + bef (T.take m)) ∧ Below w5.heap.size w5 wr) (fun _ i _ => 0 - (intOf i).toNat)
        case atStart => exact ⟨0, Lib.hid (Nat.zero_le _), rfl, by simp [bef], Below.refl _ _⟩
        case round =>
          obtain ⟨m, HM, rfl, rfl, hb⟩ := hrel
          have hbf := bef_le HX.out.2.2.2.2.2.1 m
          have hb5 := bef_pos HX.out.2.2.2.2.2.2.1
          have hcn := HX.out.2.2.2.2.1.2.2.2.2
          have ho5 := HX.out.2.2.2.2.1.1
          simp only [] at hcn ho5
          have s0 := HX.out.2.2.2.2.2.2.2.2
          have hl5 : (0 : Int) ≤ (L5.length : Int) := by omega
          have q4 : 0 ≤ bef (T.take m) := hbf.1
          have q5 : bef (T.take m) ≤ 400 := by omega
          have q6 : bef T ≤ 400 := by omega
          have q17 : 0 ≤ bef T := bef_pos HX.out.2.2.2.2.2.1
          have hmn : m ≤ 0 := HM.out
          have q7 : sum ≤ 400 := by omega
          have q7' : 0 ≤ sum := s0.1
          have q8 : 0 ≤ o5 := ho5
          have q9 : o5 ≤ 400 := by omega
          have q10 : 0 ≤ bef L5 := hb5
          have q11 : bef L5 ≤ 400 := by omega
          have q12 : (L5.length : Int) ≤ 400 := by omega
          have q13 : 0 ≤ out := s0.2
          have q14 : out ≤ 400 := by omega
          clear hbf hb5 hcn ho5 s0
          by_cases hlm : m < 0
          · omega
          · have d3 : decide ((m : Int) < (0 : Int)) = false := by first | (simp; done) | (simp; omega)
            have d3' : decide (m < 0) = false := by first | (simp; done) | (simp; omega)
            have hT : T.take m = T := List.take_of_length_le (by have := HX.out.2.1; omega)
            rw [hT]
            have HX2 := Lib.hid (And.intro hb (HX.out.2.2.2.1.below hb HX.out.2.2.2.1.plt HX.out.2.2.2.1.glt))
            have HA := Lib.hid (AllI_at B p g5 w.heap.size L5.length _ w wr HX2.out.2 (HX.out.2.2.2.2.2.2.2.1.trans (hb.mono HX.out.2.2.2.2.2.2.2.1.size)) HBB.out rfl)
            clear hlm hT hb q4 q5 hmn
            go_wp2_with (go_at_call 26; refine HA.out.mono ?_; rintro e w8 ⟨A8, c8, rfl, r8, o8, k8, b8⟩; have H8 := Lib.hid (And.intro r8 (And.intro o8 b8)); clear r8 o8 k8 b8)
            clear d3 d3'
            go_loopw [16, 84] (fun v i wr => ∃ m : Nat, Hid (m ≤ L5.length) ∧ i = .int .i64 (m : Int) ∧ v = .int .i64 (bef (L5.take m)) ∧ Below w8.heap.size w8 wr) (fun _ i _ => L5.length - (intOf i).toNat)
            case atStart => exact ⟨0, Lib.hid (Nat.zero_le _), rfl, by simp [bef], Below.refl _ _⟩
            case round =>
              obtain ⟨m3, HM3, rfl, rfl, hb3⟩ := hrel
              have hbf3 := bef_le HX.out.2.2.2.2.2.2.1 m3
              have q15 : 0 ≤ bef (L5.take m3) := hbf3.1
              have q16 : bef (L5.take m3) ≤ 400 := by omega
              have hm3 : m3 ≤ L5.length := HM3.out
              clear hbf3
              by_cases hl3 : m3 < L5.length
              · obtain ⟨⟨x1, x2⟩, hx⟩ : ∃ x, L5[m3]? = some x := ⟨_, List.getElem?_eq_getElem hl3⟩
                obtain ⟨e1, e2⟩ := ceI_get hx
                obtain ⟨q, rfl, s0, s1⟩ := look2 (H8.out.2.1.below hb3 (Nat.le_refl _)) e1 e2
                rw [Nat.mul_comm 2 m3] at s0 s1
                simp only [] at s0 s1
                have hbs := bef_step hx
                simp only [] at hbs
                have hbl := bef_le HX.out.2.2.2.2.2.2.1 (m3 + 1)
                have hx2 : 0 ≤ x2 := HX.out.2.2.2.2.2.2.1 _ (List.mem_of_getElem? hx)
                have hx3 : x2 ≤ 400 := by omega
                have d3 : decide ((m3 : Int) < (L5.length : Int)) = true := by simp; omega
                have hm2 : (m3 : Int) < (L5.length : Int) := by omega
                have HLM := Lib.hid (And.intro hl3 hbs)
                clear hl3 e1 e2 hx hbs hbl hm3
                go_wp2
                go_roundw
                case rel => exact ⟨m3 + 1, Lib.hid HLM.out.1, by go_num, by rw [HLM.out.2], hb3.alloc hb3.size _⟩
                case measure => have := HLM.out.1; simp [intOf]; omega
              · have d3 : decide ((m3 : Int) < (L5.length : Int)) = false := by simp; omega
                have d3' : decide (m3 < L5.length) = false := by simp; omega
                have hT : L5.take m3 = L5 := List.take_of_length_le (by omega)
                rw [hT]
                have R9 := Lib.hid (And.intro (H8.out.1.below hb3 H8.out.1.plt H8.out.1.glt) (H8.out.2.2.trans (hb3.mono H8.out.2.2.size)))
                clear hl3 hT hb3 q15 q16 hm3
                go_wp2_with (first
                  | (go_at_call 20; refine (OpenR_any _ p _ _ _ R9.out.1).mono ?_; rintro e w9 ⟨rfl, rfl⟩)
                  | (go_at_call 18; refine (RefusedR_any _ p _ _ _ R9.out.1).mono ?_; rintro e w9 ⟨rfl, rfl⟩)
                  | (go_at_call 19; refine (LenR_any _ p _ _ _ R9.out.1).mono ?_; rintro e w9 ⟨rfl, rfl⟩)
                  | (go_at_call 17; refine (AcceptedR_any _ p _ _ _ R9.out.1).mono ?_; rintro e w9 ⟨rfl, rfl⟩))
                go_roundw
                case rel => exact ⟨k + 1, g5, sum + bef T, out, Lib.hid HLT.out, by go_num, rfl, rfl, Lib.hid ⟨o5, cap5, L5, R9.out.1, HX.out.2.2.2.2.1.mono (by omega), HX.out.2.2.2.2.2.2.1, R9.out.2, by omega, HX.out.2.2.2.2.2.2.2.2.2⟩⟩
                case measure => have := HLT.out; simp [intOf]; omega
      · have d2 : decide (a < 190) = false := by simp; omega
        have d3 : decide (a < 245) = true := by simp; omega
        have hT := TakeI_at B p g w.heap.size (k : Int) (a % 5) _ w wr HH.out.1 HH.out.2.1 HH.out.2.2.2.1 HBB.out
        rw [show takeR (a % 5) (⟨o, out + L.length, sum + bef L + o, cap, L⟩ : RS (Int × Int)) = (⟨o, out + L.length, sum + bef L + o, cap, L.drop (a % 5).toNat⟩, L.take (a % 5).toNat, 0) from if_neg (by omega)] at hT
        obtain ⟨m0, hm0⟩ : ∃ m0, (a % 5).toNat = m0 := ⟨_, rfl⟩
        rw [hm0] at hT
        obtain ⟨nn, hnn⟩ : ∃ nn, (L.take m0).length = nn := ⟨_, rfl⟩
        simp only [hnn] at hT
        have hn20 : nn ≤ 65536 := by have := HL9.out; rw [← hnn, List.length_take]; omega
        have hnn3 : (nn : Int) ≤ 65536 := by omega
        have HT := Lib.hid hT
        have HNN := Lib.hid hnn
        clear ha hT hnn hn20 hm0
        go_wp2_with (go_at_call 15; refine HT.out.mono ?_; rintro e1 w5 ⟨A5, c5, rfl, r5, k5, o5, s5, b5⟩; have hX := sums_take HH.out.2.2.1 HH.out.2.2.2.2.1 HNN.out HL9.out r5 k5 b5 (HeldRow.fresh o5 HH.out.1.plt HH.out.1.glt); have HX := Lib.hid hX; clear hX r5 k5 o5 s5 b5)
        clear d2 d3
        obtain ⟨T, hT0⟩ : ∃ T, L.take m0 = T := ⟨_, rfl⟩
        obtain ⟨L5, hL5⟩ : ∃ L5, L.drop m0 = L5 := ⟨_, rfl⟩
        rw [hT0, hL5] at HX
        clear hT0 hL5
        obtain ⟨o5, rfl⟩ : ∃ o5, o5 = o := ⟨_, rfl⟩
        obtain ⟨cap5, rfl⟩ : ∃ c5, c5 = cap := ⟨_, rfl⟩
        go_loopw [8, 72] (fun v i wr => ∃ m : Nat, Hid (m ≤ nn) ∧ i = .int .i64 (m : Int) ∧ v = .int .i64 (sum + bef (T.take m)) ∧ Below w5.heap.size w5 wr) (fun _ i _ => nn - (intOf i).toNat)
        case atStart => exact ⟨0, Lib.hid (Nat.zero_le _), rfl, by simp [bef], Below.refl _ _⟩
        case round =>
          obtain ⟨m, HM, rfl, rfl, hb⟩ := hrel
          have hbf := bef_le HX.out.2.2.2.2.2.1 m
          have hb5 := bef_pos HX.out.2.2.2.2.2.2.1
          have hcn := HX.out.2.2.2.2.1.2.2.2.2
          have ho5 := HX.out.2.2.2.2.1.1
          simp only [] at hcn ho5
          have s0 := HX.out.2.2.2.2.2.2.2.2
          have hl5 : (0 : Int) ≤ (L5.length : Int) := by omega
          have q4 : 0 ≤ bef (T.take m) := hbf.1
          have q5 : bef (T.take m) ≤ 400 := by omega
          have q6 : bef T ≤ 400 := by omega
          have q17 : 0 ≤ bef T := bef_pos HX.out.2.2.2.2.2.1
          have hmn : m ≤ nn := HM.out
          have q7 : sum ≤ 400 := by omega
          have q7' : 0 ≤ sum := s0.1
          have q8 : 0 ≤ o5 := ho5
          have q9 : o5 ≤ 400 := by omega
          have q10 : 0 ≤ bef L5 := hb5
          have q11 : bef L5 ≤ 400 := by omega
          have q12 : (L5.length : Int) ≤ 400 := by omega
          have q13 : 0 ≤ (out + (nn : Int)) := s0.2
          have q14 : (out + (nn : Int)) ≤ 400 := by omega
          clear hbf hb5 hcn ho5 s0
          by_cases hlm : m < nn
          · obtain ⟨⟨x1, x2⟩, hx⟩ : ∃ x, T[m]? = some x := ⟨_, List.getElem?_eq_getElem (by have := HX.out.2.1; omega)⟩
            obtain ⟨e1, e2⟩ := ceI_get hx
            obtain ⟨q, rfl, s0, s1⟩ := look2 (HX.out.1.below hb (Nat.le_refl _)) e1 e2
            rw [Nat.mul_comm 2 m] at s0 s1
            simp only [] at s0 s1
            have hbs := bef_step hx
            simp only [] at hbs
            have hbl := bef_le HX.out.2.2.2.2.2.1 (m + 1)
            have hx2 : 0 ≤ x2 := HX.out.2.2.2.2.2.1 _ (List.mem_of_getElem? hx)
            have hx3 : x2 ≤ 400 := by omega
            have d3 : decide ((m : Int) < (nn : Int)) = true := by simp; omega
            have hm2 : (m : Int) < (nn : Int) := by omega
            have HLM := Lib.hid (And.intro hlm hbs)
            clear hlm e1 e2 hx hbs hbl hmn
            go_wp2
            go_roundw
            case rel => exact ⟨m + 1, Lib.hid HLM.out.1, by go_num, by rw [HLM.out.2, Int.add_assoc], hb.alloc hb.size _⟩
            case measure => have := HLM.out.1; simp [intOf]; omega
          · have d3 : decide ((m : Int) < (nn : Int)) = false := by first | (simp; done) | (simp; omega)
            have d3' : decide (m < nn) = false := by first | (simp; done) | (simp; omega)
            have hT : T.take m = T := List.take_of_length_le (by have := HX.out.2.1; omega)
            rw [hT]
            have HX2 := Lib.hid (And.intro hb (HX.out.2.2.2.1.below hb HX.out.2.2.2.1.plt HX.out.2.2.2.1.glt))
            have HA := Lib.hid (AllI_at B p g w.heap.size L5.length _ w wr HX2.out.2 (HX.out.2.2.2.2.2.2.2.1.trans (hb.mono HX.out.2.2.2.2.2.2.2.1.size)) HBB.out rfl)
            clear hlm hT hb q4 q5 hmn
            go_wp2_with (go_at_call 26; refine HA.out.mono ?_; rintro e w8 ⟨A8, c8, rfl, r8, o8, k8, b8⟩; have H8 := Lib.hid (And.intro r8 (And.intro o8 b8)); clear r8 o8 k8 b8)
            clear d3 d3'
            go_loopw [16, 84] (fun v i wr => ∃ m : Nat, Hid (m ≤ L5.length) ∧ i = .int .i64 (m : Int) ∧ v = .int .i64 (bef (L5.take m)) ∧ Below w8.heap.size w8 wr) (fun _ i _ => L5.length - (intOf i).toNat)
            case atStart => exact ⟨0, Lib.hid (Nat.zero_le _), rfl, by simp [bef], Below.refl _ _⟩
            case round =>
              obtain ⟨m3, HM3, rfl, rfl, hb3⟩ := hrel
              have hbf3 := bef_le HX.out.2.2.2.2.2.2.1 m3
              have q15 : 0 ≤ bef (L5.take m3) := hbf3.1
              have q16 : bef (L5.take m3) ≤ 400 := by omega
              have hm3 : m3 ≤ L5.length := HM3.out
              clear hbf3
              by_cases hl3 : m3 < L5.length
              · obtain ⟨⟨x1, x2⟩, hx⟩ : ∃ x, L5[m3]? = some x := ⟨_, List.getElem?_eq_getElem hl3⟩
                obtain ⟨e1, e2⟩ := ceI_get hx
                obtain ⟨q, rfl, s0, s1⟩ := look2 (H8.out.2.1.below hb3 (Nat.le_refl _)) e1 e2
                rw [Nat.mul_comm 2 m3] at s0 s1
                simp only [] at s0 s1
                have hbs := bef_step hx
                simp only [] at hbs
                have hbl := bef_le HX.out.2.2.2.2.2.2.1 (m3 + 1)
                have hx2 : 0 ≤ x2 := HX.out.2.2.2.2.2.2.1 _ (List.mem_of_getElem? hx)
                have hx3 : x2 ≤ 400 := by omega
                have d3 : decide ((m3 : Int) < (L5.length : Int)) = true := by simp; omega
                have hm2 : (m3 : Int) < (L5.length : Int) := by omega
                have HLM := Lib.hid (And.intro hl3 hbs)
                clear hl3 e1 e2 hx hbs hbl hm3
                go_wp2
                go_roundw
                case rel => exact ⟨m3 + 1, Lib.hid HLM.out.1, by go_num, by rw [HLM.out.2], hb3.alloc hb3.size _⟩
                case measure => have := HLM.out.1; simp [intOf]; omega
              · have d3 : decide ((m3 : Int) < (L5.length : Int)) = false := by simp; omega
                have d3' : decide (m3 < L5.length) = false := by simp; omega
                have hT : L5.take m3 = L5 := List.take_of_length_le (by omega)
                rw [hT]
                have R9 := Lib.hid (And.intro (H8.out.1.below hb3 H8.out.1.plt H8.out.1.glt) (H8.out.2.2.trans (hb3.mono H8.out.2.2.size)))
                clear hl3 hT hb3 q15 q16 hm3
                go_wp2_with (first
                  | (go_at_call 20; refine (OpenR_any _ p _ _ _ R9.out.1).mono ?_; rintro e w9 ⟨rfl, rfl⟩)
                  | (go_at_call 18; refine (RefusedR_any _ p _ _ _ R9.out.1).mono ?_; rintro e w9 ⟨rfl, rfl⟩)
                  | (go_at_call 19; refine (LenR_any _ p _ _ _ R9.out.1).mono ?_; rintro e w9 ⟨rfl, rfl⟩)
                  | (go_at_call 17; refine (AcceptedR_any _ p _ _ _ R9.out.1).mono ?_; rintro e w9 ⟨rfl, rfl⟩))
                go_roundw
                case rel => exact ⟨k + 1, g, sum + bef T, (out + (nn : Int)), Lib.hid HLT.out, by go_num, rfl, rfl, Lib.hid ⟨o5, cap5, L5, R9.out.1, HX.out.2.2.2.2.1.mono (by omega), HX.out.2.2.2.2.2.2.1, R9.out.2, by omega, HX.out.2.2.2.2.2.2.2.2.2⟩⟩
                case measure => have := HLT.out; simp [intOf]; omega
      · have d2 : decide (a < 190) = false := by simp; omega
        have d3 : decide (a < 245) = false := by simp; omega
        obtain ⟨nn, hnn⟩ : ∃ nn, L.length = nn := ⟨_, rfl⟩
        have hT := DrainI_to B p g w.heap.size nn (k : Int) _ _ _ _ _ w wr HH.out.1 HH.out.2.1 HH.out.2.2.2.1 HBB.out hnn
        have hnn3 : (nn : Int) ≤ 65536 := by have := HL9.out; omega
        have HT := Lib.hid hT
        have HNN := Lib.hid hnn
        clear ha hT hnn
        go_wp2_with (go_at_call 16; refine HT.out.mono ?_; rintro e1 w5 ⟨A5, c5, rfl, r5, k5, o5, b5⟩; have hX := sums_drain HH.out.2.2.1 HH.out.2.2.2.2.1 HNN.out HL9.out ho1 r5 k5 b5 o5; have HX := Lib.hid hX; clear hX r5 k5 o5 b5)
        clear d2 d3
        obtain ⟨T, rfl⟩ : ∃ T, T = L := ⟨_, rfl⟩
        obtain ⟨L5, hL5⟩ : ∃ L5 : List (Int × Int), [] = L5 := ⟨_, rfl⟩
        obtain ⟨o5, ho5⟩ : ∃ o5 : Int, 0 = o5 := ⟨_, rfl⟩
        rw [hL5, ho5] at HX
        clear hL5 ho5
        obtain ⟨cap5, rfl⟩ : ∃ c5, c5 = cap := ⟨_, rfl⟩
        go_loopw [8, 72] (fun v i wr => ∃ m : Nat, Hid (m ≤ nn) ∧ i = .int .i64 (m : Int) ∧ v = .int .i64 ((sum + o) + bef (T.take m)) ∧ Below w5.heap.size w5 wr) (fun _ i _ => nn - (intOf i).toNat)
        case atStart => exact ⟨0, Lib.hid (Nat.zero_le _), rfl, by simp [bef], Below.refl _ _⟩
        case round =>
          obtain ⟨m, HM, rfl, rfl, hb⟩ := hrel
          have hbf := bef_le HX.out.2.2.2.2.2.1 m
          have hb5 := bef_pos HX.out.2.2.2.2.2.2.1
          have hcn := HX.out.2.2.2.2.1.2.2.2.2
          have ho5 := HX.out.2.2.2.2.1.1
          simp only [] at hcn ho5
          have s0 := HX.out.2.2.2.2.2.2.2.2
          have hl5 : (0 : Int) ≤ (L5.length : Int) := by omega
          have q4 : 0 ≤ bef (T.take m) := hbf.1
          have q5 : bef (T.take m) ≤ 400 := by omega
          have q6 : bef T ≤ 400 := by omega
          have q17 : 0 ≤ bef T := bef_pos HX.out.2.2.2.2.2.1
          have hmn : m ≤ nn := HM.out
          have q7 : (sum + o) ≤ 400 := by omega
          have q7' : 0 ≤ (sum + o) := s0.1
          have q8 : 0 ≤ o5 := ho5
          have q9 : o5 ≤ 400 := by omega
          have q10 : 0 ≤ bef L5 := hb5
          have q11 : bef L5 ≤ 400 := by omega
          have q12 : (L5.length : Int) ≤ 400 := by omega
          have q13 : 0 ≤ (out + (nn : Int)) := s0.2
          have q14 : (out + (nn : Int)) ≤ 400 := by omega
          clear hbf hb5 hcn ho5 s0
          by_cases hlm : m < nn
          · obtain ⟨⟨x1, x2⟩, hx⟩ : ∃ x, T[m]? = some x := ⟨_, List.getElem?_eq_getElem (by have := HX.out.2.1; omega)⟩
            obtain ⟨e1, e2⟩ := ceI_get hx
            obtain ⟨q, rfl, s0, s1⟩ := look2 (HX.out.1.below hb (Nat.le_refl _)) e1 e2
            rw [Nat.mul_comm 2 m] at s0 s1
            simp only [] at s0 s1
            have hbs := bef_step hx
            simp only [] at hbs
            have hbl := bef_le HX.out.2.2.2.2.2.1 (m + 1)
            have hx2 : 0 ≤ x2 := HX.out.2.2.2.2.2.1 _ (List.mem_of_getElem? hx)
            have hx3 : x2 ≤ 400 := by omega
            have d3 : decide ((m : Int) < (nn : Int)) = true := by simp; omega
            have hm2 : (m : Int) < (nn : Int) := by omega
            have HLM := Lib.hid (And.intro hlm hbs)
            clear hlm e1 e2 hx hbs hbl hmn
            go_wp2
            go_roundw
            case rel => exact ⟨m + 1, Lib.hid HLM.out.1, by go_num, by rw [HLM.out.2, Int.add_assoc], hb.alloc hb.size _⟩
            case measure => have := HLM.out.1; simp [intOf]; omega
          · have d3 : decide ((m : Int) < (nn : Int)) = false := by first | (simp; done) | (simp; omega)
            have d3' : decide (m < nn) = false := by first | (simp; done) | (simp; omega)
            have hT : T.take m = T := List.take_of_length_le (by have := HX.out.2.1; omega)
            rw [hT]
            have HX2 := Lib.hid (And.intro hb (HX.out.2.2.2.1.below hb HX.out.2.2.2.1.plt HX.out.2.2.2.1.glt))
            have HA := Lib.hid (AllI_at B p g w.heap.size L5.length _ w wr HX2.out.2 (HX.out.2.2.2.2.2.2.2.1.trans (hb.mono HX.out.2.2.2.2.2.2.2.1.size)) HBB.out rfl)
            clear hlm hT hb q4 q5 hmn
            go_wp2_with (go_at_call 26; refine HA.out.mono ?_; rintro e w8 ⟨A8, c8, rfl, r8, o8, k8, b8⟩; have H8 := Lib.hid (And.intro r8 (And.intro o8 b8)); clear r8 o8 k8 b8)
            clear d3 d3'
            go_loopw [16, 84] (fun v i wr => ∃ m : Nat, Hid (m ≤ L5.length) ∧ i = .int .i64 (m : Int) ∧ v = .int .i64 (bef (L5.take m)) ∧ Below w8.heap.size w8 wr) (fun _ i _ => L5.length - (intOf i).toNat)
            case atStart => exact ⟨0, Lib.hid (Nat.zero_le _), rfl, by simp [bef], Below.refl _ _⟩
            case round =>
              obtain ⟨m3, HM3, rfl, rfl, hb3⟩ := hrel
              have hbf3 := bef_le HX.out.2.2.2.2.2.2.1 m3
              have q15 : 0 ≤ bef (L5.take m3) := hbf3.1
              have q16 : bef (L5.take m3) ≤ 400 := by omega
              have hm3 : m3 ≤ L5.length := HM3.out
              clear hbf3
              by_cases hl3 : m3 < L5.length
              · obtain ⟨⟨x1, x2⟩, hx⟩ : ∃ x, L5[m3]? = some x := ⟨_, List.getElem?_eq_getElem hl3⟩
                obtain ⟨e1, e2⟩ := ceI_get hx
                obtain ⟨q, rfl, s0, s1⟩ := look2 (H8.out.2.1.below hb3 (Nat.le_refl _)) e1 e2
                rw [Nat.mul_comm 2 m3] at s0 s1
                simp only [] at s0 s1
                have hbs := bef_step hx
                simp only [] at hbs
                have hbl := bef_le HX.out.2.2.2.2.2.2.1 (m3 + 1)
                have hx2 : 0 ≤ x2 := HX.out.2.2.2.2.2.2.1 _ (List.mem_of_getElem? hx)
                have hx3 : x2 ≤ 400 := by omega
                have d3 : decide ((m3 : Int) < (L5.length : Int)) = true := by simp; omega
                have hm2 : (m3 : Int) < (L5.length : Int) := by omega
                have HLM := Lib.hid (And.intro hl3 hbs)
                clear hl3 e1 e2 hx hbs hbl hm3
                go_wp2
                go_roundw
                case rel => exact ⟨m3 + 1, Lib.hid HLM.out.1, by go_num, by rw [HLM.out.2], hb3.alloc hb3.size _⟩
                case measure => have := HLM.out.1; simp [intOf]; omega
              · have d3 : decide ((m3 : Int) < (L5.length : Int)) = false := by simp; omega
                have d3' : decide (m3 < L5.length) = false := by simp; omega
                have hT : L5.take m3 = L5 := List.take_of_length_le (by omega)
                rw [hT]
                have R9 := Lib.hid (And.intro (H8.out.1.below hb3 H8.out.1.plt H8.out.1.glt) (H8.out.2.2.trans (hb3.mono H8.out.2.2.size)))
                clear hl3 hT hb3 q15 q16 hm3
                go_wp2_with (first
                  | (go_at_call 20; refine (OpenR_any _ p _ _ _ R9.out.1).mono ?_; rintro e w9 ⟨rfl, rfl⟩)
                  | (go_at_call 18; refine (RefusedR_any _ p _ _ _ R9.out.1).mono ?_; rintro e w9 ⟨rfl, rfl⟩)
                  | (go_at_call 19; refine (LenR_any _ p _ _ _ R9.out.1).mono ?_; rintro e w9 ⟨rfl, rfl⟩)
                  | (go_at_call 17; refine (AcceptedR_any _ p _ _ _ R9.out.1).mono ?_; rintro e w9 ⟨rfl, rfl⟩))
                go_roundw
                case rel => exact ⟨k + 1, g, (sum + o) + bef T, (out + (nn : Int)), Lib.hid HLT.out, by go_num, rfl, rfl, Lib.hid ⟨o5, cap5, L5, R9.out.1, HX.out.2.2.2.2.1.mono (by omega), HX.out.2.2.2.2.2.2.1, R9.out.2, by omega, HX.out.2.2.2.2.2.2.2.2.2⟩⟩
                case measure => have := HLT.out; simp [intOf]; omega
    · have d1 : decide ((k : Int) < (n : Int)) = false := by simp; omega
      have d1' : decide (k < n) = false := by simp; omega
      clear hlt
      go_wp2
      go_ret
      exact ⟨rfl, hbel⟩
end Go.Proofs.Ytgomnifcgaigkaa
