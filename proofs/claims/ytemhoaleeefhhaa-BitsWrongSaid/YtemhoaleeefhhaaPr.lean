/- Walks: BitsWrong. Printed by gen_pr.py. -/
import Derived.Test.YtemhoaleeefhhaaProg
import Derived.Test.YtemhoaleeefhhaaPk
import Derived.Test.YtemhoaleeefhhaaPf
import Derived.Test.YtemhoaleeefhhaaBs
import Derived.Test.YtemhoaleeefhhaaBo2
import Derived.Test.YtemhoaleeefhhaaMa
import Derived.BigRegion
import Derived.Deep.DeepCutAuto
import Derived.Deep.CutBlock
import Derived.Deep.RegionHeld3
namespace Go.Proofs.Ytemhoaleeefhhaa
open Go.RowKit
set_option linter.unusedVariables false

theorem JX.start {w W : World} (h : Below w.heap.size w W) : JX w W [] [] [] := ⟨h, fun _ h => (List.not_mem_nil h).elim, fun _ h => (List.not_mem_nil h).elim, fun _ h => (List.not_mem_nil h).elim, List.Pairwise.nil⟩
theorem JX.al {w W : World} {S : List Sx} {R E : List Rx} (h : JX w W S R E) (o : Obj) : JX w (W.alloc o) S R E := h.step ((Below.refl _ _).alloc (Nat.le_refl _) o)
theorem keepX {w w1 w2 : World} {b1 n1 c1 : Nat} {M1 : Int} {A1 : Option Addr} {S : List Sx} {R E : List Rx} (h : C2 b1 M1 A1 n1 c1 w1 ∧ JX w w1 S R E) (k : Below w1.heap.size w1 w2) : C2 b1 M1 A1 n1 c1 w2 ∧ JX w w2 S R E := ⟨h.1.keep k, h.2.step k⟩
theorem keepX0 {w w1 : World} {b1 n1 c1 : Nat} {M1 : Int} {A1 : Option Addr} {S : List Sx} {R E : List Rx} (h : C2 b1 M1 A1 n1 c1 w1 ∧ JX w w1 S R E) : C2 b1 M1 A1 n1 c1 w1.drew ∧ JX w w1.drew S R E := keepX h (Below.refl _ _).drew
theorem lit_kept {w w' : World} {g : Nat} {o : Obj} (h : w.heap[g]? = some o) (k : Below w.heap.size w w') : w'.heap[g]? = some o := (k.block g (lt_heapK h)).trans h
theorem lit_al {w : World} {g : Nat} {o o' : Obj} (h : w.heap[g]? = some o) : (w.alloc o').heap[g]? = some o := lit_kept h ((Below.refl _ _).alloc (Nat.le_refl _) o')
theorem six50 {w : World} {g j : Nat} {t : TypeId} (h : w.heap[g]? = some (.cells #[.int .i64 50, .int .i64 50, .int .i64 50, .int .i64 50, .int .i64 50, .int .i64 50] t)) (hj : j < 6) : w.cell? ⟨g, j, none⟩ = some (.int .i64 50) := by
  rcases (show j = 0 ∨ j = 1 ∨ j = 2 ∨ j = 3 ∨ j = 4 ∨ j = 5 by omega) with rfl | rfl | rfl | rfl | rfl | rfl <;> simp [World.cell?, h]
theorem row_leR {w : World} {n c : Nat} {A : Option Addr} {zs : List Int} {N : Int} (h : Sees w 1 A n c (zs.map (Value.int .u64))) (r : RightW N zs) : n ≤ 100000 := by
  have h1 := h.length
  have h2 := r.2.2.1
  have h3 := r.2.1
  omega
theorem sees_lit1 (w : World) (o : Obj) (x : Int) (t : TypeId) : Sees ((w.alloc o).alloc (.cells #[.int .i64 x] t)) 1 (some ⟨w.heap.size + 1, 0, none⟩) 1 1 ([x].map (Value.int .i64)) := by
  rw [← alloc_sizeP w o]
  exact (sees_block (heap_alloc_new _ _) rfl (Nat.le_refl _) (by decide) ⟨[], rfl⟩ : Sees _ 1 _ 1 1 [Value.int .i64 x])
theorem set_at1 {w : World} {b n c n' c' : Nat} {N : Int} {A A' : Option Addr} (h : SetB w b N A n c) : SetB (w.setCell ⟨b, 1, none⟩ (.slice A' n' c')) b N A' n' c' := by
  have := heap_setCell_same w b 1 _ _ (.slice A' n' c') h
  unfold SetB
  simpa using this
theorem set_at0 {w : World} {b n c : Nat} {N N' : Int} {A : Option Addr} (h : SetB w b N A n c) : SetB (w.setCell ⟨b, 0, none⟩ (.int .i64 N')) b N' A n c := by
  have := heap_setCell_same w b 0 _ _ (.int .i64 N') h
  unfold SetB
  simpa using this
theorem JX.put {w W : World} {b n0 c0 i : Nat} {N0 : Int} {A0 : Option Addr} {S : List Sx} {R E : List Rx} (h : JX w W (⟨b, N0, A0, n0, c0⟩ :: S) R E) (hS : ∀ p ∈ S, p.b ≠ b) (hb : w.heap.size ≤ b) (u : Value) (N' : Int) (A' : Option Addr) (n' c' : Nat) (l' : List Int) (B : Nat)
    (hx : SetB (W.setCell ⟨b, i, none⟩ u) b N' A' n' c') (o : W.ownsRow B 54 1 (.slice A' n' c') n' (l'.map (Value.int .u64))) : JX w (W.setCell ⟨b, i, none⟩ u) (⟨b, N', A', n', c'⟩ :: S) R [⟨A', n', c', l'⟩] := by
  have hb0 : SetB W b N0 A0 n0 c0 := h.box ⟨b, N0, A0, n0, c0⟩ (by simp)
  refine ⟨h.bel.setCell hb _, fun p hp => ?_, fun r hr => ?_, fun e he => ?_, h.dis⟩
  · rcases List.mem_cons.1 hp with rfl | hp
    · exact hx
    · exact (h.box p (List.mem_cons_of_mem _ hp)).otherP (hS p hp) u
  · exact own_putP (h.row r hr) hb0 u
  · rw [List.mem_singleton] at he
    subst he
    exact sees_own (own_putP o hb0 u)
theorem JX.setRow {w W : World} {g k M : Nat} {S : List Sx} {R E : List Rx} (h : JX w W S R E) (hS : ∀ p ∈ S, p.b < M) (hR : ∀ r ∈ R, ∀ q, r.v.ownBlock = some q → q < M) (hM : M ≤ g) (hw : w.heap.size ≤ M) (u : Value) (A' : Option Addr) (n' c' : Nat) (l' : List Int) (o : Sees (W.setCell ⟨g, k, none⟩ u).drew 1 A' n' c' (l'.map (Value.int .u64))) :
    JX w (W.setCell ⟨g, k, none⟩ u).drew S R [⟨A', n', c', l'⟩] := by
  refine ⟨(h.bel.setCell (Nat.le_trans hw hM) _).drew, fun p hp => ?_, fun r hr => ?_, fun e he => ?_, h.dis⟩
  · exact (Below.heap_setCell W ⟨g, k, none⟩ u p.b (by have := hS p hp; show p.b ≠ g; omega)).trans (h.box p hp)
  · exact (own_ne (h.row r hr) (grown_set W g k u) fun q hq hq2 => by cases hq; have := hR r hr _ hq2; omega).drew
  · rw [List.mem_singleton] at he
    subst he
    exact o
theorem in_bit {zs : List Int} {N v k q : Nat} (hk : N / 64 = k) (hq : N % 64 + v = q) (hq6 : q < 64) : inB zs (N + v) = zs.set k ((fOr (zs.getD k 0).toNat (2 ^ q) : Nat) : Int) := by
  have h1 : (N + v) / 64 = k := by omega
  have h2 : (N + v) % 64 = q := by omega
  unfold inB wd fOr
  rw [h1, h2]
theorem hasF_out {N : Nat} {x : Int} {zs : List Int} (h : x < 0 ∨ (N : Int) ≤ x) : hasF zs N x = false := by
  unfold hasF
  rcases h with h | h
  · rw [decide_eq_false (show ¬ (0 : Int) ≤ x by omega)]; simp
  · rw [decide_eq_false (show ¬ x < (N : Int) by omega)]; simp

set_option maxRecDepth 20000 in
set_option maxHeartbeats 8000000 in
theorem BitsWrong_any (n : Nat) (A0 : Option Addr) (m c0 tn : Nat) (l : List Int) (i : Int) (w : World) (hn : n < 65536) (hs : Sees w 1 A0 m c0 (l.map (Value.int .u64))) (hw : W64 l) (ht : tn < 256) (hi : -9223372036854775808 ≤ i ∧ i ≤ 9223372036854775807) :
    Calls Try.prog 11 #[.int .u16 (n : Int), .slice A0 m c0, .int .u8 (tn : Int), .int .i64 i] w fun e w' => e = .returned (.bool true) ∧ Below w.heap.size w w' := by
  obtain ⟨N, hN⟩ : ∃ N, n % (64 * min m 16 + 1) = N := ⟨_, rfl⟩
  have hN1 : N ≤ 1024 := by have := Nat.mod_lt n (show 0 < 64 * min m 16 + 1 by omega); omega
  have HN := Lib.hid hN
  have HS := Lib.hid hs
  have HN1 := Lib.hid hN1
  have hN2 : (N : Int) ≤ 1024 := by omega
  obtain ⟨mn, hmn⟩ : ∃ mn : Int, min i (-1) = mn := ⟨_, rfl⟩
  have hmn1 : (if i < -1 then i else -1) = mn := by split <;> omega
  have hmn2 : (if (-1 : Int) < i then -1 else i) = mn := by split <;> omega
  obtain ⟨mx, hmx⟩ : ∃ mx : Int, max i (N : Int) = mx := ⟨_, rfl⟩
  have hmx1 : (if i < (N : Int) then (N : Int) else i) = mx := by split <;> omega
  have hmx2 : (if (N : Int) < i then i else (N : Int)) = mx := by split <;> omega
  obtain ⟨mb, hmb⟩ : ∃ mb : Int, max i 65537 = mb := ⟨_, rfl⟩
  have hmb1 : (if i < 65537 then 65537 else i) = mb := by split <;> omega
  have hmb2 : (if (65537 : Int) < i then i else 65537) = mb := by split <;> omega
  have HMM := Lib.hid (show mn < 0 ∧ (N : Int) ≤ mx ∧ 65536 < mb by omega)
  have HT := Lib.hid ht
  clear hN hs hN1 hmn hmx hmb ht hi
  go_enter Try.func11, Try.ntmps11
  go_upto_region 4 with (first
    | (go_at_call 15; refine (made_any n A0 m c0 l _ hn (HS.out.below b1.out (Nat.le_refl _)) hw).mono ?_; rw [HN.out]; rintro e w2 ⟨v, zs, rfl, ⟨A, n2, c2, rfl, o2⟩, hzw, hzr, k2⟩; have HW := Lib.hid (And.intro hzw hzr); have J0 := Lib.hid (((JX.start b1.out).newRow k2 o2).newBox (N : Int) A n2 c2); clear k2 o2 hzw hzr)
    | (go_at_call 13; refine (awake_any _).mono ?_; rintro e w1 ⟨rfl, k1⟩; have b1 := Lib.hid k1; clear k1))
  generalize w2.alloc (.cells #[.int .i64 (N : Int), .slice A n2 c2] 24) = W2 at J0 ⊢
  generalize w2.heap.size = b at J0 ⊢
  have x0 := (J0.out.b b (N : Int) A n2 c2 (by simp)).c0
  have HL := Lib.hid (J0.out.s A n2 c2 zs (by simp)).length
  have HNR := Lib.hid (row_leR (J0.out.s A n2 c2 zs (by simp)) HW.out.2)
  have hB0 := (Below.refl W2.heap.size W2).alloc (Nat.le_refl _) (.cells #[.int .i64 mn, .int .i64 mx] 3)
  have J1 := Lib.hid (J0.out.step hB0)
  have G1 : Hid ((W2.alloc (.cells #[.int .i64 mn, .int .i64 mx] 3)).heap[W2.heap.size]? = some (.cells #[.int .i64 mn, .int .i64 mx] 3 (0, 0))) := Lib.hid (heap_alloc_new _ _)
  clear hB0
  go_upto_region 5 with fail
  generalize W2.alloc (.cells #[.int .i64 mn, .int .i64 mx] 3) = W3 at J1 G1 ⊢
  generalize W2.heap.size = g at G1 ⊢
  clear J0 x0
  go_loopw [54] (fun iv wr => ∃ j : Nat, Hid (j ≤ 2) ∧ iv = .int .i64 (j : Int) ∧ Hid (JX w wr [⟨b, (N : Int), A, n2, c2⟩] [⟨A, n2, c2, zs⟩] []) ∧ Hid (wr.heap[g]? = some (.cells #[.int .i64 mn, .int .i64 mx] 3 (0, 0)))) (fun iv _ => 2 - (intOf iv).toNat)
  case atStart => exact ⟨0, Lib.hid (Nat.zero_le _), rfl, J1, G1⟩
  case round =>
    obtain ⟨j, HJ, rfl, JR, GR⟩ := hrel
    by_cases hlt : j < 2
    · have hel : ∃ x : Int, wr.cell? ⟨g, j, none⟩ = some (.int .i64 x) ∧ Hid (x < 0 ∨ (N : Int) ≤ x) := by
        have hg := GR.out
        rcases (show j = 0 ∨ j = 1 by omega) with rfl | rfl
        · exact ⟨mn, by simp [World.cell?, hg], Lib.hid (.inl HMM.out.1)⟩
        · exact ⟨mx, by simp [World.cell?, hg], Lib.hid (.inr HMM.out.2.1)⟩
      obtain ⟨x, g0, HX⟩ := hel
      have d0 : decide ((j : Int) < 2) = true := by simp; omega
      have d0' : decide (j < 2) = true := by simp; omega
      have d1 : decide ((2 : Int) ≤ (j : Int)) = false := by simp; omega
      have d1' : decide (2 ≤ j) = false := by simp; omega
      have hji : (j : Int) < 2 := by omega
      have HLT := Lib.hid hlt
      have hj5 : (j : Int) ≤ 2 := by omega
      have q0 := (JR.out.b b (N : Int) A n2 c2 (by simp)).c0
      have q1 := (JR.out.b b (N : Int) A n2 c2 (by simp)).c1
      have HNO : Hid (¬ okAll N [x]) := Lib.hid (fun h => by have h1 := h x (by simp); have h2 := HX.out; omega)
      have HHF : Hid (hasF zs N x = false) := Lib.hid (hasF_out HX.out)
      clear hlt
      go_wp2_with (first
        | (go_at_call 22; have _q := J6; refine (Has_any (N : Int) x A n2 c2 zs _ (J6.out.s A n2 c2 zs (by simp)) HW.out.1).mono ?_; rw [HHF.out]; rintro e w7 ⟨rfl, k7⟩; have J7 := Lib.hid (J6.out.step k7); have G7 := Lib.hid (lit_kept G6.out k7); clear k7)
        | (go_at_call 24; have _q := J5; refine (Of_in N (some ⟨w5.heap.size + 1, 0, none⟩) 1 1 [x] _ (by have := HN1.out; omega) (sees_lit1 w5 (.cells #[.int .i64 0, .slice none 0 0] 24) x 3)).mono ?_; rintro e w6 ⟨h6, k6⟩; rcases h6 with ⟨hok, _⟩ | ⟨_, rfl⟩; exact absurd hok HNO.out; have J6 := Lib.hid (((J5.out.al _).step k6).al (.cells #[.int .i64 0, .slice none 0 0] 24)); have G6 := Lib.hid (lit_al (o' := (.cells #[.int .i64 0, .slice none 0 0] 24)) (lit_kept (lit_al G5.out) k6)); have s0 := (J6.out.b b (N : Int) A n2 c2 (by simp)).c0; have s1 := (J6.out.b b (N : Int) A n2 c2 (by simp)).c1; clear k6)
        | (go_at_call 27; have _q := J4; refine (Without_bad (N : Int) x A n2 c2 zs _ (J4.out.s A n2 c2 zs (by simp)) HW.out.1 (.inr HX.out)).mono ?_; rw [if_pos HW.out.2]; rintro e w5 ⟨rfl, k5⟩; have J5 := Lib.hid ((J4.out.step k5).al (.cells #[.int .i64 0, .slice none 0 0] 24)); have G5 := Lib.hid (lit_al (o' := (.cells #[.int .i64 0, .slice none 0 0] 24)) (lit_kept G4.out k5)); have r0 := (J5.out.b b (N : Int) A n2 c2 (by simp)).c0; have r1 := (J5.out.b b (N : Int) A n2 c2 (by simp)).c1; clear k5)
        | (go_at_call 26; refine (With_bad (N : Int) x A n2 c2 zs _ (JR.out.s A n2 c2 zs (by simp)) HW.out.1 (.inr HX.out)).mono ?_; rw [if_pos HW.out.2]; rintro e w4 ⟨rfl, k4⟩; have J4 := Lib.hid ((JR.out.step k4).al (.cells #[.int .i64 0, .slice none 0 0] 24)); have G4 := Lib.hid (lit_al (o' := (.cells #[.int .i64 0, .slice none 0 0] 24)) (lit_kept GR.out k4)); have p0 := (J4.out.b b (N : Int) A n2 c2 (by simp)).c0; have p1 := (J4.out.b b (N : Int) A n2 c2 (by simp)).c1; clear k4))
      go_roundw
      case rel => exact ⟨j + 1, Lib.hid HLT.out, by go_num, J7, G7⟩
      case measure => have := HLT.out; simp [intOf]; omega
    · obtain rfl : j = 2 := by have := HJ.out; omega
      clear hlt
      have q0 := (JR.out.b b (N : Int) A n2 c2 (by simp)).c0
      have q1 := (JR.out.b b (N : Int) A n2 c2 (by simp)).c1
      have J18 := Lib.hid (JR.out.newBox (N : Int) A n2 c2)
      go_upto_region 14 with fail
      have HB8 : Hid (b < wr.heap.size ∧ w.heap.size ≤ wr.heap.size ∧ (wr.alloc (.cells #[.int .i64 (N : Int), .slice A n2 c2] 24)).heap.size = wr.heap.size + 1) := Lib.hid ⟨(JR.out.b b (N : Int) A n2 c2 (by simp)).lt, JR.out.bel.size, by simp⟩
      generalize wr.alloc (.cells #[.int .i64 (N : Int), .slice A n2 c2] 24) = W8 at J18 HB8 ⊢
      generalize wr.heap.size = b8 at J18 HB8 ⊢
      clear JR GR q0 q1 J1 G1
      have j0 := (J18.out.b b8 (N : Int) A n2 c2 (by simp)).c0
      have j1 := (J18.out.b b8 (N : Int) A n2 c2 (by simp)).c1
      have jf0 := (J18.out.b b8 (N : Int) A n2 c2 (by simp)).f 0
      have jf1 := (J18.out.b b8 (N : Int) A n2 c2 (by simp)).f 1
      have k0 := (J18.out.b b (N : Int) A n2 c2 (by simp)).c0
      have k1 := (J18.out.b b (N : Int) A n2 c2 (by simp)).c1
      obtain ⟨q, hq⟩ : ∃ q, tn % 4 = q := ⟨_, rfl⟩
      have htm : (tn : Int) % 4 = (q : Int) := by rw [← hq]; push_cast; rfl
      have htm2 : (tn : Int).tmod 4 = (q : Int) := by rw [Int.tmod_eq_emod_of_nonneg (by omega)]; exact htm
      have HQ := Lib.hid hq
      clear hq
      go_upto_block 2 with fail
      go_cut [] from 97 to 146 (fun wx => ∃ (N' : Int) (A' : Option Addr) (n' c' : Nat) (l' : List Int), Hid (JX w wx [⟨b8, N', A', n', c'⟩, ⟨b, (N : Int), A, n2, c2⟩] [⟨A, n2, c2, zs⟩] [⟨A', n', c', l'⟩]) ∧ Hid (¬ RightW N' l' ∧ W64 l' ∧ n' ≤ 100001))
      case first =>
        rcases (show q = 0 ∨ q = 1 ∨ q = 2 ∨ q = 3 by have := HQ.out; omega) with rfl | rfl | rfl | rfl
        · have HSA := Lib.hid (J18.out.s A n2 c2 zs (by simp))
          have ka1 := ((J18.out.al (.cells #[] 54)).b b (N : Int) A n2 c2 (by simp)).c1
          go_wp2_with (first
            | (at_builtin; have _q := OA; refine wpList_app E_u64 rfl _ _ rfl rfl (base := W8.heap.size) (OA.out.1.alloc _) rfl (sees_block (heap_alloc_new _ _) rfl (Nat.le_refl _) (by decide) ⟨[], rfl⟩ : Sees _ 1 _ 1 1 (([0] : List Int).map (Value.int .u64))) (ints1 _ _) (by have := HNR.out; simp [maxLen]; omega) (by have := HNR.out; omega) (by have := OA.out.2.size; simp; omega) ?_; intro Ab cb wb ob gb bb; have OB := Lib.hid (And.intro ob ((OA.out.2.alloc OA.out.2.size _).trans bb)); clear ob gb bb; have p1 := (J18.out.step OB.out.2); have px := (p1.b b8 (N : Int) A n2 c2 (by simp)).c0; have py := (p1.b b8 (N : Int) A n2 c2 (by simp)).c1; have pf := (p1.b b8 (N : Int) A n2 c2 (by simp)).f 1; clear p1)
            | (at_builtin; refine wpList_app E_u64 rfl _ _ rfl rfl (base := W8.heap.size) (World.ownsRow_lit (base := W8.heap.size) (e := 54) (size := 1) W8 #[] 0 (Nat.le_refl _) (by decide) rfl) rfl (HSA.out.below ((Below.refl _ _).alloc (Nat.le_refl _) _) (Nat.le_refl _)) (ints1 _ _) (by have := HNR.out; simp [maxLen]; omega) (by have := HNR.out; omega) (by simp) ?_; intro Aa ca wa oa ga ba; rw [Nat.zero_add] at oa; have OA : Hid (wa.ownsRow W8.heap.size 54 1 (.slice Aa n2 ca) n2 (zs.map (Value.int .u64)) ∧ Below W8.heap.size W8 wa) := Lib.hid ⟨by simpa using oa, ((Below.refl _ _).alloc (Nat.le_refl _) _).trans ba⟩; rw [Nat.zero_add]; clear oa ga ba; have p1 := (J18.out.step OA.out.2); have k1 := (p1.b b (N : Int) A n2 c2 (by simp)).c1; clear p1))
          go_meet
          exact ⟨(N : Int), Ab, n2 + 1, cb, zs ++ [0], Lib.hid ((J18.out.step OB.out.2).put (fun p hp => by rw [List.mem_singleton] at hp; subst hp; have := HB8.out.1; show b ≠ b8; omega) HB8.out.2.1 (.slice Ab (n2 + 1) cb) (N : Int) Ab (n2 + 1) cb (zs ++ [0]) W8.heap.size (set_at1 ((J18.out.step OB.out.2).b b8 (N : Int) A n2 c2 (by simp))) (by simpa using OB.out.1)), Lib.hid ⟨wrong_long HW.out.2, long_w HW.out.1, by have := HNR.out; omega⟩⟩
        · go_wp2_with fail
          go_meet
          exact ⟨mn, A, n2, c2, zs, Lib.hid ((J18.out.step (Below.refl _ _)).put (fun p hp => by rw [List.mem_singleton] at hp; subst hp; have := HB8.out.1; show b ≠ b8; omega) HB8.out.2.1 (.int .i64 mn) mn A n2 c2 zs w.heap.size (set_at0 (J18.out.b b8 (N : Int) A n2 c2 (by simp))) (J18.out.r A n2 c2 zs (by simp))), Lib.hid ⟨wrong_N (.inl HMM.out.1), HW.out.1, by have := HNR.out; omega⟩⟩
        · go_wp2_with fail
          go_meet
          exact ⟨mb, A, n2, c2, zs, Lib.hid ((J18.out.step (Below.refl _ _)).put (fun p hp => by rw [List.mem_singleton] at hp; subst hp; have := HB8.out.1; show b ≠ b8; omega) HB8.out.2.1 (.int .i64 mb) mb A n2 c2 zs w.heap.size (set_at0 (J18.out.b b8 (N : Int) A n2 c2 (by simp))) (J18.out.r A n2 c2 zs (by simp))), Lib.hid ⟨wrong_N (.inr (by have := HMM.out.2.2; omega)), HW.out.1, by have := HNR.out; omega⟩⟩
        · obtain ⟨r, hr⟩ : ∃ r : Nat, N % 64 = r := ⟨_, rfl⟩
          have hr1 : (N : Int) % 64 = (r : Int) := by omega
          have htr : (N : Int).tmod 64 = (r : Int) := by rw [Int.tmod_eq_emod_of_nonneg (by omega)]; exact hr1
          have HR := Lib.hid hr
          rcases Nat.eq_zero_or_pos r with h0 | h0
          · subst h0
            clear hr
            go_wp2_with fail
            go_ret
            exact ⟨rfl, J18.out.bel⟩
          · have e0 : ((r : Int) == 0) = false := by simp; omega
            have e0' : decide ((r : Int) = 0) = false := by simp; omega
            have HSA := Lib.hid (J18.out.s A n2 c2 zs (by simp))
            have ka1 := ((J18.out.al (.cells #[] 54)).b b (N : Int) A n2 c2 (by simp)).c1
            have HR0 := Lib.hid h0
            clear hr h0
            go_upto_region 18 with (at_builtin; refine wpList_app E_u64 rfl _ _ rfl rfl (base := W8.heap.size) (World.ownsRow_lit (base := W8.heap.size) (e := 54) (size := 1) W8 #[] 0 (Nat.le_refl _) (by decide) rfl) rfl (HSA.out.below ((Below.refl _ _).alloc (Nat.le_refl _) _) (Nat.le_refl _)) (ints1 _ _) (by have := HNR.out; simp [maxLen]; omega) (by have := HNR.out; omega) (by simp) ?_; intro Aa ca wa oa ga ba; rw [Nat.zero_add] at oa; have OA : Hid (wa.ownsRow W8.heap.size 54 1 (.slice Aa n2 ca) n2 (zs.map (Value.int .u64)) ∧ Below W8.heap.size W8 wa) := Lib.hid ⟨by simpa using oa, ((Below.refl _ _).alloc (Nat.le_refl _) _).trans ba⟩; rw [Nat.zero_add]; clear oa ga ba; have p1 := (J18.out.step OA.out.2); have px := (p1.b b8 (N : Int) A n2 c2 (by simp)).c0; have py := (p1.b b8 (N : Int) A n2 c2 (by simp)).c1; have pf := (p1.b b8 (N : Int) A n2 c2 (by simp)).f 1; clear p1)
            have J6 := Lib.hid ((J18.out.step OA.out.2).put (fun p hp => by rw [List.mem_singleton] at hp; subst hp; have := HB8.out.1; show b ≠ b8; omega) HB8.out.2.1 (.slice Aa n2 ca) (N : Int) Aa n2 ca zs W8.heap.size (set_at1 ((J18.out.step OA.out.2).b b8 (N : Int) A n2 c2 (by simp))) OA.out.1)
            have O6 := Lib.hid (own_putP (i := 1) OA.out.1 ((J18.out.step OA.out.2).b b8 (N : Int) A n2 c2 (by simp)) (.slice Aa n2 ca))
            have HLZ := Lib.hid (J18.out.s A n2 c2 zs (by simp)).length
            have HRB : Hid (∀ q, (Value.slice A n2 c2).ownBlock = some q → q < W8.heap.size) := Lib.hid fun q hq => ((J18.out.r A n2 c2 zs (by simp)).lt q hq).2
            generalize wa.setCell ⟨b8, 1, none⟩ (.slice Aa n2 ca) = W5 at J6 O6 ⊢
            clear OA pf px py HSA j0 j1 jf0 jf1 k0 k1 ka1
            obtain ⟨k, hk⟩ : ∃ k : Nat, N / 64 = k := ⟨_, rfl⟩
            have hnk : n2 = k + 1 := by have h1 := HW.out.2.2.2.1; have h2 := HLZ.out; have h3 := HR.out; have h4 := HR0.out; omega
            obtain ⟨m, hm⟩ : ∃ m : Nat, 64 - r = m := ⟨_, rfl⟩
            have hm0 : 0 < m ∧ r < 64 := by have := HR.out; omega
            obtain ⟨v, hv⟩ : ∃ v : Nat, tn % m = v := ⟨_, rfl⟩
            have hv0 : v < m := by rw [← hv]; exact Nat.mod_lt _ hm0.1
            obtain ⟨s, hs⟩ : ∃ s : Nat, r + v = s := ⟨_, rfl⟩
            have hs0 : s < 64 := by omega
            obtain ⟨g, c', hvv, hgb⟩ := own_addrK O6.out (by omega)
            cases hvv
            obtain ⟨u0, u1⟩ := own_cellK O6.out (show k < n2 by omega)
            have hsx := sees_own O6.out
            have hu := HW.out.1.at_ k
            obtain ⟨p1, p2⟩ := or_p64 hu.1 hu.2 hs0
            have hin := in_bit (zs := zs) (N := N) (v := v) (k := k) (q := s) hk (by rw [HR.out]; exact hs) hs0
            obtain ⟨z, hz⟩ : ∃ z : Nat, fOr (zs.getD k 0).toNat (2 ^ s) = z := ⟨_, rfl⟩
            rw [hz] at p2 hin
            have HIN := Lib.hid hin
            have HWB := Lib.hid (And.intro (wrong_bit (v := v) HW.out.1 HW.out.2 (by have := HR.out; omega) (by have := HR.out; have := HR0.out; omega)) (inB_w HW.out.1 (N + v)))
            have HNK := Lib.hid hnk
            have HG := Lib.hid hgb
            generalize hux : zs.getD k 0 = x at u0 hu p2
            obtain ⟨hu0, hu1⟩ := hu
            have ht9 : (tn : Int) < 256 := by have := HT.out; omega
            have hk1 : (n2 : Int) - 1 = (k : Int) := by omega
            have hk2 : (k : Int) < (n2 : Int) := by omega
            have hk9 : (k : Int) ≤ 100000 := by have := HNR.out; omega
            have hwk : IntKind.i64.wrap (k : Int) = (k : Int) := IntWalk.i64_in _ (by omega)
            have hwt : IntKind.i64.wrap (tn : Int) = (tn : Int) := IntWalk.i64_in _ (by omega)
            have hwt2 : wrap64 (tn : Int) = (tn : Int) := IntWalk.wrap64_in _ (by omega)
            have hwr : IntKind.i64.wrap (r : Int) = (r : Int) := IntWalk.i64_in _ (by omega)
            have hm1 : (64 : Int) - (r : Int) = (m : Int) := by omega
            have hwm : IntKind.i64.wrap (m : Int) = (m : Int) := IntWalk.i64_in _ (by omega)
            have hme : ((m : Int) == 0) = false := by simp; omega
            have hmn : ¬ m = 0 := by omega
            have htv2 : (tn : Int) % (m : Int) = (v : Int) := by rw [← hv]; push_cast; rfl
            have htv : (tn : Int).tmod (m : Int) = (v : Int) := by rw [Int.tmod_eq_emod_of_nonneg (by omega)]; exact htv2
            have hwv : IntKind.i64.wrap (v : Int) = (v : Int) := IntWalk.i64_in _ (by omega)
            have hs1 : (r : Int) + (v : Int) = (s : Int) := by omega
            have hws : IntKind.i64.wrap (s : Int) = (s : Int) := IntWalk.i64_in _ (by omega)
            have hs2 : (s : Int) ≤ 63 := by omega
            have hs3 : (0 : Int) ≤ (s : Int) := by omega
            have z1 := (J6.out.b b8 (N : Int) (some ⟨g, 0, none⟩) n2 ca (by simp)).c1
            have y0 := (J6.out.b b (N : Int) A n2 c2 (by simp)).c0
            clear hnk hm hm0 hv hv0 hs hs0 hk hin hz hgb hux htm htm2
            go_wp2_with fail
            go_region
            go_wp2_with fail
            go_meet
            have hset := own_setK O6.out k (z : Int)
            exact ⟨(N : Int), some ⟨g, 0, none⟩, n2, ca, inB zs (N + v), Lib.hid (J6.out.setRow (M := W8.heap.size) (fun p hp => by have h1 := HB8.out; simp only [List.mem_cons, List.not_mem_nil, or_false] at hp; rcases hp with rfl | rfl; (show b8 < _; omega); (show b < _; omega)) (fun r hr => by rw [List.mem_singleton] at hr; subst hr; exact HRB.out) HG.out (by have := HB8.out; omega) _ _ _ _ _ (by rw [HIN.out]; exact sees_own hset.drew)), Lib.hid ⟨HWB.out.1, HWB.out.2, by have := HNR.out; omega⟩⟩
      case rest =>
        obtain ⟨N', A', n', c', l', JC, HB⟩ := hcut
        clear j0 j1 jf0 jf1 k0 k1 J18 htm htm2 HQ
        have HNO : Hid (¬ RightW N' l') := Lib.hid HB.out.1
        have HWB : Hid (W64 l') := Lib.hid HB.out.2.1
        have HBL := bothE_l (M := N') (N := (N : Int)) (b := zs) HB.out.1
        have x0 := (JC.out.b b8 N' A' n' c' (by simp)).c0; have x1 := (JC.out.b b8 N' A' n' c' (by simp)).c1; have y0 := (JC.out.b b (N : Int) A n2 c2 (by simp)).c0; have y1 := (JC.out.b b (N : Int) A n2 c2 (by simp)).c1
        go_upto_region 35 with (first
          | (go_at_call 37; have _q := J9; refine (New_u N' _).mono ?_; rintro e w' ⟨Nn, An, mn', cn, yn, er, rfl, on, _, hf, k⟩; have HF : Hid ((er = 0 ∧ 0 ≤ N' ∧ N' ≤ 65536) ∨ (er = 2 ∧ (N' < 0 ∨ 65536 < N'))) := Lib.hid (by rcases hf.out with ⟨h, h2, _⟩ | ⟨h, h2, _⟩ <;> omega); have J10 := Lib.hid ((J9.out.step k).al (.cells #[.int .i64 Nn, .slice An mn' cn] 24)); clear hf on k x0 x1 y0 y1; have x0 := (J10.out.b b8 N' A' n' c' (by simp)).c0; have x1 := (J10.out.b b8 N' A' n' c' (by simp)).c1; have y0 := (J10.out.b b (N : Int) A n2 c2 (by simp)).c0; have y1 := (J10.out.b b (N : Int) A n2 c2 (by simp)).c1)
          | (go_at_call 21; have _q := J8; refine (Before_any N' 1000 A' n' c' l' _ (J8.out.e A' n' c' l' (by simp)) HWB.out).mono ?_; rw [beforeF_no HNO.out, show optV none = .tuple #[.int .i64 0, .bool false] from rfl]; rintro e w' ⟨rfl, k⟩; have J9 := Lib.hid (J8.out.step k); clear k x0 x1 y0 y1; have x0 := (J9.out.b b8 N' A' n' c' (by simp)).c0; have x1 := (J9.out.b b8 N' A' n' c' (by simp)).c1; have y0 := (J9.out.b b (N : Int) A n2 c2 (by simp)).c0; have y1 := (J9.out.b b (N : Int) A n2 c2 (by simp)).c1)
          | (go_at_call 20; have _q := J7; refine (Next_any N' 0 A' n' c' l' _ (J7.out.e A' n' c' l' (by simp)) HWB.out).mono ?_; rw [nextF_no HNO.out, show optV none = .tuple #[.int .i64 0, .bool false] from rfl]; rintro e w' ⟨rfl, k⟩; have J8 := Lib.hid (J7.out.step k); clear k x0 x1 y0 y1; have x0 := (J8.out.b b8 N' A' n' c' (by simp)).c0; have x1 := (J8.out.b b8 N' A' n' c' (by simp)).c1; have y0 := (J8.out.b b (N : Int) A n2 c2 (by simp)).c0; have y1 := (J8.out.b b (N : Int) A n2 c2 (by simp)).c1)
          | (go_at_call 19; have _q := J6; refine (Select_any N' 0 A' n' c' l' _ (J6.out.e A' n' c' l' (by simp)) HWB.out (by decide)).mono ?_; rw [selF_no HNO.out, show optV none = .tuple #[.int .i64 0, .bool false] from rfl]; rintro e w' ⟨rfl, k⟩; have J7 := Lib.hid (J6.out.step k); clear k x0 x1 y0 y1; have x0 := (J7.out.b b8 N' A' n' c' (by simp)).c0; have x1 := (J7.out.b b8 N' A' n' c' (by simp)).c1; have y0 := (J7.out.b b (N : Int) A n2 c2 (by simp)).c0; have y1 := (J7.out.b b (N : Int) A n2 c2 (by simp)).c1)
          | (go_at_call 33; have _q := J5; refine (Minus_bad N' N' A' A' n' c' n' c' l' l' _ (J5.out.e A' n' c' l' (by simp)) (J5.out.e A' n' c' l' (by simp)) HWB.out HWB.out (by rw [bothE_l HNO.out]; decide)).mono ?_; rw [bothE_l HNO.out]; rintro e w' ⟨rfl, k⟩; have J6 := Lib.hid ((J5.out.step k).al (.cells #[.int .i64 0, .slice none 0 0] 24)); clear k x0 x1 y0 y1; have x0 := (J6.out.b b8 N' A' n' c' (by simp)).c0; have x1 := (J6.out.b b8 N' A' n' c' (by simp)).c1; have y0 := (J6.out.b b (N : Int) A n2 c2 (by simp)).c0; have y1 := (J6.out.b b (N : Int) A n2 c2 (by simp)).c1)
          | (go_at_call 32; have _q := J4; refine (And_bad (N : Int) N' A A' n2 c2 n' c' zs l' _ (J4.out.s A n2 c2 zs (by simp)) (J4.out.e A' n' c' l' (by simp)) HW.out.1 HWB.out (by rw [bothE_r HNO.out]; decide)).mono ?_; rw [bothE_r HNO.out]; rintro e w' ⟨rfl, k⟩; have J5 := Lib.hid ((J4.out.step k).al (.cells #[.int .i64 0, .slice none 0 0] 24)); clear k x0 x1 y0 y1; have x0 := (J5.out.b b8 N' A' n' c' (by simp)).c0; have x1 := (J5.out.b b8 N' A' n' c' (by simp)).c1; have y0 := (J5.out.b b (N : Int) A n2 c2 (by simp)).c0; have y1 := (J5.out.b b (N : Int) A n2 c2 (by simp)).c1)
          | (go_at_call 31; have _q := J3; refine (Or_bad N' (N : Int) A' A n' c' n2 c2 l' zs _ (J3.out.e A' n' c' l' (by simp)) (J3.out.s A n2 c2 zs (by simp)) HWB.out HW.out.1 (by rw [bothE_l HNO.out]; decide)).mono ?_; rw [bothE_l HNO.out]; rintro e w' ⟨rfl, k⟩; have J4 := Lib.hid ((J3.out.step k).al (.cells #[.int .i64 0, .slice none 0 0] 24)); clear k x0 x1 y0 y1; have x0 := (J4.out.b b8 N' A' n' c' (by simp)).c0; have x1 := (J4.out.b b8 N' A' n' c' (by simp)).c1; have y0 := (J4.out.b b (N : Int) A n2 c2 (by simp)).c0; have y1 := (J4.out.b b (N : Int) A n2 c2 (by simp)).c1)
          | (go_at_call 28; have _q := J2; refine (Not_bad N' A' n' c' l' _ (J2.out.e A' n' c' l' (by simp)) HWB.out HNO.out).mono ?_; rintro e w' ⟨rfl, k⟩; have J3 := Lib.hid ((J2.out.step k).al (.cells #[.int .i64 0, .slice none 0 0] 24)); clear k x0 x1 y0 y1; have x0 := (J3.out.b b8 N' A' n' c' (by simp)).c0; have x1 := (J3.out.b b8 N' A' n' c' (by simp)).c1; have y0 := (J3.out.b b (N : Int) A n2 c2 (by simp)).c0; have y1 := (J3.out.b b (N : Int) A n2 c2 (by simp)).c1)
          | (go_at_call 27; have _q := J1; refine (Without_bad N' (-1) A' n' c' l' _ (J1.out.e A' n' c' l' (by simp)) HWB.out (.inl HNO.out)).mono ?_; rw [if_neg HNO.out]; rintro e w' ⟨rfl, k⟩; have J2 := Lib.hid ((J1.out.step k).al (.cells #[.int .i64 0, .slice none 0 0] 24)); clear k x0 x1 y0 y1; have x0 := (J2.out.b b8 N' A' n' c' (by simp)).c0; have x1 := (J2.out.b b8 N' A' n' c' (by simp)).c1; have y0 := (J2.out.b b (N : Int) A n2 c2 (by simp)).c0; have y1 := (J2.out.b b (N : Int) A n2 c2 (by simp)).c1)
          | (go_at_call 26; refine (With_bad N' 0 A' n' c' l' _ (JC.out.e A' n' c' l' (by simp)) HWB.out (.inl HNO.out)).mono ?_; rw [if_neg HNO.out]; rintro e w' ⟨rfl, k⟩; have J1 := Lib.hid ((JC.out.step k).al (.cells #[.int .i64 0, .slice none 0 0] 24)); clear k x0 x1 y0 y1; have x0 := (J1.out.b b8 N' A' n' c' (by simp)).c0; have x1 := (J1.out.b b8 N' A' n' c' (by simp)).c1; have y0 := (J1.out.b b (N : Int) A n2 c2 (by simp)).c0; have y1 := (J1.out.b b (N : Int) A n2 c2 (by simp)).c1))
        generalize World.alloc _ (.cells #[.int .i64 Nn, .slice An mn' cn] 24) = W11 at J10 x0 x1 y0 y1 ⊢
        have J11 := Lib.hid (J10.out.al (.cells #[.int .i64 50, .int .i64 50, .int .i64 50, .int .i64 50, .int .i64 50, .int .i64 50] 38))
        have G11 : Hid ((W11.alloc (.cells #[.int .i64 50, .int .i64 50, .int .i64 50, .int .i64 50, .int .i64 50, .int .i64 50] 38)).heap[W11.heap.size]? = some (.cells #[.int .i64 50, .int .i64 50, .int .i64 50, .int .i64 50, .int .i64 50, .int .i64 50] 38 (0, 0))) := Lib.hid (heap_alloc_new _ _)
        go_upto_region 36 with fail
        generalize W11.alloc (.cells #[.int .i64 50, .int .i64 50, .int .i64 50, .int .i64 50, .int .i64 50, .int .i64 50] 38) = W12 at J11 G11 ⊢
        generalize W11.heap.size = g6 at G11 ⊢
        clear J10 x0 x1 y0 y1
        go_loopw [209] (fun iv wr => ∃ j : Nat, Hid (j ≤ 6) ∧ iv = .int .i64 (j : Int) ∧ Hid (JX w wr [⟨b8, N', A', n', c'⟩, ⟨b, (N : Int), A, n2, c2⟩] [⟨A, n2, c2, zs⟩] [⟨A', n', c', l'⟩]) ∧ Hid (wr.heap[g6]? = some (.cells #[.int .i64 50, .int .i64 50, .int .i64 50, .int .i64 50, .int .i64 50, .int .i64 50] 38 (0, 0)))) (fun iv _ => 6 - (intOf iv).toNat)
        case atStart => exact ⟨0, Lib.hid (Nat.zero_le _), rfl, J11, G11⟩
        case round =>
          obtain ⟨j, HJ, rfl, JR, GR⟩ := hrel
          by_cases hlt : j < 6
          · have g0 := six50 GR.out hlt
            have d0 : decide ((j : Int) < 6) = true := by simp; omega
            have d0' : decide (j < 6) = true := by simp; omega
            have hji : (j : Int) < 6 := by omega
            have HLT := Lib.hid hlt
            have hj5 : (j : Int) ≤ 6 := by omega
            clear hlt
            go_wp2_with fail
            go_roundw
            case rel => exact ⟨j + 1, Lib.hid HLT.out, by go_num, JR, GR⟩
            case measure => have := HLT.out; simp [intOf]; omega
          · obtain rfl : j = 6 := by have := HJ.out; omega
            clear hlt
            have x0 := (JR.out.b b8 N' A' n' c' (by simp)).c0
            have x1 := (JR.out.b b8 N' A' n' c' (by simp)).c1
            go_upto_region 41 with fail
            have hS0 : C2 b8 N' A' n' c' wr ∧ JX w wr [⟨b8, N', A', n', c'⟩, ⟨b, (N : Int), A, n2, c2⟩] [⟨A, n2, c2, zs⟩] [⟨A', n', c', l'⟩] := ⟨⟨x0, x1⟩, JR.out⟩
            refine wp_region_held_drew (S := (fun w' => C2 b8 N' A' n' c' w' ∧ JX w w' [⟨b8, N', A', n', c'⟩, ⟨b, (N : Int), A, n2, c2⟩] [⟨A, n2, c2, zs⟩] [⟨A', n', c', l'⟩])) (by kernel_rfl) ?_ (fun hHeld => ?_)
            · exact keepX0 hS0
            refine wpAnyH_take (i := 0) (v := (.agg #[.int .i64 N', .slice A' n' c'])) rfl (by kernel_rfl) (by kernel_rfl) (by kernel_rfl) (fun _ _ _ h => h) (Or.inl ⟨by rfl, fun w hSw => by obtain ⟨⟨hSx, hSy⟩, _⟩ := hSw; go_simp⟩) (by assumption) ?_
            (try simp only [Act.put, List.getElem_toArray, List.getElem_cons_succ, List.getElem_cons_zero, List.setIfInBounds_toArray, List.set_cons_succ, List.set_cons_zero])
            refine wpAnyH_ready (rs := [1]) (by kernel_rfl) (by simp) ?_
            refine AllReadyH.cons rfl (fun K hK => ?_) AllReadyH.nil
            go_simp
            (go_at_call 34; refine (Right_any N' A' n' c' l' _ (JX.e (w := w) (S := [⟨b8, N', A', n', c'⟩, ⟨b, (N : Int), A, n2, c2⟩]) (R := [⟨A, n2, c2, zs⟩]) (E := [⟨A', n', c', l'⟩]) (And.right hHeld) A' n' c' l' (by simp)) HWB.out).mono ?_; rw [decide_eq_false HNO.out]; rintro e w' ⟨rfl, kk⟩)
            refine hK.out _ _ ?_ (fun hHeld2 => ?_)
            · exact keepX (by assumption) (by assumption)
            clear hHeld hK K
            have hHeld := hHeld2
            clear hHeld2
            (try simp only [Act.put, List.getElem_toArray, List.getElem_cons_succ, List.getElem_cons_zero, List.setIfInBounds_toArray, List.set_cons_succ, List.set_cons_zero])
            refine wpAnyH_take (i := 2) (v := .bool true) rfl (by kernel_rfl) (by kernel_rfl) (by kernel_rfl) (fun _ _ _ h => h) (Or.inl ⟨by rfl, fun w _ => by go_simp⟩) (by assumption) ?_
            (try simp only [Act.put, List.getElem_toArray, List.getElem_cons_succ, List.getElem_cons_zero, List.setIfInBounds_toArray, List.set_cons_succ, List.set_cons_zero])
            refine wpAnyH_take (i := 3) (v := .bool true) rfl (by kernel_rfl) (by kernel_rfl) (by kernel_rfl) (fun _ _ _ h => h) (Or.inl ⟨by rfl, fun w _ => by go_simp⟩) (by assumption) ?_
            (try simp only [Act.put, List.getElem_toArray, List.getElem_cons_succ, List.getElem_cons_zero, List.setIfInBounds_toArray, List.set_cons_succ, List.set_cons_zero])
            refine wpAnyH_take (i := 4) (v := (.agg #[.int .i64 N', .slice A' n' c'])) rfl (by kernel_rfl) (by kernel_rfl) (by kernel_rfl) (fun _ _ _ h => h) (Or.inl ⟨by rfl, fun w hSw => by obtain ⟨⟨hSx, hSy⟩, _⟩ := hSw; go_simp⟩) (by assumption) ?_
            (try simp only [Act.put, List.getElem_toArray, List.getElem_cons_succ, List.getElem_cons_zero, List.setIfInBounds_toArray, List.set_cons_succ, List.set_cons_zero])
            refine wpAnyH_ready (rs := [5]) (by kernel_rfl) (by simp) ?_
            refine AllReadyH.cons rfl (fun K hK => ?_) AllReadyH.nil
            go_simp
            (go_at_call 22; refine (Has_any N' 0 A' n' c' l' _ (JX.e (w := w) (S := [⟨b8, N', A', n', c'⟩, ⟨b, (N : Int), A, n2, c2⟩]) (R := [⟨A, n2, c2, zs⟩]) (E := [⟨A', n', c', l'⟩]) (And.right hHeld) A' n' c' l' (by simp)) HWB.out).mono ?_; rw [hasF_no HNO.out]; rintro e w' ⟨rfl, kk⟩)
            refine hK.out _ _ ?_ (fun hHeld2 => ?_)
            · exact keepX (by assumption) (by assumption)
            clear hHeld hK K
            have hHeld := hHeld2
            clear hHeld2
            (try simp only [Act.put, List.getElem_toArray, List.getElem_cons_succ, List.getElem_cons_zero, List.setIfInBounds_toArray, List.set_cons_succ, List.set_cons_zero])
            refine wpAnyH_take (i := 6) (v := .bool true) rfl (by kernel_rfl) (by kernel_rfl) (by kernel_rfl) (fun _ _ _ h => h) (Or.inl ⟨by rfl, fun w _ => by go_simp⟩) (by assumption) ?_
            (try simp only [Act.put, List.getElem_toArray, List.getElem_cons_succ, List.getElem_cons_zero, List.setIfInBounds_toArray, List.set_cons_succ, List.set_cons_zero])
            refine wpAnyH_take (i := 7) (v := .bool true) rfl (by kernel_rfl) (by kernel_rfl) (by kernel_rfl) (fun _ _ _ h => h) (Or.inl ⟨by rfl, fun w _ => by go_simp⟩) (by assumption) ?_
            (try simp only [Act.put, List.getElem_toArray, List.getElem_cons_succ, List.getElem_cons_zero, List.setIfInBounds_toArray, List.set_cons_succ, List.set_cons_zero])
            refine wpAnyH_take (i := 8) (v := .bool true) rfl (by kernel_rfl) (by kernel_rfl) (by kernel_rfl) (fun _ _ _ h => h) (Or.inl ⟨by rfl, fun w _ => by go_simp⟩) (by assumption) ?_
            (try simp only [Act.put, List.getElem_toArray, List.getElem_cons_succ, List.getElem_cons_zero, List.setIfInBounds_toArray, List.set_cons_succ, List.set_cons_zero])
            refine wpAnyH_take (i := 9) (v := (.agg #[.int .i64 N', .slice A' n' c'])) rfl (by kernel_rfl) (by kernel_rfl) (by kernel_rfl) (fun _ _ _ h => h) (Or.inl ⟨by rfl, fun w hSw => by obtain ⟨⟨hSx, hSy⟩, _⟩ := hSw; go_simp⟩) (by assumption) ?_
            (try simp only [Act.put, List.getElem_toArray, List.getElem_cons_succ, List.getElem_cons_zero, List.setIfInBounds_toArray, List.set_cons_succ, List.set_cons_zero])
            refine wpAnyH_take (i := 11) (v := (.agg #[.int .i64 N', .slice A' n' c'])) rfl (by kernel_rfl) (by kernel_rfl) (by kernel_rfl) (fun _ _ _ h => h) (Or.inl ⟨by rfl, fun w hSw => by obtain ⟨⟨hSx, hSy⟩, _⟩ := hSw; go_simp⟩) (by assumption) ?_
            (try simp only [Act.put, List.getElem_toArray, List.getElem_cons_succ, List.getElem_cons_zero, List.setIfInBounds_toArray, List.set_cons_succ, List.set_cons_zero])
            refine wpAnyH_take (i := 14) (v := (.agg #[.int .i64 N', .slice A' n' c'])) rfl (by kernel_rfl) (by kernel_rfl) (by kernel_rfl) (fun _ _ _ h => h) (Or.inl ⟨by rfl, fun w hSw => by obtain ⟨⟨hSx, hSy⟩, _⟩ := hSw; go_simp⟩) (by assumption) ?_
            (try simp only [Act.put, List.getElem_toArray, List.getElem_cons_succ, List.getElem_cons_zero, List.setIfInBounds_toArray, List.set_cons_succ, List.set_cons_zero])
            refine wpAnyH_take (i := 18) (v := (.agg #[.int .i64 N', .slice A' n' c'])) rfl (by kernel_rfl) (by kernel_rfl) (by kernel_rfl) (fun _ _ _ h => h) (Or.inl ⟨by rfl, fun w hSw => by obtain ⟨⟨hSx, hSy⟩, _⟩ := hSw; go_simp⟩) (by assumption) ?_
            (try simp only [Act.put, List.getElem_toArray, List.getElem_cons_succ, List.getElem_cons_zero, List.setIfInBounds_toArray, List.set_cons_succ, List.set_cons_zero])
            refine wpAnyH_ready (rs := [10]) (by kernel_rfl) (by simp) ?_
            refine AllReadyH.cons rfl (fun K hK => ?_) AllReadyH.nil
            go_simp
            (go_at_call 17; refine (Count_any N' A' n' c' l' _ (JX.e (w := w) (S := [⟨b8, N', A', n', c'⟩, ⟨b, (N : Int), A, n2, c2⟩]) (R := [⟨A, n2, c2, zs⟩]) (E := [⟨A', n', c', l'⟩]) (And.right hHeld) A' n' c' l' (by simp)) HWB.out).mono ?_; rw [rankF_no HNO.out]; rintro e w' ⟨rfl, kk⟩)
            refine hK.out _ _ ?_ (fun hHeld2 => ?_)
            · exact keepX (by assumption) (by assumption)
            clear hHeld hK K
            have hHeld := hHeld2
            clear hHeld2
            (try simp only [Act.put, List.getElem_toArray, List.getElem_cons_succ, List.getElem_cons_zero, List.setIfInBounds_toArray, List.set_cons_succ, List.set_cons_zero])
            refine wpAnyH_ready (rs := [12]) (by kernel_rfl) (by simp) ?_
            refine AllReadyH.cons rfl (fun K hK => ?_) AllReadyH.nil
            go_simp
            (go_at_call 18; refine (Rank_any N' 5 A' n' c' l' _ (JX.e (w := w) (S := [⟨b8, N', A', n', c'⟩, ⟨b, (N : Int), A, n2, c2⟩]) (R := [⟨A, n2, c2, zs⟩]) (E := [⟨A', n', c', l'⟩]) (And.right hHeld) A' n' c' l' (by simp)) HWB.out).mono ?_; rw [rankF_no HNO.out]; rintro e w' ⟨rfl, kk⟩)
            refine hK.out _ _ ?_ (fun hHeld2 => ?_)
            · exact keepX (by assumption) (by assumption)
            clear hHeld hK K
            have hHeld := hHeld2
            clear hHeld2
            (try simp only [Act.put, List.getElem_toArray, List.getElem_cons_succ, List.getElem_cons_zero, List.setIfInBounds_toArray, List.set_cons_succ, List.set_cons_zero])
            refine wpAnyH_take (i := 13) (v := .int .i64 0) rfl (by kernel_rfl) (by kernel_rfl) (by kernel_rfl) (fun _ _ _ h => h) (Or.inl ⟨by rfl, fun w _ => by go_simp; (try rfl)⟩) (by assumption) ?_
            (try simp only [Act.put, List.getElem_toArray, List.getElem_cons_succ, List.getElem_cons_zero, List.setIfInBounds_toArray, List.set_cons_succ, List.set_cons_zero])
            refine wpAnyH_ready (rs := [15]) (by kernel_rfl) (by simp) ?_
            refine AllReadyH.cons rfl (fun K hK => ?_) AllReadyH.nil
            go_simp
            (go_at_call 16; refine (Members_any N' A' n' c' l' _ (JX.e (w := w) (S := [⟨b8, N', A', n', c'⟩, ⟨b, (N : Int), A, n2, c2⟩]) (R := [⟨A, n2, c2, zs⟩]) (E := [⟨A', n', c', l'⟩]) (And.right hHeld) A' n' c' l' (by simp)) HWB.out).mono ?_; rw [membersF_no HNO.out]; rintro e w' ⟨AM, cM, rfl, _, kk⟩)
            refine hK.out _ _ ?_ (fun hHeld2 => ?_)
            · exact keepX (by assumption) (by assumption)
            clear hHeld hK K
            have hHeld := hHeld2
            clear hHeld2
            (try simp only [Act.put, List.getElem_toArray, List.getElem_cons_succ, List.getElem_cons_zero, List.setIfInBounds_toArray, List.set_cons_succ, List.set_cons_zero])
            refine wpAnyH_take (i := 16) (v := .int .i64 0) rfl (by kernel_rfl) (by kernel_rfl) (by kernel_rfl) (fun _ _ _ h => h) (Or.inl ⟨by rfl, fun w _ => by go_simp⟩) (by assumption) ?_
            (try simp only [Act.put, List.getElem_toArray, List.getElem_cons_succ, List.getElem_cons_zero, List.setIfInBounds_toArray, List.set_cons_succ, List.set_cons_zero])
            refine wpAnyH_take (i := 17) (v := .int .i64 0) rfl (by kernel_rfl) (by kernel_rfl) (by kernel_rfl) (fun _ _ _ h => h) (Or.inl ⟨by rfl, fun w _ => by go_simp; (try rfl)⟩) (by assumption) ?_
            (try simp only [Act.put, List.getElem_toArray, List.getElem_cons_succ, List.getElem_cons_zero, List.setIfInBounds_toArray, List.set_cons_succ, List.set_cons_zero])
            refine wpAnyH_ready (rs := [19]) (by kernel_rfl) (by simp) ?_
            refine AllReadyH.cons rfl (fun K hK => ?_) AllReadyH.nil
            go_simp
            (go_at_call 29; refine (Runs_any N' A' n' c' l' _ (JX.e (w := w) (S := [⟨b8, N', A', n', c'⟩, ⟨b, (N : Int), A, n2, c2⟩]) (R := [⟨A, n2, c2, zs⟩]) (E := [⟨A', n', c', l'⟩]) (And.right hHeld) A' n' c' l' (by simp)) HWB.out).mono ?_; rw [runsF_no HNO.out]; rintro e w' ⟨AU, cU, rfl, _, kk⟩)
            refine hK.out _ _ ?_ (fun hHeld2 => ?_)
            · exact keepX (by assumption) (by assumption)
            clear hHeld hK K
            have hHeld := hHeld2
            clear hHeld2
            (try simp only [Act.put, List.getElem_toArray, List.getElem_cons_succ, List.getElem_cons_zero, List.setIfInBounds_toArray, List.set_cons_succ, List.set_cons_zero])
            refine wpAnyH_take (i := 20) (v := .int .i64 0) rfl (by kernel_rfl) (by kernel_rfl) (by kernel_rfl) (fun _ _ _ h => h) (Or.inl ⟨by rfl, fun w _ => by go_simp⟩) (by assumption) ?_
            (try simp only [Act.put, List.getElem_toArray, List.getElem_cons_succ, List.getElem_cons_zero, List.setIfInBounds_toArray, List.set_cons_succ, List.set_cons_zero])
            refine wpAnyH_take (i := 21) (v := .int .i64 0) rfl (by kernel_rfl) (by kernel_rfl) (by kernel_rfl) (fun _ _ _ h => h) (Or.inl ⟨by rfl, fun w _ => by go_simp; (try rfl)⟩) (by assumption) ?_
            (try simp only [Act.put, List.getElem_toArray, List.getElem_cons_succ, List.getElem_cons_zero, List.setIfInBounds_toArray, List.set_cons_succ, List.set_cons_zero])
            refine wpAnyH_take (i := 22) (v := .bool true) rfl (by kernel_rfl) (by kernel_rfl) (by kernel_rfl) (fun _ _ _ h => h) (Or.inl ⟨by rfl, fun w _ => by go_simp⟩) (by assumption) ?_
            (try simp only [Act.put, List.getElem_toArray, List.getElem_cons_succ, List.getElem_cons_zero, List.setIfInBounds_toArray, List.set_cons_succ, List.set_cons_zero])
            refine wpAnyH_take (i := 23) (v := .bool true) rfl (by kernel_rfl) (by kernel_rfl) (by kernel_rfl) (fun _ _ _ h => h) (Or.inl ⟨by rfl, fun w _ => by go_simp⟩) (by assumption) ?_
            (try simp only [Act.put, List.getElem_toArray, List.getElem_cons_succ, List.getElem_cons_zero, List.setIfInBounds_toArray, List.set_cons_succ, List.set_cons_zero])
            refine wpAnyH_take (i := 24) (v := .bool true) rfl (by kernel_rfl) (by kernel_rfl) (by kernel_rfl) (fun _ _ _ h => h) (Or.inl ⟨by rfl, fun w _ => by go_simp⟩) (by assumption) ?_
            (try simp only [Act.put, List.getElem_toArray, List.getElem_cons_succ, List.getElem_cons_zero, List.setIfInBounds_toArray, List.set_cons_succ, List.set_cons_zero])
            refine wpAnyH_take (i := 25) (v := .bool false) rfl (by kernel_rfl) (by kernel_rfl) (by kernel_rfl) (fun _ _ _ h => h) (Or.inl ⟨by rfl, fun w _ => by go_simp⟩) (by assumption) ?_
            (try simp only [Act.put, List.getElem_toArray, List.getElem_cons_succ, List.getElem_cons_zero, List.setIfInBounds_toArray, List.set_cons_succ, List.set_cons_zero])
            refine wpAnyH_take (i := 26) (v := .bool true) rfl (by kernel_rfl) (by kernel_rfl) (by kernel_rfl) (fun _ _ _ h => h) (Or.inl ⟨by rfl, fun w _ => by go_simp⟩) (by assumption) ?_
            (try simp only [Act.put, List.getElem_toArray, List.getElem_cons_succ, List.getElem_cons_zero, List.setIfInBounds_toArray, List.set_cons_succ, List.set_cons_zero])
            refine wpAnyH_take (i := 27) (v := .bool true) rfl (by kernel_rfl) (by kernel_rfl) (by kernel_rfl) (fun _ _ _ h => h) (Or.inl ⟨by rfl, fun w _ => by go_simp⟩) (by assumption) ?_
            (try simp only [Act.put, List.getElem_toArray, List.getElem_cons_succ, List.getElem_cons_zero, List.setIfInBounds_toArray, List.set_cons_succ, List.set_cons_zero])
            refine wpAnyH_take (i := 28) (v := .bool true) rfl (by kernel_rfl) (by kernel_rfl) (by kernel_rfl) (fun _ _ _ h => h) (Or.inl ⟨by rfl, fun w _ => by go_simp⟩) (by assumption) ?_
            (try simp only [Act.put, List.getElem_toArray, List.getElem_cons_succ, List.getElem_cons_zero, List.setIfInBounds_toArray, List.set_cons_succ, List.set_cons_zero])
            refine wpAnyH_take (i := 29) (v := .bool false) rfl (by kernel_rfl) (by kernel_rfl) (by kernel_rfl) (fun _ _ _ h => h) (Or.inl ⟨by rfl, fun w _ => by go_simp⟩) (by assumption) ?_
            (try simp only [Act.put, List.getElem_toArray, List.getElem_cons_succ, List.getElem_cons_zero, List.setIfInBounds_toArray, List.set_cons_succ, List.set_cons_zero])
            refine wpAnyH_take (i := 30) (v := .bool true) rfl (by kernel_rfl) (by kernel_rfl) (by kernel_rfl) (fun _ _ _ h => h) (Or.inl ⟨by rfl, fun w _ => by go_simp⟩) (by assumption) ?_
            (try simp only [Act.put, List.getElem_toArray, List.getElem_cons_succ, List.getElem_cons_zero, List.setIfInBounds_toArray, List.set_cons_succ, List.set_cons_zero])
            refine wpAnyH_take (i := 31) (v := .bool true) rfl (by kernel_rfl) (by kernel_rfl) (by kernel_rfl) (fun _ _ _ h => h) (Or.inl ⟨by rfl, fun w _ => by go_simp⟩) (by assumption) ?_
            (try simp only [Act.put, List.getElem_toArray, List.getElem_cons_succ, List.getElem_cons_zero, List.setIfInBounds_toArray, List.set_cons_succ, List.set_cons_zero])
            refine wpAnyH_take (i := 32) (v := .bool true) rfl (by kernel_rfl) (by kernel_rfl) (by kernel_rfl) (fun _ _ _ h => h) (Or.inl ⟨by rfl, fun w _ => by go_simp⟩) (by assumption) ?_
            (try simp only [Act.put, List.getElem_toArray, List.getElem_cons_succ, List.getElem_cons_zero, List.setIfInBounds_toArray, List.set_cons_succ, List.set_cons_zero])
            refine wpAnyH_take (i := 33) (v := .bool false) rfl (by kernel_rfl) (by kernel_rfl) (by kernel_rfl) (fun _ _ _ h => h) (Or.inl ⟨by rfl, fun w _ => by go_simp⟩) (by assumption) ?_
            (try simp only [Act.put, List.getElem_toArray, List.getElem_cons_succ, List.getElem_cons_zero, List.setIfInBounds_toArray, List.set_cons_succ, List.set_cons_zero])
            refine wpAnyH_take (i := 34) (v := .bool true) rfl (by kernel_rfl) (by kernel_rfl) (by kernel_rfl) (fun _ _ _ h => h) (Or.inl ⟨by rfl, fun w _ => by go_simp⟩) (by assumption) ?_
            (try simp only [Act.put, List.getElem_toArray, List.getElem_cons_succ, List.getElem_cons_zero, List.setIfInBounds_toArray, List.set_cons_succ, List.set_cons_zero])
            refine wpAnyH_take (i := 35) (v := .bool true) rfl (by kernel_rfl) (by kernel_rfl) (by kernel_rfl) (fun _ _ _ h => h) (Or.inl ⟨by rfl, fun w _ => by go_simp⟩) (by assumption) ?_
            (try simp only [Act.put, List.getElem_toArray, List.getElem_cons_succ, List.getElem_cons_zero, List.setIfInBounds_toArray, List.set_cons_succ, List.set_cons_zero])
            refine wpAnyH_take (i := 36) (v := .bool true) rfl (by kernel_rfl) (by kernel_rfl) (by kernel_rfl) (fun _ _ _ h => h) (Or.inl ⟨by rfl, fun w _ => by go_simp⟩) (by assumption) ?_
            (try simp only [Act.put, List.getElem_toArray, List.getElem_cons_succ, List.getElem_cons_zero, List.setIfInBounds_toArray, List.set_cons_succ, List.set_cons_zero])
            rcases HF.out with ⟨rfl, h1, h2⟩ | ⟨rfl, h1⟩
            · have d1 : decide (N' < 0) = false := by simp; omega
              have d2 : decide (65536 < N') = false := by simp; omega
              clear h1 h2 HF
              refine wpAnyH_take (i := 37) (v := .int .i64 0) rfl (by kernel_rfl) (by kernel_rfl) (by kernel_rfl) (fun _ _ _ h => h) (Or.inl ⟨by rfl, fun w _ => by go_simp⟩) (by assumption) ?_
              (try simp only [Act.put, List.getElem_toArray, List.getElem_cons_succ, List.getElem_cons_zero, List.setIfInBounds_toArray, List.set_cons_succ, List.set_cons_zero])
              refine wpAnyH_take (i := 38) (v := .bool false) rfl (by kernel_rfl) (by kernel_rfl) (by kernel_rfl) (fun _ _ _ h => h) (Or.inl ⟨by rfl, fun w _ => by go_simp⟩) (by assumption) ?_
              (try simp only [Act.put, List.getElem_toArray, List.getElem_cons_succ, List.getElem_cons_zero, List.setIfInBounds_toArray, List.set_cons_succ, List.set_cons_zero])
              refine wpAnyH_take (i := 39) (v := .pointer (some ⟨b8, 0, none⟩)) rfl (by kernel_rfl) (by kernel_rfl) (by kernel_rfl) (fun _ _ _ h => h) (Or.inl ⟨by rfl, fun w _ => by go_simp⟩) (by assumption) ?_
              (try simp only [Act.put, List.getElem_toArray, List.getElem_cons_succ, List.getElem_cons_zero, List.setIfInBounds_toArray, List.set_cons_succ, List.set_cons_zero])
              refine wpAnyH_take (i := 40) (v := (.int .i64 N')) rfl (by kernel_rfl) (by kernel_rfl) (by kernel_rfl) (fun _ _ _ h => h) (Or.inl ⟨by rfl, fun w hSw => by obtain ⟨⟨hSx, hSy⟩, _⟩ := hSw; go_simp⟩) (by assumption) ?_
              (try simp only [Act.put, List.getElem_toArray, List.getElem_cons_succ, List.getElem_cons_zero, List.setIfInBounds_toArray, List.set_cons_succ, List.set_cons_zero])
              refine wpAnyH_take (i := 41) (v := .bool false) rfl (by kernel_rfl) (by kernel_rfl) (by kernel_rfl) (fun _ _ _ h => h) (Or.inl ⟨by rfl, fun w _ => by go_simp⟩) (by assumption) ?_
              (try simp only [Act.put, List.getElem_toArray, List.getElem_cons_succ, List.getElem_cons_zero, List.setIfInBounds_toArray, List.set_cons_succ, List.set_cons_zero])
              refine wpAnyH_take (i := 42) (v := .bool false) rfl (by kernel_rfl) (by kernel_rfl) (by kernel_rfl) (fun _ _ _ h => h) (Or.inl ⟨by rfl, fun w _ => by go_simp⟩) (by assumption) ?_
              (try simp only [Act.put, List.getElem_toArray, List.getElem_cons_succ, List.getElem_cons_zero, List.setIfInBounds_toArray, List.set_cons_succ, List.set_cons_zero])
              refine wpAnyH_take (i := 43) (v := .pointer (some ⟨b8, 0, none⟩)) rfl (by kernel_rfl) (by kernel_rfl) (by kernel_rfl) (fun _ _ _ h => h) (Or.inl ⟨by rfl, fun w _ => by go_simp⟩) (by assumption) ?_
              (try simp only [Act.put, List.getElem_toArray, List.getElem_cons_succ, List.getElem_cons_zero, List.setIfInBounds_toArray, List.set_cons_succ, List.set_cons_zero])
              refine wpAnyH_take (i := 44) (v := (.int .i64 N')) rfl (by kernel_rfl) (by kernel_rfl) (by kernel_rfl) (fun _ _ _ h => h) (Or.inl ⟨by rfl, fun w hSw => by obtain ⟨⟨hSx, hSy⟩, _⟩ := hSw; go_simp⟩) (by assumption) ?_
              (try simp only [Act.put, List.getElem_toArray, List.getElem_cons_succ, List.getElem_cons_zero, List.setIfInBounds_toArray, List.set_cons_succ, List.set_cons_zero])
              refine wpAnyH_take (i := 45) (v := .bool false) rfl (by kernel_rfl) (by kernel_rfl) (by kernel_rfl) (fun _ _ _ h => h) (Or.inl ⟨by rfl, fun w _ => by go_simp⟩) (by assumption) ?_
              (try simp only [Act.put, List.getElem_toArray, List.getElem_cons_succ, List.getElem_cons_zero, List.setIfInBounds_toArray, List.set_cons_succ, List.set_cons_zero])
              refine wpAnyH_take (i := 46) (v := .bool false) rfl (by kernel_rfl) (by kernel_rfl) (by kernel_rfl) (fun _ _ _ h => h) (Or.inl ⟨by rfl, fun w _ => by go_simp⟩) (by assumption) ?_
              (try simp only [Act.put, List.getElem_toArray, List.getElem_cons_succ, List.getElem_cons_zero, List.setIfInBounds_toArray, List.set_cons_succ, List.set_cons_zero])
              refine wpAnyH_take (i := 47) (v := .bool true) rfl (by kernel_rfl) (by kernel_rfl) (by kernel_rfl) (fun _ _ _ h => h) (Or.inl ⟨by rfl, fun w _ => by go_simp⟩) (by assumption) ?_
              (try simp only [Act.put, List.getElem_toArray, List.getElem_cons_succ, List.getElem_cons_zero, List.setIfInBounds_toArray, List.set_cons_succ, List.set_cons_zero])
              refine wpAnyH_take (i := 48) (v := .bool true) rfl (by kernel_rfl) (by kernel_rfl) (by kernel_rfl) (fun _ _ _ h => h) (Or.inl ⟨by rfl, fun w _ => by go_simp⟩) (by assumption) ?_
              (try simp only [Act.put, List.getElem_toArray, List.getElem_cons_succ, List.getElem_cons_zero, List.setIfInBounds_toArray, List.set_cons_succ, List.set_cons_zero])
              refine wpAnyH_take (i := 49) (v := .bool true) rfl (by kernel_rfl) (by kernel_rfl) (by kernel_rfl) (fun _ _ _ h => h) (Or.inl ⟨by rfl, fun w _ => by go_simp⟩) (by assumption) ?_
              (try simp only [Act.put, List.getElem_toArray, List.getElem_cons_succ, List.getElem_cons_zero, List.setIfInBounds_toArray, List.set_cons_succ, List.set_cons_zero])
              refine wpAnyH_done (by kernel_rfl) ?_ _
              go_wp2_with fail
              go_ret
              exact ⟨rfl, hHeld.2.bel⟩
            · by_cases h2 : N' < 0
              · have d1 : decide (N' < 0) = true := by simp; omega
                clear h1 h2 HF
                refine wpAnyH_take (i := 37) (v := .int .i64 2) rfl (by kernel_rfl) (by kernel_rfl) (by kernel_rfl) (fun _ _ _ h => h) (Or.inl ⟨by rfl, fun w _ => by go_simp⟩) (by assumption) ?_
                (try simp only [Act.put, List.getElem_toArray, List.getElem_cons_succ, List.getElem_cons_zero, List.setIfInBounds_toArray, List.set_cons_succ, List.set_cons_zero])
                refine wpAnyH_take (i := 38) (v := .bool true) rfl (by kernel_rfl) (by kernel_rfl) (by kernel_rfl) (fun _ _ _ h => h) (Or.inl ⟨by rfl, fun w _ => by go_simp⟩) (by assumption) ?_
                (try simp only [Act.put, List.getElem_toArray, List.getElem_cons_succ, List.getElem_cons_zero, List.setIfInBounds_toArray, List.set_cons_succ, List.set_cons_zero])
                refine wpAnyH_take (i := 39) (v := .pointer (some ⟨b8, 0, none⟩)) rfl (by kernel_rfl) (by kernel_rfl) (by kernel_rfl) (fun _ _ _ h => h) (Or.inl ⟨by rfl, fun w _ => by go_simp⟩) (by assumption) ?_
                (try simp only [Act.put, List.getElem_toArray, List.getElem_cons_succ, List.getElem_cons_zero, List.setIfInBounds_toArray, List.set_cons_succ, List.set_cons_zero])
                refine wpAnyH_take (i := 40) (v := (.int .i64 N')) rfl (by kernel_rfl) (by kernel_rfl) (by kernel_rfl) (fun _ _ _ h => h) (Or.inl ⟨by rfl, fun w hSw => by obtain ⟨⟨hSx, hSy⟩, _⟩ := hSw; go_simp⟩) (by assumption) ?_
                (try simp only [Act.put, List.getElem_toArray, List.getElem_cons_succ, List.getElem_cons_zero, List.setIfInBounds_toArray, List.set_cons_succ, List.set_cons_zero])
                refine wpAnyH_take (i := 41) (v := .bool true) rfl (by kernel_rfl) (by kernel_rfl) (by kernel_rfl) (fun _ _ _ h => h) (Or.inl ⟨by rfl, fun w _ => by go_simp⟩) (by assumption) ?_
                (try simp only [Act.put, List.getElem_toArray, List.getElem_cons_succ, List.getElem_cons_zero, List.setIfInBounds_toArray, List.set_cons_succ, List.set_cons_zero])
                refine wpAnyH_take (i := 42) (v := .bool true) rfl (by kernel_rfl) (by kernel_rfl) (by kernel_rfl) (fun _ _ _ h => h) (Or.inl ⟨by rfl, fun w _ => by go_simp⟩) (by assumption) ?_
                (try simp only [Act.put, List.getElem_toArray, List.getElem_cons_succ, List.getElem_cons_zero, List.setIfInBounds_toArray, List.set_cons_succ, List.set_cons_zero])
                refine wpAnyH_take (i := 43) (v := undef) rfl (by kernel_rfl) (by kernel_rfl) (by kernel_rfl) (fun _ _ _ h => h) (Or.inr ⟨by rfl, rfl⟩) (by assumption) ?_
                (try simp only [Act.put, List.getElem_toArray, List.getElem_cons_succ, List.getElem_cons_zero, List.setIfInBounds_toArray, List.set_cons_succ, List.set_cons_zero])
                refine wpAnyH_take (i := 44) (v := undef) rfl (by kernel_rfl) (by kernel_rfl) (by kernel_rfl) (fun _ _ _ h => h) (Or.inr ⟨by rfl, rfl⟩) (by assumption) ?_
                (try simp only [Act.put, List.getElem_toArray, List.getElem_cons_succ, List.getElem_cons_zero, List.setIfInBounds_toArray, List.set_cons_succ, List.set_cons_zero])
                refine wpAnyH_take (i := 45) (v := undef) rfl (by kernel_rfl) (by kernel_rfl) (by kernel_rfl) (fun _ _ _ h => h) (Or.inr ⟨by rfl, rfl⟩) (by assumption) ?_
                (try simp only [Act.put, List.getElem_toArray, List.getElem_cons_succ, List.getElem_cons_zero, List.setIfInBounds_toArray, List.set_cons_succ, List.set_cons_zero])
                refine wpAnyH_take (i := 46) (v := .bool true) rfl (by kernel_rfl) (by kernel_rfl) (by kernel_rfl) (fun _ _ _ h => h) (Or.inl ⟨by rfl, fun w _ => by go_simp⟩) (by assumption) ?_
                (try simp only [Act.put, List.getElem_toArray, List.getElem_cons_succ, List.getElem_cons_zero, List.setIfInBounds_toArray, List.set_cons_succ, List.set_cons_zero])
                refine wpAnyH_take (i := 47) (v := .bool true) rfl (by kernel_rfl) (by kernel_rfl) (by kernel_rfl) (fun _ _ _ h => h) (Or.inl ⟨by rfl, fun w _ => by go_simp⟩) (by assumption) ?_
                (try simp only [Act.put, List.getElem_toArray, List.getElem_cons_succ, List.getElem_cons_zero, List.setIfInBounds_toArray, List.set_cons_succ, List.set_cons_zero])
                refine wpAnyH_take (i := 48) (v := .bool true) rfl (by kernel_rfl) (by kernel_rfl) (by kernel_rfl) (fun _ _ _ h => h) (Or.inl ⟨by rfl, fun w _ => by go_simp⟩) (by assumption) ?_
                (try simp only [Act.put, List.getElem_toArray, List.getElem_cons_succ, List.getElem_cons_zero, List.setIfInBounds_toArray, List.set_cons_succ, List.set_cons_zero])
                refine wpAnyH_take (i := 49) (v := .bool true) rfl (by kernel_rfl) (by kernel_rfl) (by kernel_rfl) (fun _ _ _ h => h) (Or.inl ⟨by rfl, fun w _ => by go_simp⟩) (by assumption) ?_
                (try simp only [Act.put, List.getElem_toArray, List.getElem_cons_succ, List.getElem_cons_zero, List.setIfInBounds_toArray, List.set_cons_succ, List.set_cons_zero])
                refine wpAnyH_done (by kernel_rfl) ?_ _
                go_wp2_with fail
                go_ret
                exact ⟨rfl, hHeld.2.bel⟩
              · have d1 : decide (N' < 0) = false := by simp; omega
                have d2 : decide (65536 < N') = true := by simp; omega
                clear h1 h2 HF
                refine wpAnyH_take (i := 37) (v := .int .i64 2) rfl (by kernel_rfl) (by kernel_rfl) (by kernel_rfl) (fun _ _ _ h => h) (Or.inl ⟨by rfl, fun w _ => by go_simp⟩) (by assumption) ?_
                (try simp only [Act.put, List.getElem_toArray, List.getElem_cons_succ, List.getElem_cons_zero, List.setIfInBounds_toArray, List.set_cons_succ, List.set_cons_zero])
                refine wpAnyH_take (i := 38) (v := .bool true) rfl (by kernel_rfl) (by kernel_rfl) (by kernel_rfl) (fun _ _ _ h => h) (Or.inl ⟨by rfl, fun w _ => by go_simp⟩) (by assumption) ?_
                (try simp only [Act.put, List.getElem_toArray, List.getElem_cons_succ, List.getElem_cons_zero, List.setIfInBounds_toArray, List.set_cons_succ, List.set_cons_zero])
                refine wpAnyH_take (i := 39) (v := .pointer (some ⟨b8, 0, none⟩)) rfl (by kernel_rfl) (by kernel_rfl) (by kernel_rfl) (fun _ _ _ h => h) (Or.inl ⟨by rfl, fun w _ => by go_simp⟩) (by assumption) ?_
                (try simp only [Act.put, List.getElem_toArray, List.getElem_cons_succ, List.getElem_cons_zero, List.setIfInBounds_toArray, List.set_cons_succ, List.set_cons_zero])
                refine wpAnyH_take (i := 40) (v := (.int .i64 N')) rfl (by kernel_rfl) (by kernel_rfl) (by kernel_rfl) (fun _ _ _ h => h) (Or.inl ⟨by rfl, fun w hSw => by obtain ⟨⟨hSx, hSy⟩, _⟩ := hSw; go_simp⟩) (by assumption) ?_
                (try simp only [Act.put, List.getElem_toArray, List.getElem_cons_succ, List.getElem_cons_zero, List.setIfInBounds_toArray, List.set_cons_succ, List.set_cons_zero])
                refine wpAnyH_take (i := 41) (v := .bool false) rfl (by kernel_rfl) (by kernel_rfl) (by kernel_rfl) (fun _ _ _ h => h) (Or.inl ⟨by rfl, fun w _ => by go_simp⟩) (by assumption) ?_
                (try simp only [Act.put, List.getElem_toArray, List.getElem_cons_succ, List.getElem_cons_zero, List.setIfInBounds_toArray, List.set_cons_succ, List.set_cons_zero])
                refine wpAnyH_take (i := 42) (v := .bool false) rfl (by kernel_rfl) (by kernel_rfl) (by kernel_rfl) (fun _ _ _ h => h) (Or.inl ⟨by rfl, fun w _ => by go_simp⟩) (by assumption) ?_
                (try simp only [Act.put, List.getElem_toArray, List.getElem_cons_succ, List.getElem_cons_zero, List.setIfInBounds_toArray, List.set_cons_succ, List.set_cons_zero])
                refine wpAnyH_take (i := 43) (v := .pointer (some ⟨b8, 0, none⟩)) rfl (by kernel_rfl) (by kernel_rfl) (by kernel_rfl) (fun _ _ _ h => h) (Or.inl ⟨by rfl, fun w _ => by go_simp⟩) (by assumption) ?_
                (try simp only [Act.put, List.getElem_toArray, List.getElem_cons_succ, List.getElem_cons_zero, List.setIfInBounds_toArray, List.set_cons_succ, List.set_cons_zero])
                refine wpAnyH_take (i := 44) (v := (.int .i64 N')) rfl (by kernel_rfl) (by kernel_rfl) (by kernel_rfl) (fun _ _ _ h => h) (Or.inl ⟨by rfl, fun w hSw => by obtain ⟨⟨hSx, hSy⟩, _⟩ := hSw; go_simp⟩) (by assumption) ?_
                (try simp only [Act.put, List.getElem_toArray, List.getElem_cons_succ, List.getElem_cons_zero, List.setIfInBounds_toArray, List.set_cons_succ, List.set_cons_zero])
                refine wpAnyH_take (i := 45) (v := .bool true) rfl (by kernel_rfl) (by kernel_rfl) (by kernel_rfl) (fun _ _ _ h => h) (Or.inl ⟨by rfl, fun w _ => by go_simp⟩) (by assumption) ?_
                (try simp only [Act.put, List.getElem_toArray, List.getElem_cons_succ, List.getElem_cons_zero, List.setIfInBounds_toArray, List.set_cons_succ, List.set_cons_zero])
                refine wpAnyH_take (i := 46) (v := .bool true) rfl (by kernel_rfl) (by kernel_rfl) (by kernel_rfl) (fun _ _ _ h => h) (Or.inl ⟨by rfl, fun w _ => by go_simp⟩) (by assumption) ?_
                (try simp only [Act.put, List.getElem_toArray, List.getElem_cons_succ, List.getElem_cons_zero, List.setIfInBounds_toArray, List.set_cons_succ, List.set_cons_zero])
                refine wpAnyH_take (i := 47) (v := .bool true) rfl (by kernel_rfl) (by kernel_rfl) (by kernel_rfl) (fun _ _ _ h => h) (Or.inl ⟨by rfl, fun w _ => by go_simp⟩) (by assumption) ?_
                (try simp only [Act.put, List.getElem_toArray, List.getElem_cons_succ, List.getElem_cons_zero, List.setIfInBounds_toArray, List.set_cons_succ, List.set_cons_zero])
                refine wpAnyH_take (i := 48) (v := .bool true) rfl (by kernel_rfl) (by kernel_rfl) (by kernel_rfl) (fun _ _ _ h => h) (Or.inl ⟨by rfl, fun w _ => by go_simp⟩) (by assumption) ?_
                (try simp only [Act.put, List.getElem_toArray, List.getElem_cons_succ, List.getElem_cons_zero, List.setIfInBounds_toArray, List.set_cons_succ, List.set_cons_zero])
                refine wpAnyH_take (i := 49) (v := .bool true) rfl (by kernel_rfl) (by kernel_rfl) (by kernel_rfl) (fun _ _ _ h => h) (Or.inl ⟨by rfl, fun w _ => by go_simp⟩) (by assumption) ?_
                (try simp only [Act.put, List.getElem_toArray, List.getElem_cons_succ, List.getElem_cons_zero, List.setIfInBounds_toArray, List.set_cons_succ, List.set_cons_zero])
                refine wpAnyH_done (by kernel_rfl) ?_ _
                go_wp2_with fail
                go_ret
                exact ⟨rfl, hHeld.2.bel⟩
end Go.Proofs.Ytemhoaleeefhhaa
