/- Walks: BitsRuns. -/
import Derived.Test.YtemhoaleeefhhaaProg
import Derived.Test.YtemhoaleeefhhaaOa
import Derived.BigRegion
import Derived.Deep.DeepCutAuto
import Derived.Deep.RegionHeld3
namespace Go.Proofs.Ytemhoaleeefhhaa
open Go.RowKit
set_option linter.unusedVariables false

abbrev C22 (b5 b6 : Nat) (N : Int) (A A6 : Option Addr) (n c n6 c6 : Nat) (w : World) : Prop := C2 b5 N A n c w ∧ C2 b6 N A6 n6 c6 w
theorem keep2 {W w w' : World} {b5 b6 : Nat} {N : Int} {A A6 : Option Addr} {n c n6 c6 : Nat} (h : C22 b5 b6 N A A6 n c n6 c6 w ∧ Below W.heap.size W w) (k : Below w.heap.size w w') : C22 b5 b6 N A A6 n c n6 c6 w' ∧ Below W.heap.size W w' := ⟨⟨h.1.1.keep k, h.1.2.keep k⟩, below_step h.2 k⟩
theorem keep20 {W w : World} {b5 b6 : Nat} {N : Int} {A A6 : Option Addr} {n c n6 c6 : Nat} (h : C22 b5 b6 N A A6 n c n6 c6 w ∧ Below W.heap.size W w) : C22 b5 b6 N A A6 n c n6 c6 w.drew ∧ Below W.heap.size W w.drew := ⟨h.1, h.2.drew⟩
/-- The two sets of the law. -/
def RS (w W : World) (b5 b6 : Nat) (N : Int) (A A6 : Option Addr) (n c n6 c6 : Nat) (zs nt : List Int) : Prop := BS w W b5 N A n c zs ∧ BS w W b6 N A6 n6 c6 nt
theorem RS.step {w W W' : World} {b5 b6 : Nat} {N : Int} {A A6 : Option Addr} {n c n6 c6 : Nat} {zs nt : List Int} (h : RS w W b5 b6 N A A6 n c n6 c6 zs nt) (k : Below W.heap.size W W') : RS w W' b5 b6 N A A6 n c n6 c6 zs nt := ⟨h.1.step k, h.2.step k⟩
theorem RS.c2 {w W : World} {b5 b6 : Nat} {N : Int} {A A6 : Option Addr} {n c n6 c6 : Nat} {zs nt : List Int} (h : RS w W b5 b6 N A A6 n c n6 c6 zs nt) : C22 b5 b6 N A A6 n c n6 c6 W ∧ Below W.heap.size W W := ⟨⟨C2.of h.1.box, C2.of h.2.box⟩, Below.refl _ _⟩

theorem runsF_right {l : List Int} {M : Nat} (hr : RightW (M : Int) l) : runsF l M = rn l M := by unfold runsF; rw [if_pos hr, Int.toNat_natCast]
theorem pos2 (a b : Nat) : decide ((0 : Int) < (a : Int) + ((b : Int) + 1)) = true := decide_eq_true (by omega)
theorem sees_head {w : World} {A : Option Addr} {n c : Nat} {r : Nat × Nat} {R : List (Nat × Nat)} (h : Sees w 2 A n c (flatR (r :: R))) :
    ∃ b o, A = some ⟨b, o, none⟩ ∧ w.cell? ⟨b, o, none⟩ = some (.int .i64 (r.1 : Int)) ∧ w.cell? ⟨b, o + 1, none⟩ = some (.int .i64 (r.2 : Int)) := by
  have hl := h.len
  rw [flatR_len, List.length_cons] at hl
  obtain ⟨b, o, hA, c0, c1⟩ := SeesR.at_ h (k := 0) (by omega)
  exact ⟨b, o, hA, by simpa using c0, by simpa using c1⟩
theorem sees_tail {w : World} {A : Option Addr} {n c : Nat} {r : Nat × Nat} {R : List (Nat × Nat)} (h : Sees w 2 A n c (flatR (r :: R))) : Sees w 2 (cutA A c 1 2) (n - 1) (c - 1) (flatR R) := by
  have hl := h.len
  rw [flatR_len, List.length_cons] at hl
  have := h.cut (k := 1) (by omega)
  exact this

set_option maxRecDepth 20000 in
set_option maxHeartbeats 3200000 in
theorem BitsRuns_any (n : Nat) (A0 : Option Addr) (m c0 : Nat) (l : List Int) (w : World) (hn : n < 65536) (hs : Sees w 1 A0 m c0 (l.map (Value.int .u64))) (hw : W64 l) :
    Calls Try.prog 7 #[.int .u16 (n : Int), .slice A0 m c0] w fun e w' => e = .returned (.bool true) ∧ Below w.heap.size w w' := by
  obtain ⟨N, hN⟩ : ∃ N, n % (64 * min m 16 + 1) = N := ⟨_, rfl⟩
  have hN1 : N ≤ 1024 := by have := Nat.mod_lt n (show 0 < 64 * min m 16 + 1 by omega); omega
  have HN := Lib.hid hN
  have HS := Lib.hid hs
  have HN1 := Lib.hid hN1
  have hN2 : (N : Int) ≤ 1024 := by omega
  clear hN hs hN1
  go_enter Try.func7, Try.ntmps7
  go_wp2_with (first
    | (go_at_call 28; refine (Not_ok N A n2 c2 zs _ S2.out.see HW64.out.1 HW64.out.2).mono ?_; rintro e w3 ⟨v, rfl, ⟨A6, n6, c6, rfl, o3⟩, k3⟩; have S3 := Lib.hid ((S2.out.step k3).alloc (.cells #[.int .i64 (N : Int), .slice A6 n6 c6] 24)); have T3 := Lib.hid (BS.new (N := (N : Int)) (below_step S2.out.bel k3) (sees_own o3)); clear k3 o3)
    | (go_at_call 15; refine (made_any n A0 m c0 l _ hn (HS.out.below b1.out (Nat.le_refl _)) hw).mono ?_; rw [HN.out]; rintro e w2 ⟨v, zs, rfl, ⟨A, n2, c2, rfl, o2⟩, hzw, hzr, k2⟩; have HW64 := Lib.hid (And.intro hzw hzr); have S2 := Lib.hid (BS.new (N := (N : Int)) (below_step b1.out k2) (sees_own o2)); clear k2 o2 hzw hzr)
    | (go_at_call 13; refine (awake_any _).mono ?_; rintro e w1 ⟨rfl, k1⟩; have b1 := Lib.hid k1; clear k1))
  obtain ⟨nt, hnt⟩ : ∃ nt, notW N zs = nt := ⟨_, rfl⟩
  have HNX : Hid (∀ i, i < N → bt nt i = !bt zs i) := Lib.hid (by rw [← hnt]; exact notW_nx HW64.out.2)
  have HNT : Hid (W64 nt ∧ RightW (N : Int) nt) := Lib.hid (by rw [← hnt]; exact ⟨notW_w N HW64.out.1, notW_right HW64.out.1 HW64.out.2⟩)
  rw [hnt] at T3
  have HR4 : Hid (RS w (w3.alloc (.cells #[.int .i64 (N : Int), .slice A6 n6 c6] 24)) w2.heap.size w3.heap.size N A A6 n2 c2 n6 c6 zs nt) := Lib.hid ⟨S3.out, T3.out⟩
  clear S2 S3 T3 hnt
  generalize w3.alloc (.cells #[.int .i64 (N : Int), .slice A6 n6 c6] 24) = W4 at HR4 ⊢
  generalize w3.heap.size = b6 at HR4 ⊢
  generalize w2.heap.size = b5 at HR4 ⊢
  obtain ⟨cs, hcs⟩ : ∃ cs, cnt zs N = cs := ⟨_, rfl⟩
  obtain ⟨cn, hcn⟩ : ∃ cn, cnt nt N = cn := ⟨_, rfl⟩
  have hsum : (cs : Int) + (cn : Int) = (N : Int) := by have := cnt_not HNX.out; rw [hcs, hcn] at this; omega
  have HC1 : Hid (rankF zs N 65536 = cs) := Lib.hid ((count_is HW64.out.2 (by omega)).trans hcs)
  have HC2 : Hid (rankF nt N 65536 = cn) := Lib.hid ((count_is HNT.out.2 (by omega)).trans hcn)
  have hwN : IntKind.i64.wrap (N : Int) = (N : Int) := IntWalk.i64_in _ (by omega)
  clear hcs hcn
  have hS0 := HR4.out.c2
  go_region_held3 (fun w' => C22 b5 b6 N A A6 n2 c2 n6 c6 w' ∧ Below W4.heap.size W4 w') (first | exact keep20 hS0 | exact keep2 (by assumption) (by assumption) | assumption) (first
    | (go_at_call_of 17 (Value.agg #[Value.int .i64 (N : Int), Value.slice A n2 c2]); refine (Count_any N A n2 c2 zs _ (HR4.out.1.see.below (And.right (by assumption)) (Nat.le_refl _)) HW64.out.1).mono ?_; rw [HC1.out]; rintro e w' ⟨rfl, kk⟩)
    | (go_at_call_of 17 (Value.agg #[Value.int .i64 (N : Int), Value.slice A6 n6 c6]); refine (Count_any N A6 n6 c6 nt _ (HR4.out.2.see.below (And.right (by assumption)) (Nat.le_refl _)) HNT.out.1).mono ?_; rw [HC2.out]; rintro e w' ⟨rfl, kk⟩))
  rename_i hH
  have HR5 := Lib.hid (HR4.out.step hH.2)
  clear hH hS0 kk
  generalize w' = W5 at HR5 ⊢
  go_upto_region 7 with fail
  have hS0 := HR5.out.c2
  have HRa := Lib.hid (runsF_right HW64.out.2)
  have HRb := Lib.hid (runsF_right HNT.out.2)
  go_cut [8, 9] from 36 to 39 (fun va vb wx => ∃ (na nb ca cb : Nat) (Aa Ab : Option Addr), va = .slice Aa na ca ∧ vb = .slice Ab nb cb ∧ Hid (RS w wx b5 b6 N A A6 n2 c2 n6 c6 zs nt) ∧ Hid (Sees wx 2 Aa na ca (flatR (rn zs N)) ∧ Sees wx 2 Ab nb cb (flatR (rn nt N))))
  case first =>
    go_region_held3 (fun w' => C22 b5 b6 N A A6 n2 c2 n6 c6 w' ∧ Below W5.heap.size W5 w') (first | exact keep20 hS0 | exact keep2 (by assumption) (by assumption) | assumption) (first
      | (go_at_call_of 29 (Value.agg #[Value.int .i64 (N : Int), Value.slice A n2 c2]); refine (Runs_any N A n2 c2 zs _ (HR5.out.1.see.below (And.right (by assumption)) (Nat.le_refl _)) HW64.out.1).mono ?_; rw [HRa.out]; rintro e w' ⟨Aa, ca, rfl, oa, kk⟩; have OA := Lib.hid (sees_own oa); clear oa; try (have OB2 := Lib.hid (OB.out.below kk (Nat.le_refl _))))
      | (go_at_call_of 29 (Value.agg #[Value.int .i64 (N : Int), Value.slice A6 n6 c6]); refine (Runs_any N A6 n6 c6 nt _ (HR5.out.2.see.below (And.right (by assumption)) (Nat.le_refl _)) HNT.out.1).mono ?_; rw [HRb.out]; rintro e w' ⟨Ab, cb, rfl, ob, kk⟩; have OB := Lib.hid (sees_own ob); clear ob; try (have OA2 := Lib.hid (OA.out.below kk (Nat.le_refl _)))))
    all_goals rename_i hH
    all_goals go_wp2_with fail
    all_goals go_meet
    all_goals exact ⟨_, _, ca, cb, Aa, Ab, rfl, rfl, Lib.hid (HR5.out.step hH.2), Lib.hid ⟨by first | exact OA2.out | exact OA.out, by first | exact OB2.out | exact OB.out⟩⟩
  case rest =>
    obtain ⟨na, nb, ca, cb, Aa, Ab, rfl, rfl, HR6, HAB⟩ := hcut
    clear hS0
    go_wp2_with fail
    -- LOOP
    have hla := HAB.out.1.len
    have hlb := HAB.out.2.len
    rw [flatR_len] at hla hlb
    have hna : na = (rn zs N).length := by omega
    have hnb : nb = (rn nt N).length := by omega
    subst hna hnb
    clear hla hlb
    go_loopw [8, 9, 10] (fun av bv tv wr => ∃ (at_ : Nat) (a b : List (Nat × Nat)) (ca cb : Nat) (Aa Ab : Option Addr), av = .slice Aa a.length ca ∧ bv = .slice Ab b.length cb ∧ tv = .int .i64 (at_ : Int) ∧ Hid (Lft zs nt N at_ a b) ∧ Hid (RS w wr b5 b6 N A A6 n2 c2 n6 c6 zs nt) ∧ Hid (Sees wr 2 Aa a.length ca (flatR a) ∧ Sees wr 2 Ab b.length cb (flatR b))) (fun _ _ tv _ => N - (intOf tv).toNat)
    case atStart => exact ⟨0, rn zs N, rn nt N, ca, cb, Aa, Ab, rfl, rfl, rfl, Lib.hid (Lft.start HNX.out), HR6, HAB⟩
    case round =>
      obtain ⟨at_, a, b, ca, cb, Aa, Ab, rfl, rfl, rfl, HL, HR, HAB⟩ := hrel
      have x50 := HR.out.1.box.c0
      have x51 := HR.out.1.box.c1
      have x60 := HR.out.2.box.c0
      have x61 := HR.out.2.box.c1
      have hat : (at_ : Int) ≤ 1024 := by have := HL.out.le; have := HN1.out; omega
      by_cases hend : at_ = N
      · obtain ⟨rfl, rfl⟩ := HL.out.end_ hend
        have d0 : ((at_ : Int) == (N : Int)) = true := by simp; omega
        have HE := Lib.hid hend
        clear hend
        go_wp2
        go_ret
        exact ⟨rfl, HR.out.1.bel⟩
      · have hlt : at_ < N := by have := HL.out.le; omega
        cases hm : bt zs at_ with
        | true =>
          obtain ⟨e, R, rfl, h1, h2, h3, h4, h5, h6⟩ := HL.out.go hlt hm
          have HG := Lib.hid (And.intro h1 (And.intro h2 (And.intro h3 (And.intro h4 (And.intro h5 h6)))))
          obtain ⟨ba, oa, rfl, g0, g1⟩ := sees_head HAB.out.1
          obtain ⟨nR, hnR⟩ : ∃ nR, R.length = nR := ⟨_, rfl⟩
          have hlen : ((at_, e) :: R).length = nR + 1 := by rw [List.length_cons, hnR]
          have HTL := sees_tail HAB.out.1
          rw [hlen] at HTL HAB ⊢
          obtain ⟨Ac, hAc⟩ : ∃ Ac, cutA (some ⟨ba, oa, none⟩) ca 1 2 = Ac := ⟨_, rfl⟩
          have hcl : ∀ w, (Instr.slice 45 (.slice (some ⟨ba, oa, none⟩) (nR + 1) ca) (some (.int .i64 1)) none none).run Try.prog w = .ok (.slice Ac nR (ca - 1)) w := fun w => by
            have h := run_cutl E_run (some ⟨ba, oa, none⟩) (nR + 1) ca 1 (by omega) w
            rw [hAc] at h
            exact h
          rw [hAc] at HTL
          have HTL := Lib.hid (show Sees wr 2 Ac nR (ca - 1) (flatR R) from HTL)
          have HNR := Lib.hid hnR
          have h1i : (at_ : Int) < (e : Int) := by omega
          have h2i : (e : Int) ≤ (N : Int) := by omega
          obtain ⟨nb, hnb⟩ : ∃ nb, b.length = nb := ⟨_, rfl⟩
          rw [hnb] at HAB ⊢
          have hna9 : nR + 1 ≤ 1024 ∧ nb ≤ 1024 := by
            have e1 := congrArg List.length HL.out.ha
            have e2 := congrArg List.length HL.out.hb
            rw [List.length_append] at e1 e2
            have e3 := rn_len zs N
            have e4 := rn_len nt N
            have := HN1.out
            omega
          have hnR5 : (nR : Int) ≤ 1024 := by omega
          have hnb5 : (nb : Int) ≤ 1024 := by omega
          obtain ⟨sm, hsm⟩ : ∃ sm, nR + 1 + nb = sm := ⟨_, rfl⟩
          have hsmw : wrap64 ((nR : Int) + 1 + (nb : Int)) = (sm : Int) := (IntWalk.wrap64_in _ (by omega)).trans (by omega)
          have hsm4 : 0 < sm := by rw [← hsm]; exact Nat.lt_of_lt_of_le (Nat.succ_pos nR) (Nat.le_add_right _ _)
          have hsm5 : sm ≤ 3000 := by rw [← hsm]; exact Nat.le_trans (Nat.add_le_add hna9.1 hna9.2) (by decide)
          have hsm3 : decide ((0 : Int) < (sm : Int)) = true := decide_eq_true (Int.ofNat_lt.2 hsm4)
          have hsm3' : decide (0 < sm) = true := decide_eq_true hsm4
          have HNB := Lib.hid hnb
          have ga0 := below_cellA ((Below.refl wr.heap.size wr).alloc (Nat.le_refl _) (.cells #[.int .i64 0, .int .i64 0] 47)) g0
          have ga1 := below_cellA ((Below.refl wr.heap.size wr).alloc (Nat.le_refl _) (.cells #[.int .i64 0, .int .i64 0] 47)) g1
          clear hend hlt hm h1 h2 h3 h4 h5 h6 hnR hlen hAc hna9 hsm hnb hsm4 hsm5
          go_wp2_with fail
          go_region
          -- IN
          have hX9 : (wr.alloc (.cells #[.int .i64 (at_ : Int), .int .i64 (e : Int)] 47)).drew.heap[wr.heap.size]? = some (.cells #[.int .i64 (at_ : Int), .int .i64 (e : Int)] 47 (0, 0)) := heap_alloc_new _ _
          have hB9 := ((Below.refl wr.heap.size wr).alloc (Nat.le_refl _) (.cells #[.int .i64 (at_ : Int), .int .i64 (e : Int)] 47)).drew
          have HR9 := Lib.hid (HR.out.step hB9)
          have HA9 := Lib.hid (show Sees (wr.alloc (.cells #[.int .i64 (at_ : Int), .int .i64 (e : Int)] 47)).drew 2 Ac nR (ca - 1) (flatR R) ∧ Sees (wr.alloc (.cells #[.int .i64 (at_ : Int), .int .i64 (e : Int)] 47)).drew 2 Ab nb cb (flatR b) from ⟨HTL.out.below hB9 (Nat.le_refl _), HAB.out.2.below hB9 (Nat.le_refl _)⟩)
          clear ga0 ga1 g0 g1 x50 x51 x60 x61 hB9
          generalize (wr.alloc (.cells #[.int .i64 (at_ : Int), .int .i64 (e : Int)] 47)).drew = W9 at hX9 HR9 HA9 ⊢
          generalize wr.heap.size = b12 at hX9 ⊢
          have HX9 := Lib.hid hX9
          have z0 : W9.cell? ⟨b12, 0, none⟩ = some (.int .i64 (at_ : Int)) := by simp [World.cell?, hX9]
          have z1 : W9.cell? ⟨b12, 1, none⟩ = some (.int .i64 (e : Int)) := by simp [World.cell?, hX9]
          have x50 := HR9.out.1.box.c0
          have dd1 : decide ((e : Int) ≤ (at_ : Int)) = false := by simp; omega
          have dd2 : decide ((N : Int) < (e : Int)) = false := by simp; omega
          have dd3 : decide (e ≤ at_) = false := by simp; omega
          have dd4 : decide (N < e) = false := by simp; omega
          clear hX9
          go_wp2_with fail
          go_loopw [13] (fun iv wq => ∃ i : Nat, Hid (at_ ≤ i ∧ i ≤ e) ∧ iv = .int .i64 (i : Int) ∧ Hid (RS w wq b5 b6 N A A6 n2 c2 n6 c6 zs nt) ∧ Hid (Sees wq 2 Ac nR (ca - 1) (flatR R) ∧ Sees wq 2 Ab nb cb (flatR b)) ∧ Hid (wq.heap[b12]? = some (.cells #[.int .i64 (at_ : Int), .int .i64 (e : Int)] 47 (0, 0)))) (fun iv _ => e - (intOf iv).toNat)
          case atStart => exact ⟨at_, Lib.hid ⟨Nat.le_refl _, Nat.le_of_lt HG.out.1⟩, rfl, HR9, HA9, HX9⟩
          case round =>
            obtain ⟨i, HI, rfl, HRi, HAi, HXi⟩ := hrel
            clear z0 z1 x50
            have hXi := HXi.out
            have z0 : wr.cell? ⟨b12, 0, none⟩ = some (.int .i64 (at_ : Int)) := by simp [World.cell?, hXi]
            have z1 : wr.cell? ⟨b12, 1, none⟩ = some (.int .i64 (e : Int)) := by simp [World.cell?, hXi]
            have x50 := HRi.out.1.box.c0
            have x51 := HRi.out.1.box.c1
            have x60 := HRi.out.2.box.c0
            have x61 := HRi.out.2.box.c1
            clear hXi
            have hi5 : (i : Int) ≤ 1024 := by have := HI.out; have := HG.out.2.1; have := HN1.out; omega
            by_cases hie : i < e
            · have d9 : decide ((i : Int) < (e : Int)) = true := by simp; omega
              have hbi := HG.out.2.2.1 i HI.out.1 hie
              have hiN : i < N := by have := HG.out.2.1; omega
              have HH1 : Hid (hasF zs N (i : Int) = true) := Lib.hid (by rw [hasF_at HW64.out.2 hiN]; exact hbi.1)
              have HH2 : Hid (hasF nt N (i : Int) = false) := Lib.hid (by rw [hasF_at HNT.out.2 hiN]; exact hbi.2)
              have HIE := Lib.hid hie
              clear hie hbi hiN
              go_wp2_with (first
                | (go_at_call_of 22 (Value.agg #[Value.int .i64 (N : Int), Value.slice A6 n6 c6]); have _q := R12; refine (Has_any N (i : Int) A6 n6 c6 nt _ R12.out.2.see HNT.out.1).mono ?_; rw [HH2.out]; rintro e' w13 ⟨rfl, k13⟩; have R13 := Lib.hid (R12.out.step k13); have A13 := Lib.hid (show Sees w13 2 Ac nR (ca - 1) (flatR R) ∧ Sees w13 2 Ab nb cb (flatR b) from ⟨A12.out.1.below k13 (Nat.le_refl _), A12.out.2.below k13 (Nat.le_refl _)⟩); have X13 := Lib.hid ((k13.block b12 (lt_of_heap X12.out)).trans X12.out); clear k13)
                | (go_at_call_of 22 (Value.agg #[Value.int .i64 (N : Int), Value.slice A n2 c2]); refine (Has_any N (i : Int) A n2 c2 zs _ HRi.out.1.see HW64.out.1).mono ?_; rw [HH1.out]; rintro e' w12 ⟨rfl, k12⟩; have R12 := Lib.hid (HRi.out.step k12); have A12 := Lib.hid (show Sees w12 2 Ac nR (ca - 1) (flatR R) ∧ Sees w12 2 Ab nb cb (flatR b) from ⟨HAi.out.1.below k12 (Nat.le_refl _), HAi.out.2.below k12 (Nat.le_refl _)⟩); have X12 := Lib.hid ((k12.block b12 (lt_of_heap HXi.out)).trans HXi.out); have q60 := R12.out.2.box.c0; have q61 := R12.out.2.box.c1; clear k12))
              go_roundw
              case rel => exact ⟨i + 1, Lib.hid ⟨by have := HI.out.1; omega, HIE.out⟩, by go_num, R13, A13, X13⟩
              case measure => have := HIE.out; simp [intOf]; omega
            · have hie2 : i = e := by have := HI.out.2; omega
              have d9 : decide ((i : Int) < (e : Int)) = false := by simp; omega
              have d9' : decide (i < e) = false := by simp; omega
              clear hie hie2
              cases R with
              | nil =>
                have hnR0 : nR = 0 := by have := HNR.out; simpa using this.symm
                have dr : decide ((0 : Int) < (nR : Int)) = false := by simp; omega
                have dr' : decide (0 < nR) = false := by simp; omega
                clear hnR0
                go_wp2_with fail
                go_roundw
                case rel => exact ⟨e, [], b, ca - 1, cb, Ac, Ab, by rw [HNR.out], by rw [HNB.out], rfl, Lib.hid HG.out.2.2.2.1, HRi, Lib.hid (by rw [HNR.out, HNB.out]; exact HAi.out)⟩
                case measure => have := HG.out.1; have := HG.out.2.1; simp [intOf]; omega
              | cons r R2 =>
                obtain ⟨bb, ob, hAc, e0, e1⟩ := sees_head HAi.out.1
                subst hAc
                have hre : r.1 ≠ e := HG.out.2.2.2.2.1 r rfl
                have der : ((r.1 : Int) == (e : Int)) = false := by simp; omega
                have hnR0 : 0 < nR := by rw [← HNR.out]; exact Nat.succ_pos _
                have hnR1 : (0 : Int) < (nR : Int) := by omega
                have dr : decide ((0 : Int) < (nR : Int)) = true := by simp; omega
                have dr' : decide (0 < nR) = true := by simp; omega
                clear hnR0 hre
                go_wp2_with fail
                go_roundw
                case rel => exact ⟨e, r :: R2, b, ca - 1, cb, some ⟨bb, ob, none⟩, Ab, by rw [HNR.out], by rw [HNB.out], rfl, Lib.hid HG.out.2.2.2.1, HRi, Lib.hid (by rw [HNR.out, HNB.out]; exact HAi.out)⟩
                case measure => have := HG.out.1; have := HG.out.2.1; simp [intOf]; omega
        | false =>
          have hm2 : bt nt at_ = true := by rw [HNX.out at_ hlt, hm]; rfl
          obtain ⟨e, R, rfl, h1, h2, h3, h4, h5, h6⟩ := HL.out.swap.go hlt hm2
          have HG := Lib.hid (And.intro h1 (And.intro h2 (And.intro h3 (And.intro h4 (And.intro h5 h6)))))
          obtain ⟨ba, oa, rfl, g0, g1⟩ := sees_head HAB.out.2
          obtain ⟨nR, hnR⟩ : ∃ nR, R.length = nR := ⟨_, rfl⟩
          have hlen : ((at_, e) :: R).length = nR + 1 := by rw [List.length_cons, hnR]
          have HTL := sees_tail HAB.out.2
          rw [hlen] at HTL HAB ⊢
          obtain ⟨Ac, hAc⟩ : ∃ Ac, cutA (some ⟨ba, oa, none⟩) cb 1 2 = Ac := ⟨_, rfl⟩
          have hcl : ∀ w, (Instr.slice 45 (.slice (some ⟨ba, oa, none⟩) (nR + 1) cb) (some (.int .i64 1)) none none).run Try.prog w = .ok (.slice Ac nR (cb - 1)) w := fun w => by
            have h := run_cutl E_run (some ⟨ba, oa, none⟩) (nR + 1) cb 1 (by omega) w
            rw [hAc] at h
            exact h
          rw [hAc] at HTL
          have HTL := Lib.hid (show Sees wr 2 Ac nR (cb - 1) (flatR R) from HTL)
          have HNR := Lib.hid hnR
          have h1i : (at_ : Int) < (e : Int) := by omega
          have h2i : (e : Int) ≤ (N : Int) := by omega
          obtain ⟨nb, hnb⟩ : ∃ nb, a.length = nb := ⟨_, rfl⟩
          rw [hnb] at HAB ⊢
          have hna9 : nb ≤ 1024 ∧ nR + 1 ≤ 1024 := by
            have e1 := congrArg List.length HL.out.ha
            have e2 := congrArg List.length HL.out.hb
            rw [List.length_append] at e1 e2
            have e3 := rn_len zs N
            have e4 := rn_len nt N
            have := HN1.out
            omega
          have hnR5 : (nR : Int) ≤ 1024 := by omega
          have hnb5 : (nb : Int) ≤ 1024 := by omega
          obtain ⟨sm, hsm⟩ : ∃ sm, nb + (nR + 1) = sm := ⟨_, rfl⟩
          have hsmw : wrap64 ((nb : Int) + ((nR : Int) + 1)) = (sm : Int) := (IntWalk.wrap64_in _ (by omega)).trans (by omega)
          have hsm4 : 0 < sm := by rw [← hsm]; exact Nat.lt_of_lt_of_le (Nat.succ_pos nR) (Nat.le_add_left _ _)
          have hsm5 : sm ≤ 3000 := by rw [← hsm]; exact Nat.le_trans (Nat.add_le_add hna9.1 hna9.2) (by decide)
          have hsm3 : decide ((0 : Int) < (sm : Int)) = true := decide_eq_true (Int.ofNat_lt.2 hsm4)
          have hsm3' : decide (0 < sm) = true := decide_eq_true hsm4
          have hsm6 : decide ((0 : Int) < (nb : Int) + ((nR : Int) + 1)) = true := pos2 nb nR
          have HNB := Lib.hid hnb
          have H6 := Lib.hid h6
          have ga0 := below_cellA ((Below.refl wr.heap.size wr).alloc (Nat.le_refl _) (.cells #[.int .i64 0, .int .i64 0] 47)) g0
          have ga1 := below_cellA ((Below.refl wr.heap.size wr).alloc (Nat.le_refl _) (.cells #[.int .i64 0, .int .i64 0] 47)) g1
          clear hend hlt hm h1 h2 h3 h4 h5 h6 hnR hlen hAc hna9 hsm hnb hsm4 hsm5
          go_upto_region 10 with fail
          go_cut [11] from 46 to 56 (fun v wx => v = .bool false ∧ wr = wx)
          case first =>
            cases a with
            | nil =>
              have hn0 : nb = 0 := by have := HNB.out; simpa using this.symm
              have dr : decide ((0 : Int) < (nb : Int)) = false := by simp; omega
              have dr' : decide (0 < nb) = false := by simp; omega
              clear hn0
              go_wp2_with fail
              go_meet
              exact ⟨rfl, rfl⟩
            | cons q Q =>
              obtain ⟨bb, ob, hAa, e0, e1⟩ := sees_head HAB.out.1
              subst hAa
              have hre : q.1 ≠ at_ := H6.out q rfl
              have der : ((q.1 : Int) == (at_ : Int)) = false := by simp; omega
              have hn0 : 0 < nb := by rw [← HNB.out]; exact Nat.succ_pos _
              have hn1 : (0 : Int) < (nb : Int) := by omega
              have dr : decide ((0 : Int) < (nb : Int)) = true := by simp; omega
              have dr' : decide (0 < nb) = true := by simp; omega
              clear hn0 hre
              go_wp2_with fail
              go_meet
              exact ⟨rfl, rfl⟩
          obtain ⟨rfl, rfl⟩ := hcut
          go_wp2_with fail
          go_region
          -- IN
          have hX9 : (wr.alloc (.cells #[.int .i64 (at_ : Int), .int .i64 (e : Int)] 47)).drew.heap[wr.heap.size]? = some (.cells #[.int .i64 (at_ : Int), .int .i64 (e : Int)] 47 (0, 0)) := heap_alloc_new _ _
          have hB9 := ((Below.refl wr.heap.size wr).alloc (Nat.le_refl _) (.cells #[.int .i64 (at_ : Int), .int .i64 (e : Int)] 47)).drew
          have HR9 := Lib.hid (HR.out.step hB9)
          have HA9 := Lib.hid (show Sees (wr.alloc (.cells #[.int .i64 (at_ : Int), .int .i64 (e : Int)] 47)).drew 2 Aa nb ca (flatR a) ∧ Sees (wr.alloc (.cells #[.int .i64 (at_ : Int), .int .i64 (e : Int)] 47)).drew 2 Ac nR (cb - 1) (flatR R) from ⟨HAB.out.1.below hB9 (Nat.le_refl _), HTL.out.below hB9 (Nat.le_refl _)⟩)
          clear ga0 ga1 g0 g1 x50 x51 x60 x61 hB9
          generalize (wr.alloc (.cells #[.int .i64 (at_ : Int), .int .i64 (e : Int)] 47)).drew = W9 at hX9 HR9 HA9 ⊢
          generalize wr.heap.size = b12 at hX9 ⊢
          have HX9 := Lib.hid hX9
          have z0 : W9.cell? ⟨b12, 0, none⟩ = some (.int .i64 (at_ : Int)) := by simp [World.cell?, hX9]
          have z1 : W9.cell? ⟨b12, 1, none⟩ = some (.int .i64 (e : Int)) := by simp [World.cell?, hX9]
          have x50 := HR9.out.1.box.c0
          have dd1 : decide ((e : Int) ≤ (at_ : Int)) = false := by simp; omega
          have dd2 : decide ((N : Int) < (e : Int)) = false := by simp; omega
          have dd3 : decide (e ≤ at_) = false := by simp; omega
          have dd4 : decide (N < e) = false := by simp; omega
          clear hX9
          go_wp2_with fail
          go_loopw [13] (fun iv wq => ∃ i : Nat, Hid (at_ ≤ i ∧ i ≤ e) ∧ iv = .int .i64 (i : Int) ∧ Hid (RS w wq b5 b6 N A A6 n2 c2 n6 c6 zs nt) ∧ Hid (Sees wq 2 Aa nb ca (flatR a) ∧ Sees wq 2 Ac nR (cb - 1) (flatR R)) ∧ Hid (wq.heap[b12]? = some (.cells #[.int .i64 (at_ : Int), .int .i64 (e : Int)] 47 (0, 0)))) (fun iv _ => e - (intOf iv).toNat)
          case atStart => exact ⟨at_, Lib.hid ⟨Nat.le_refl _, Nat.le_of_lt HG.out.1⟩, rfl, HR9, HA9, HX9⟩
          case round =>
            obtain ⟨i, HI, rfl, HRi, HAi, HXi⟩ := hrel
            clear z0 z1 x50
            have hXi := HXi.out
            have z0 : wr.cell? ⟨b12, 0, none⟩ = some (.int .i64 (at_ : Int)) := by simp [World.cell?, hXi]
            have z1 : wr.cell? ⟨b12, 1, none⟩ = some (.int .i64 (e : Int)) := by simp [World.cell?, hXi]
            have x50 := HRi.out.1.box.c0
            have x51 := HRi.out.1.box.c1
            have x60 := HRi.out.2.box.c0
            have x61 := HRi.out.2.box.c1
            clear hXi
            have hi5 : (i : Int) ≤ 1024 := by have := HI.out; have := HG.out.2.1; have := HN1.out; omega
            by_cases hie : i < e
            · have d9 : decide ((i : Int) < (e : Int)) = true := by simp; omega
              have hbi := HG.out.2.2.1 i HI.out.1 hie
              have hiN : i < N := by have := HG.out.2.1; omega
              have HH1 : Hid (hasF zs N (i : Int) = false) := Lib.hid (by rw [hasF_at HW64.out.2 hiN]; exact hbi.2)
              have HH2 : Hid (hasF nt N (i : Int) = true) := Lib.hid (by rw [hasF_at HNT.out.2 hiN]; exact hbi.1)
              have HIE := Lib.hid hie
              clear hie hbi hiN
              go_wp2_with (first
                | (go_at_call_of 22 (Value.agg #[Value.int .i64 (N : Int), Value.slice A6 n6 c6]); have _q := R12; refine (Has_any N (i : Int) A6 n6 c6 nt _ R12.out.2.see HNT.out.1).mono ?_; rw [HH2.out]; rintro e' w13 ⟨rfl, k13⟩; have R13 := Lib.hid (R12.out.step k13); have A13 := Lib.hid (show Sees w13 2 Aa nb ca (flatR a) ∧ Sees w13 2 Ac nR (cb - 1) (flatR R) from ⟨A12.out.1.below k13 (Nat.le_refl _), A12.out.2.below k13 (Nat.le_refl _)⟩); have X13 := Lib.hid ((k13.block b12 (lt_of_heap X12.out)).trans X12.out); clear k13)
                | (go_at_call_of 22 (Value.agg #[Value.int .i64 (N : Int), Value.slice A n2 c2]); refine (Has_any N (i : Int) A n2 c2 zs _ HRi.out.1.see HW64.out.1).mono ?_; rw [HH1.out]; rintro e' w12 ⟨rfl, k12⟩; have R12 := Lib.hid (HRi.out.step k12); have A12 := Lib.hid (show Sees w12 2 Aa nb ca (flatR a) ∧ Sees w12 2 Ac nR (cb - 1) (flatR R) from ⟨HAi.out.1.below k12 (Nat.le_refl _), HAi.out.2.below k12 (Nat.le_refl _)⟩); have X12 := Lib.hid ((k12.block b12 (lt_of_heap HXi.out)).trans HXi.out); have q60 := R12.out.2.box.c0; have q61 := R12.out.2.box.c1; clear k12))
              go_roundw
              case rel => exact ⟨i + 1, Lib.hid ⟨by have := HI.out.1; omega, HIE.out⟩, by go_num, R13, A13, X13⟩
              case measure => have := HIE.out; simp [intOf]; omega
            · have hie2 : i = e := by have := HI.out.2; omega
              have d9 : decide ((i : Int) < (e : Int)) = false := by simp; omega
              have d9' : decide (i < e) = false := by simp; omega
              clear hie hie2
              cases R with
              | nil =>
                have hnR0 : nR = 0 := by have := HNR.out; simpa using this.symm
                have dr : decide ((0 : Int) < (nR : Int)) = false := by simp; omega
                have dr' : decide (0 < nR) = false := by simp; omega
                clear hnR0
                go_wp2_with fail
                go_roundw
                case rel => exact ⟨e, a, [], ca, cb - 1, Aa, Ac, by rw [HNB.out], by rw [HNR.out], rfl, Lib.hid HG.out.2.2.2.1.swap, HRi, Lib.hid (by rw [HNB.out, HNR.out]; exact HAi.out)⟩
                case measure => have := HG.out.1; have := HG.out.2.1; simp [intOf]; omega
              | cons r R2 =>
                obtain ⟨bb, ob, hAc, e0, e1⟩ := sees_head HAi.out.2
                subst hAc
                have hre : r.1 ≠ e := HG.out.2.2.2.2.1 r rfl
                have der : ((r.1 : Int) == (e : Int)) = false := by simp; omega
                have hnR0 : 0 < nR := by rw [← HNR.out]; exact Nat.succ_pos _
                have hnR1 : (0 : Int) < (nR : Int) := by omega
                have dr : decide ((0 : Int) < (nR : Int)) = true := by simp; omega
                have dr' : decide (0 < nR) = true := by simp; omega
                clear hnR0 hre
                go_wp2_with fail
                go_roundw
                case rel => exact ⟨e, a, r :: R2, ca, cb - 1, Aa, some ⟨bb, ob, none⟩, by rw [HNB.out], by rw [HNR.out], rfl, Lib.hid HG.out.2.2.2.1.swap, HRi, Lib.hid (by rw [HNB.out, HNR.out]; exact HAi.out)⟩
                case measure => have := HG.out.1; have := HG.out.2.1; simp [intOf]; omega
end Go.Proofs.Ytemhoaleeefhhaa
