/- Walks: writes (CursorWrites). -/
import Derived.Test.YtgngeachgkappaaProg
import Derived.Test.YtgngeachgkappaaXc
import Derived.Test.YtgngeachgkappaaWz
namespace Go.Proofs.Ytgngeachgkappaa
open Go.RowKit
set_option linter.unusedVariables false

set_option maxRecDepth 20000 in
theorem writes_many (N : Int) (Z : Option Addr) (k cz : Nat) (w : World) (hk : 100 < k) :
    Calls Try.prog 21 #[.int .i64 N, .slice Z k cz] w fun e w' => e = .returned (.bool true) ∧ Below w.heap.size w w' := by
  have d2 : decide ((100 : Int) < (k : Int)) = true := by simp; omega
  have d2' : decide (100 < k) = true := by simp; omega
  clear hk
  go_enter Try.func21, Try.ntmps21
  go_wp2
  go_ret
  exact ⟨rfl, Below.refl _ _⟩

set_option maxRecDepth 20000 in
theorem writes_bad (N : Int) (Z : Option Addr) (k cz : Nat) (w : World) (hk : k ≤ 100) (hN : N < 0 ∨ 16777216 < N) :
    Calls Try.prog 21 #[.int .i64 N, .slice Z k cz] w fun e w' => e = .returned (.bool true) ∧ Below w.heap.size w w' := by
  have d2 : decide ((100 : Int) < (k : Int)) = false := by simp; omega
  have d2' : decide (100 < k) = false := by simp; omega
  have HN := Lib.hid hN
  clear hk
  by_cases h0 : N < 0
  · have d1 : decide (N < 0) = true := by simpa using h0
    clear hN h0
    go_enter Try.func21, Try.ntmps21
    go_wp2_with (go_at_call 12; refine (NewWriter_bad _ _ HN.out).mono ?_; rintro e w1 ⟨rfl, rfl⟩)
    go_ret
    exact ⟨rfl, Below.refl _ _⟩
  · have d1 : decide (N < 0) = false := by simpa using h0
    have d3 : decide ((16777216 : Int) < N) = true := by simp; omega
    clear hN h0
    go_enter Try.func21, Try.ntmps21
    go_wp2_with (go_at_call 12; refine (NewWriter_bad _ _ HN.out).mono ?_; rintro e w1 ⟨rfl, rfl⟩)
    go_ret
    exact ⟨rfl, Below.refl _ _⟩

theorem WS.out_ {w0 wr w7 : World} {p g7 lim n c m d N c7 : Nat} {A B A7 : Option Addr} {bs rs : List Int} {xs : List Value} (h : WS w0 wr p g7 lim A n c B m d bs rs) (o : w7.ownsRow wr.heap.size 5 1 (.slice A7 N c7) N xs) :
    ∃ b, (∀ G, b ≤ G → G ≠ p ∧ G ≠ g7 ∧ Clear G A n c B m) ∧ w0.heap.size ≤ b ∧ w7.ownsRow b 5 1 (.slice A7 N c7) N xs :=
  ⟨_, fun G hG => ⟨by have := h.wtr.plt; omega, by have := h.g7lt; omega, h.clear hG⟩, h.bel.size, o⟩
theorem WS.drew {w0 wr : World} {p g7 lim n c m d : Nat} {A B : Option Addr} {bs rs : List Int} (h : WS w0 wr p g7 lim A n c B m d bs rs) : WS w0 wr.drew p g7 lim A n c B m d bs rs := h.below (Below.refl _ _).drew
theorem step_wpX {P : Program} {ops : Array Oper} {o : Oper} {a : Act} {K : Act → World → Prop} {Q : Exit → Act → World → Prop} {w : World} {F : Prop} (hgd : o.guard = none) (h : o.wp P a w K Q) :
    if Region.wanted o (yielded ops a.tmps) = true then Oper.wp P o a w K Q else F := by
  rw [if_pos (by simp [Region.wanted, hgd])]; exact h
theorem own_gltX {w : World} {base e s n g c : Nat} {xs : List Value} (h : w.ownsRow base e s (.slice (some ⟨g, 0, none⟩) n c) n xs) : g < w.heap.size := (h.lt g rfl).2

set_option maxRecDepth 20000 in
set_option maxHeartbeats 6400000 in
theorem writes_good (lim : Nat) (Z : Option Addr) (k cz : Nat) (acts : List ActV) (w : World) (hk : k ≤ 100) (hl : lim ≤ 16777216) (hz : SeesAct w Z k cz acts) :
    Calls Try.prog 21 #[.int .i64 (lim : Int), .slice Z k cz] w fun e w' => e = .returned (.bool true) ∧ Below w.heap.size w w' := by
  have d2 : decide ((100 : Int) < (k : Int)) = false := by simp; omega
  have d2' : decide (100 < k) = false := by simp; omega
  have d1 : decide ((lim : Int) < 0) = false := by simp
  have d3 : decide ((16777216 : Int) < (lim : Int)) = false := by simp; omega
  have hk2 : (k : Int) ≤ 100 := by omega
  have HLM := Lib.hid hl
  have HZ := Lib.hid hz
  clear hk hl hz
  go_enter Try.func21, Try.ntmps21
  go_wp2_with (go_at_call 12; refine (NewWriter_ok lim _ HLM.out).mono ?_; rintro e w1 ⟨p, rfl, h1, b1⟩)
  have hst : WS w (w1.alloc (.cells #[.int .i64 (lim : Int), .slice none 0 0] 79)) p w1.heap.size lim none 0 0 none 0 0 [] [] :=
    ⟨h1.below ((Below.refl _ _).alloc (Nat.le_refl _) _), heap_alloc_new _ _, Sees.nil _ _ _ _ (by decide) (fun _ => rfl), fun h => by omega, b1.size, b1.alloc b1.size _⟩
  have HST := Lib.hid hst
  clear hst h1 b1 d1 d3 d2 d2'
  generalize w1.heap.size = g7 at HST ⊢
  go_loopw [39] (fun i wr => ∃ (j c d : Nat) (A B : Option Addr) (bs : List Int), Hid (j ≤ k) ∧ i = .int .i64 (j : Int) ∧ Hid (WS w wr p g7 lim A bs.length c B bs.length d bs bs)) (fun i _ => k - (intOf i).toNat)
  case atStart => exact ⟨0, 0, 0, none, none, [], Lib.hid (Nat.zero_le _), rfl, HST.out⟩
  case round =>
    obtain ⟨j, c, d, A, B, bs, HJ, rfl, HS⟩ := hrel
    by_cases hlt : j < k
    · obtain ⟨ba, oa, kd, N, M, X, Y, ny, cy, hA, g0, g1, g2, g3, g4, hok⟩ := HZ.out.at_ hlt
      cases hA
      replace g0 := below_cellA HS.out.bel g0
      replace g1 := below_cellA HS.out.bel g1
      replace g2 := below_cellA HS.out.bel g2
      replace g3 := below_cellA HS.out.bel g3
      replace g4 := below_cellA HS.out.bel g4
      have d4 : decide ((j : Int) < (k : Int)) = true := by simp; omega
      have hj2 : (j : Int) < (k : Int) := by omega
      have hj3 : (j : Int) ≤ 99 := by omega
      have HLT := Lib.hid hlt
      have HOK := Lib.hid hok
      clear hlt hok
      by_cases hny : 100 < ny
      · have d5 : decide ((100 : Int) < (ny : Int)) = true := by simp; omega
        have d5' : decide (100 < ny) = true := by simp; omega
        clear hny
        go_wp2
        go_ret
        exact ⟨rfl, HS.out.bel.alloc HS.out.bel.size _⟩
      · have d5 : decide ((100 : Int) < (ny : Int)) = false := by simp; omega
        have d5' : decide (100 < ny) = false := by simp; omega
        have HNY : Hid (ny ≤ 100) := Lib.hid (by omega)
        clear hny
        obtain ⟨ex, hex⟩ : ∃ ex : Nat, X = (ex : Int) := ⟨X.toNat, by have := HOK.out.x0; simp only [] at this; omega⟩
        subst hex
        have HX : Hid (ex < 18446744073709551616) := Lib.hid (by have := HOK.out.x1; simp only [] at this; omega)
        have hkd : (kd : Int) ≤ 255 := by have := HOK.out.k; simp only [] at this; omega
        obtain ⟨b8, hb8⟩ : ∃ b8, wr.heap.size = b8 := ⟨_, rfl⟩
        have hB1 : Below wr.heap.size wr (wr.alloc (.cells #[.int .u8 (kd : Int), .int .i64 N, .int .i64 M, .int .u64 (ex : Int), .slice Y ny cy] 64)) := (Below.refl _ _).alloc (Nat.le_refl _) _
        have hX1 := heap_alloc_new wr (.cells #[.int .u8 (kd : Int), .int .i64 N, .int .i64 M, .int .u64 (ex : Int), .slice Y ny cy] 64)
        have HS1 := Lib.hid (HS.out.below hB1)
        have HX1 := Lib.hid hX1
        have HBW : Hid (w.heap.size ≤ wr.heap.size) := Lib.hid HS.out.bel.size
        obtain ⟨q, hq, hq8⟩ : ∃ q : Nat, (kd : Int) % 8 = (q : Int) ∧ q < 8 := ⟨kd % 8, by omega, Nat.mod_lt _ (by decide)⟩
        have hfin : ∃ q', q = q' := ⟨_, rfl⟩
        have HLE : Hid (bs.length ≤ lim) := Lib.hid HS.out.wtr.le
        clear hB1 hX1 hfin hb8
        rcases (by omega : q = 0 ∨ q = 1 ∨ q = 2 ∨ q = 3 ∨ (4 ≤ q)) with rfl | rfl | rfl | rfl | hq4
        · clear hq8
          obtain ⟨ys, E, hT⟩ : ∃ ys E, putF bs lim [(ex : Int) % 256] = (ys, E) := ⟨_, _, rfl⟩
          have HT := Lib.hid hT
          clear hT
          go_wp2_with (first
            | (go_at_call 15; have _q := HS6; refine (OutW_any _ _ _ _ _ _ _ _ HS6.out.wtr).mono ?_; rintro e w7 ⟨A7, c7, rfl, o7, k7⟩; have HS7 := Lib.hid (HS6.out.below k7); have HO7 := Lib.hid (HS6.out.out_ o7); clear o7 k7)
            | (go_at_call 41; have _q := HS5; refine (refPut_any lim bs.length d 1 1 B _ bs [(ex : Int) % 256] _ (by exact HS5.out.see.below ((Below.refl _ _).alloc (Nat.le_refl _) _) (Nat.le_refl _)) (by exact Sees.one _ _ _) HLM.out HLE.out (by decide)).mono ?_; rw [HT.out]; rintro e w6 ⟨B6, m6, d6, rfl, s6, f6, k6⟩; obtain rfl : m6 = ys.length := s6.length.symm; have hs6 := (HS5.out.below ((Below.refl _ _).alloc (Nat.le_refl _) _)).below k6; have z0 := hs6.q0; have z1 := hs6.q1; have v0 := hs6.y0 0; have v1 := hs6.y0 1; have HS6 := Lib.hid ((HS5.out.below ((Below.refl _ _).alloc (Nat.le_refl _) _)).ref k6 s6 f6).1; clear hs6 s6 f6 k6)
            | (go_at_call 27; refine (ByteW_any w.heap.size p bs.length c lim _ A bs _ HS1.out.wtr (by exact Nat.le_trans HBW.out (by simp))).mono ?_; rw [HT.out]; rintro e w5 ⟨rfl, hd⟩; obtain ⟨A5, c5, hs5, hb5, hc5⟩ := HS1.out.put hd; have HS5 := Lib.hid hs5; have X5 := HS1.out.obj hb5 HX1.out (by decide) (by decide); have x51 : w5.cell? ⟨wr.heap.size, 1, none⟩ = some (.int .i64 N) := (by simp [World.cell?, X5]); have x53 : w5.cell? ⟨wr.heap.size, 3, none⟩ = some (.int .u64 (ex : Int)) := (by simp [World.cell?, X5]); have x54 : w5.cell? ⟨wr.heap.size, 4, none⟩ = some (.slice Y ny cy) := (by simp [World.cell?, X5]); have q0 := hs5.q0; have q1 := hs5.q1; clear hd hs5 hb5 X5))
          all_goals
            obtain ⟨b6, hcl, hb6, o7⟩ := HO7.out
            have HCL := Lib.hid hcl
            have HO := Lib.hid o7
            have q0 := HS7.out.q0
            have q1 := HS7.out.q1
            have hS7 : w7.cell? ⟨g7, 0, none⟩ = some (.int .i64 (lim : Int)) ∧ w7.cell? ⟨g7, 1, none⟩ = some (.slice B6 ys.length d6) ∧ Below w7.heap.size w7 w7 := ⟨q0, q1, Below.refl _ _⟩
            clear hcl o7 q0 q1
            go_region_held3 (fun w' => w'.cell? ⟨g7, 0, none⟩ = some (.int .i64 (lim : Int)) ∧ w'.cell? ⟨g7, 1, none⟩ = some (.slice B6 ys.length d6) ∧ Below w7.heap.size w7 w') (first | exact keep0 hS7 | exact keep3 (by assumption) (by assumption) | assumption) (first
              | (go_at_call 14; refine (LenW_any _ _ _ _ _ _ _ _ (HS7.out.wtr.below (And.right (And.right (by assumption))))).mono ?_; rintro e w' ⟨rfl, rfl⟩)
              | (go_at_call 30; refine (SameBytes_any _ _ _ _ _ _ _ _ _ (by exact sees_own (own_below HO.out (And.right (And.right (by assumption))) (Nat.le_refl _))) (by exact HS7.out.see.below (And.right (And.right (by assumption))) (Nat.le_refl _))).mono ?_; rw [eqL_self]; rintro e w' ⟨rfl, kk⟩))
            rename_i hH
            obtain ⟨q0, q1, HW9⟩ := hH
            have HS8 := Lib.hid (HS7.out.below HW9)
            have HO8 := Lib.hid (own_below HO.out HW9 (Nat.le_refl _))
            have HLL := Lib.hid (show (ys.length : Int) ≤ 16777216 by have h1 := HS7.out.wtr.le; have h2 := HLM.out; omega)
            have hll := HLL.out
            clear hS7 q0 q1 HW9 HS6 HS7 HO7 HO
            go_wp2
            go_loopw [141] (fun iv wq => ∃ (y : Nat) (zs : List Int), Hid (y ≤ ys.length) ∧ iv = .int .i64 (y : Int) ∧ Hid (WS w wq p g7 lim A5 ys.length c5 B6 ys.length d6 ys ys) ∧ Hid (wq.ownsRow b6 5 1 (.slice A7 ys.length c7) ys.length (zs.map (Value.int .u8)))) (fun iv _ => ys.length - (intOf iv).toNat)
            case atStart => exact ⟨0, ys, Lib.hid (Nat.zero_le _), rfl, HS8, HO8⟩
            case round =>
              obtain ⟨y, zs, HY9, rfl, HSQ, HOQ⟩ := hrel
              by_cases hy : y < ys.length
              · obtain ⟨ga, ca, hga, hgb⟩ := own_addrK HOQ.out (by omega)
                cases hga
                obtain ⟨yc, yf⟩ := own_cellK HOQ.out hy
                have d9 : decide ((y : Int) < (ys.length : Int)) = true := by simp; omega
                have hy2 : (y : Int) < (ys.length : Int) := by omega
                have HY1 := Lib.hid hy
                have HGA := Lib.hid (HCL.out ga hgb)
                have HGB := Lib.hid (Nat.le_trans hb6 hgb)
                clear hy
                go_wp2
                go_roundw
                case rel => exact ⟨y + 1, zs.set y 99, Lib.hid HY1.out, by go_num, Lib.hid (HSQ.out.keeps (Keeps.set ga y _ _) HGA.out.1 HGA.out.2.1 HGA.out.2.2 HGB.out), Lib.hid (own_setK HOQ.out y 99)⟩
                case measure => have := HY1.out; simp [intOf]; omega
              · have d9 : decide ((y : Int) < (ys.length : Int)) = false := by simp; omega
                have d9' : decide (y < ys.length) = false := by simp; omega
                clear hy
                go_wp2
                go_roundw
                case rel => exact ⟨j + 1, c5, d6, A5, B6, ys, Lib.hid HLT.out, by go_num, HSQ⟩
                case measure => have := HLT.out; simp [intOf]; omega
        · clear hq8
          obtain ⟨lx, hY, hYb⟩ := HOK.out.b
          simp only [] at hY
          have HY := Lib.hid hY
          have HLX := Lib.hid hY.length
          obtain ⟨ys, E, hT⟩ : ∃ ys E, putF bs lim lx = (ys, E) := ⟨_, _, rfl⟩
          have HT := Lib.hid hT
          clear hT hY hYb
          go_wp2_with (first
            | (go_at_call 15; have _q := HS6; refine (OutW_any _ _ _ _ _ _ _ _ HS6.out.wtr).mono ?_; rintro e w7 ⟨A7, c7, rfl, o7, k7⟩; have HS7 := Lib.hid (HS6.out.below k7); have HO7 := Lib.hid (HS6.out.out_ o7); clear o7 k7)
            | (go_at_call 44; have _q := R8; refine (OverBytes_any _ g1 c1 ny _ _ R8.out.2.1 (by have := HNY.out; omega)).mono ?_; rintro e w9 ⟨rfl, k9⟩; have HS6 := Lib.hid (R8.out.1.keeps k9 R8.out.2.2.1 R8.out.2.2.2.1 R8.out.2.2.2.2.1 R8.out.2.2.2.2.2))
            | (go_at_call 43; have _q := R7; refine (KeptBytes_any _ Y ny c1 cy lx _ (sees_own R7.out.2.1) (HY.out.below R7.out.1.bel (Nat.le_refl _)) (by have := HNY.out; omega)).mono ?_; rintro e w8 ⟨rfl, k8⟩; have R8 := Lib.hid (And.intro (R7.out.1.below k8) (And.intro (own_below R7.out.2.1 k8 (Nat.le_refl _)) R7.out.2.2)); clear k8)
            | (go_at_call 41; have _q := R5; refine (refPut_any lim bs.length d ny cy B Y bs lx _ R5.out.1.see (HY.out.below R5.out.1.bel (Nat.le_refl _)) HLM.out HLE.out (by have := HNY.out; omega)).mono ?_; rw [HT.out]; rintro e w6 ⟨B6, m6, d6, rfl, s6, f6, k6⟩; obtain rfl : m6 = ys.length := s6.length.symm; have hs6 := R5.out.1.below k6; have z0 := hs6.q0; have z1 := hs6.q1; have v0 := hs6.y0 0; have v1 := hs6.y0 1; obtain ⟨rf1, rf2, rf3⟩ := R5.out.1.ref k6 s6 f6; have X6 := (k6.block wr.heap.size (lt_of_heap R5.out.2.2.2.2.2.2)).trans R5.out.2.2.2.2.2.2; have X7 := (rf3.block wr.heap.size (lt_of_heap X6) R5.out.2.2.2.2.2.1).trans X6; have x74 : ((w6.setCell ⟨g7, 0, none⟩ (.int .i64 (lim : Int))).setCell ⟨g7, 1, none⟩ (.slice B6 ys.length d6)).cell? ⟨wr.heap.size, 4, none⟩ = some (.slice Y ny cy) := (by simp [World.cell?, X7]); have R7 := Lib.hid (And.intro rf1 (And.intro (own_keeps (own_below R5.out.2.1 k6 (Nat.le_refl _)) rf3 (fun e => R5.out.2.2.2.1 (by simpa [Value.ownBlock] using e))) (And.intro R5.out.2.2.1 (And.intro R5.out.2.2.2.1 (And.intro (rf2 g1 (own_gltX R5.out.2.1) R5.out.2.2.2.2.1) (show w.heap.size ≤ g1 by have := R2.out.2.2; have := HBW.out; omega)))))); clear hs6 s6 f6 k6 rf1 rf2 rf3 X6 X7)
            | (go_at_call 26; have _q := R2; refine (BytesW_any w.heap.size p bs.length c lim ny c1 A _ bs lx _ R2.out.1.wtr (by have h9 := sees_own R2.out.2.1; rw [List.map_append] at h9; exact h9.take (by rw [List.length_map, HLX.out]; omega) (by omega)) R2.out.1.bel.size).mono ?_; rw [HT.out]; rintro e w5 ⟨rfl, hd⟩; obtain ⟨A5, c5, hs5, hb5, hc5⟩ := R2.out.1.put hd; have X5 := R2.out.1.obj hb5 HX2.out (by decide) (by decide); have x54 : w5.cell? ⟨wr.heap.size, 4, none⟩ = some (.slice Y ny cy) := (by simp [World.cell?, X5]); have q0 := hs5.q0; have q1 := hs5.q1; have hpg : g1 ≠ p := (by have := HS.out.wtr.plt; have := R2.out.2.2; omega); have hgg : g1 ≠ g7 := (by have := HS.out.g7lt; have := R2.out.2.2; omega); have hcl := HS1.out.clear (G := g1) R2.out.2.2.1; have R5 := Lib.hid (And.intro hs5 (And.intro (own_both R2.out.2.1 hb5 (fun q hq => (by simp [Value.ownBlock] at hq; subst hq; exact ⟨hpg, hcl.1⟩))) (And.intro hpg (And.intro hgg (And.intro (hc5 g1 (own_gltX R2.out.2.1) hcl) (And.intro (show wr.heap.size ≠ g7 by have := HS.out.g7lt; omega) X5)))))); clear hd hs5 hb5 X5 hpg hgg hcl hc5)
            | (go_at_call 42; refine (LentBytes_any Y ny cy lx _ (HY.out.below HS1.out.bel (Nat.le_refl _)) (by have := HNY.out; omega)).mono ?_; rintro e w2 ⟨A1, c1, rfl, o1, b1⟩; obtain ⟨g1, c1', hgo1, hgo0⟩ := own_addrK o1 (by omega); cases hgo1; have R2 := Lib.hid (And.intro (HS1.out.below b1) (And.intro o1 (show (wr.alloc (.cells #[.int .u8 (kd : Int), .int .i64 N, .int .i64 M, .int .u64 (ex : Int), .slice Y ny cy] 64)).heap.size ≤ g1 ∧ wr.heap.size < g1 from ⟨hgo0, by simp at hgo0; omega⟩))); have HX2 := Lib.hid ((b1.block _ (lt_of_heap HX1.out)).trans HX1.out); have x24 : w2.cell? ⟨wr.heap.size, 4, none⟩ = some (.slice Y ny cy) := (by have h9 := HX2.out; simp [World.cell?, h9]); clear o1 b1 hgo0))
          all_goals
            obtain ⟨b6, hcl, hb6, o7⟩ := HO7.out
            have HCL := Lib.hid hcl
            have HO := Lib.hid o7
            have q0 := HS7.out.q0
            have q1 := HS7.out.q1
            have hS7 : w7.cell? ⟨g7, 0, none⟩ = some (.int .i64 (lim : Int)) ∧ w7.cell? ⟨g7, 1, none⟩ = some (.slice B6 ys.length d6) ∧ Below w7.heap.size w7 w7 := ⟨q0, q1, Below.refl _ _⟩
            clear hcl o7 q0 q1
            go_region_held3 (fun w' => w'.cell? ⟨g7, 0, none⟩ = some (.int .i64 (lim : Int)) ∧ w'.cell? ⟨g7, 1, none⟩ = some (.slice B6 ys.length d6) ∧ Below w7.heap.size w7 w') (first | exact keep0 hS7 | exact keep3 (by assumption) (by assumption) | assumption) (first
              | (go_at_call 14; refine (LenW_any _ _ _ _ _ _ _ _ (HS7.out.wtr.below (And.right (And.right (by assumption))))).mono ?_; rintro e w' ⟨rfl, rfl⟩)
              | (go_at_call 30; refine (SameBytes_any _ _ _ _ _ _ _ _ _ (by exact sees_own (own_below HO.out (And.right (And.right (by assumption))) (Nat.le_refl _))) (by exact HS7.out.see.below (And.right (And.right (by assumption))) (Nat.le_refl _))).mono ?_; rw [eqL_self]; rintro e w' ⟨rfl, kk⟩))
            rename_i hH
            obtain ⟨q0, q1, HW9⟩ := hH
            have HS8 := Lib.hid (HS7.out.below HW9)
            have HO8 := Lib.hid (own_below HO.out HW9 (Nat.le_refl _))
            have HLL := Lib.hid (show (ys.length : Int) ≤ 16777216 by have h1 := HS7.out.wtr.le; have h2 := HLM.out; omega)
            have hll := HLL.out
            clear hS7 q0 q1 HW9 HS6 HS7 HO7 HO
            go_wp2
            go_loopw [141] (fun iv wq => ∃ (y : Nat) (zs : List Int), Hid (y ≤ ys.length) ∧ iv = .int .i64 (y : Int) ∧ Hid (WS w wq p g7 lim A5 ys.length c5 B6 ys.length d6 ys ys) ∧ Hid (wq.ownsRow b6 5 1 (.slice A7 ys.length c7) ys.length (zs.map (Value.int .u8)))) (fun iv _ => ys.length - (intOf iv).toNat)
            case atStart => exact ⟨0, ys, Lib.hid (Nat.zero_le _), rfl, HS8, HO8⟩
            case round =>
              obtain ⟨y, zs, HY9, rfl, HSQ, HOQ⟩ := hrel
              by_cases hy : y < ys.length
              · obtain ⟨ga, ca, hga, hgb⟩ := own_addrK HOQ.out (by omega)
                cases hga
                obtain ⟨yc, yf⟩ := own_cellK HOQ.out hy
                have d9 : decide ((y : Int) < (ys.length : Int)) = true := by simp; omega
                have hy2 : (y : Int) < (ys.length : Int) := by omega
                have HY1 := Lib.hid hy
                have HGA := Lib.hid (HCL.out ga hgb)
                have HGB := Lib.hid (Nat.le_trans hb6 hgb)
                clear hy
                go_wp2
                go_roundw
                case rel => exact ⟨y + 1, zs.set y 99, Lib.hid HY1.out, by go_num, Lib.hid (HSQ.out.keeps (Keeps.set ga y _ _) HGA.out.1 HGA.out.2.1 HGA.out.2.2 HGB.out), Lib.hid (own_setK HOQ.out y 99)⟩
                case measure => have := HY1.out; simp [intOf]; omega
              · have d9 : decide ((y : Int) < (ys.length : Int)) = false := by simp; omega
                have d9' : decide (y < ys.length) = false := by simp; omega
                clear hy
                go_wp2
                go_roundw
                case rel => exact ⟨j + 1, c5, d6, A5, B6, ys, Lib.hid HLT.out, by go_num, HSQ⟩
                case measure => have := HLT.out; simp [intOf]; omega
        · clear hq8
          obtain ⟨ys, E, hT⟩ : ∃ ys E, putFixedF bs lim ex N = (ys, E) := ⟨_, _, rfl⟩
          have HT := Lib.hid hT
          clear hT
          go_wp2_with (first
            | (go_at_call 15; have _q := HS6; refine (OutW_any _ _ _ _ _ _ _ _ HS6.out.wtr).mono ?_; rintro e w7 ⟨A7, c7, rfl, o7, k7⟩; have HS7 := Lib.hid (HS6.out.below k7); have HO7 := Lib.hid (HS6.out.out_ o7); clear o7 k7)
            | (go_at_call 45; have _q := HS5; refine (refPutFixed_any lim bs.length d ex N B bs _ HS5.out.see HLM.out HLE.out HX.out).mono ?_; rw [HT.out]; rintro e w6 ⟨B6, m6, d6, rfl, s6, f6, k6⟩; obtain rfl : m6 = ys.length := s6.length.symm; have hs6 := HS5.out.below k6; have z0 := hs6.q0; have z1 := hs6.q1; have v0 := hs6.y0 0; have v1 := hs6.y0 1; have HS6 := Lib.hid (HS5.out.ref k6 s6 f6).1; clear hs6 s6 f6 k6)
            | (go_at_call 25; refine (FixedW_any w.heap.size p bs.length c lim ex N A bs _ HS1.out.wtr HX.out (by exact Nat.le_trans HBW.out (by simp))).mono ?_; rw [HT.out]; rintro e w5 ⟨rfl, hd⟩; obtain ⟨A5, c5, hs5, hb5, hc5⟩ := HS1.out.put hd; have HS5 := Lib.hid hs5; have X5 := HS1.out.obj hb5 HX1.out (by decide) (by decide); have x51 : w5.cell? ⟨wr.heap.size, 1, none⟩ = some (.int .i64 N) := (by simp [World.cell?, X5]); have x53 : w5.cell? ⟨wr.heap.size, 3, none⟩ = some (.int .u64 (ex : Int)) := (by simp [World.cell?, X5]); have x54 : w5.cell? ⟨wr.heap.size, 4, none⟩ = some (.slice Y ny cy) := (by simp [World.cell?, X5]); have q0 := hs5.q0; have q1 := hs5.q1; clear hd hs5 hb5 X5))
          all_goals
            obtain ⟨b6, hcl, hb6, o7⟩ := HO7.out
            have HCL := Lib.hid hcl
            have HO := Lib.hid o7
            have q0 := HS7.out.q0
            have q1 := HS7.out.q1
            have hS7 : w7.cell? ⟨g7, 0, none⟩ = some (.int .i64 (lim : Int)) ∧ w7.cell? ⟨g7, 1, none⟩ = some (.slice B6 ys.length d6) ∧ Below w7.heap.size w7 w7 := ⟨q0, q1, Below.refl _ _⟩
            clear hcl o7 q0 q1
            go_region_held3 (fun w' => w'.cell? ⟨g7, 0, none⟩ = some (.int .i64 (lim : Int)) ∧ w'.cell? ⟨g7, 1, none⟩ = some (.slice B6 ys.length d6) ∧ Below w7.heap.size w7 w') (first | exact keep0 hS7 | exact keep3 (by assumption) (by assumption) | assumption) (first
              | (go_at_call 14; refine (LenW_any _ _ _ _ _ _ _ _ (HS7.out.wtr.below (And.right (And.right (by assumption))))).mono ?_; rintro e w' ⟨rfl, rfl⟩)
              | (go_at_call 30; refine (SameBytes_any _ _ _ _ _ _ _ _ _ (by exact sees_own (own_below HO.out (And.right (And.right (by assumption))) (Nat.le_refl _))) (by exact HS7.out.see.below (And.right (And.right (by assumption))) (Nat.le_refl _))).mono ?_; rw [eqL_self]; rintro e w' ⟨rfl, kk⟩))
            rename_i hH
            obtain ⟨q0, q1, HW9⟩ := hH
            have HS8 := Lib.hid (HS7.out.below HW9)
            have HO8 := Lib.hid (own_below HO.out HW9 (Nat.le_refl _))
            have HLL := Lib.hid (show (ys.length : Int) ≤ 16777216 by have h1 := HS7.out.wtr.le; have h2 := HLM.out; omega)
            have hll := HLL.out
            clear hS7 q0 q1 HW9 HS6 HS7 HO7 HO
            go_wp2
            go_loopw [141] (fun iv wq => ∃ (y : Nat) (zs : List Int), Hid (y ≤ ys.length) ∧ iv = .int .i64 (y : Int) ∧ Hid (WS w wq p g7 lim A5 ys.length c5 B6 ys.length d6 ys ys) ∧ Hid (wq.ownsRow b6 5 1 (.slice A7 ys.length c7) ys.length (zs.map (Value.int .u8)))) (fun iv _ => ys.length - (intOf iv).toNat)
            case atStart => exact ⟨0, ys, Lib.hid (Nat.zero_le _), rfl, HS8, HO8⟩
            case round =>
              obtain ⟨y, zs, HY9, rfl, HSQ, HOQ⟩ := hrel
              by_cases hy : y < ys.length
              · obtain ⟨ga, ca, hga, hgb⟩ := own_addrK HOQ.out (by omega)
                cases hga
                obtain ⟨yc, yf⟩ := own_cellK HOQ.out hy
                have d9 : decide ((y : Int) < (ys.length : Int)) = true := by simp; omega
                have hy2 : (y : Int) < (ys.length : Int) := by omega
                have HY1 := Lib.hid hy
                have HGA := Lib.hid (HCL.out ga hgb)
                have HGB := Lib.hid (Nat.le_trans hb6 hgb)
                clear hy
                go_wp2
                go_roundw
                case rel => exact ⟨y + 1, zs.set y 99, Lib.hid HY1.out, by go_num, Lib.hid (HSQ.out.keeps (Keeps.set ga y _ _) HGA.out.1 HGA.out.2.1 HGA.out.2.2 HGB.out), Lib.hid (own_setK HOQ.out y 99)⟩
                case measure => have := HY1.out; simp [intOf]; omega
              · have d9 : decide ((y : Int) < (ys.length : Int)) = false := by simp; omega
                have d9' : decide (y < ys.length) = false := by simp; omega
                clear hy
                go_wp2
                go_roundw
                case rel => exact ⟨j + 1, c5, d6, A5, B6, ys, Lib.hid HLT.out, by go_num, HSQ⟩
                case measure => have := HLT.out; simp [intOf]; omega
        · clear hq8
          obtain ⟨ys, E, hT⟩ : ∃ ys E, putF bs lim (enc ex) = (ys, E) := ⟨_, _, rfl⟩
          have HT := Lib.hid hT
          clear hT
          go_wp2_with (first
            | (go_at_call 34; refine (NumberW_any w.heap.size p bs.length c lim ex A bs _ HS1.out.wtr HX.out (by exact Nat.le_trans HBW.out (by simp))).mono ?_; rw [HT.out]; rintro e w5 ⟨rfl, hd⟩; obtain ⟨A5, c5, hs5, hb5, hc5⟩ := HS1.out.put hd; have HS5 := Lib.hid hs5; have X5 := HS1.out.obj hb5 HX1.out (by decide) (by decide); have x51 : w5.cell? ⟨wr.heap.size, 1, none⟩ = some (.int .i64 N) := (by simp [World.cell?, X5]); have x53 : w5.cell? ⟨wr.heap.size, 3, none⟩ = some (.int .u64 (ex : Int)) := (by simp [World.cell?, X5]); have x54 : w5.cell? ⟨wr.heap.size, 4, none⟩ = some (.slice Y ny cy) := (by simp [World.cell?, X5]); have q0 := hs5.q0; have q1 := hs5.q1; clear hd hs5 hb5 X5))
          have HSD := Lib.hid HS5.out.drew
          go_region_law (first
            | (refine step_wpX rfl ?_; go_simp; go_at_call 41; have _q := R6; refine (refPut_any lim bs.length d (enc ex).length c6 B A6 bs (enc ex) _ R6.out.1.see (sees_own R6.out.2) HLM.out HLE.out (by have := enc_len ex; omega)).mono ?_; rw [HT.out]; rintro e w7 ⟨B6, m6, d6, rfl, s6, f6, k6⟩; obtain rfl : m6 = ys.length := s6.length.symm; have hs6 := R6.out.1.below k6; have z0 := hs6.q0; have z1 := hs6.q1; have v0 := hs6.y0 0; have v1 := hs6.y0 1; have HS6 := Lib.hid (R6.out.1.ref k6 s6 f6).1; clear hs6 s6 f6 k6; dsimp only)
            | (refine step_wpX rfl ?_; go_simp; go_at_call 46; refine (refWrite_any ex HX.out _).mono ?_; rintro e w6 ⟨v6, rfl, o6, k6⟩; obtain ⟨A6, c6, rfl⟩ := own_form o6; have hs6 := (by first | exact HS5.out.below k6 | exact HSD.out.below k6); have q60 := hs6.q0; have q61 := hs6.q1; have R6 := Lib.hid (And.intro hs6 o6); clear hs6 o6 k6; dsimp only))
          all_goals simp only [Act.put, List.getElem_toArray, List.getElem_cons_succ, List.getElem_cons_zero, List.setIfInBounds_toArray, List.set_cons_succ, List.set_cons_zero]
          all_goals go_wp2_with (go_at_call 15; have _q := HS6; refine (OutW_any _ _ _ _ _ _ _ _ HS6.out.wtr).mono ?_; rintro e w7 ⟨A7, c7, rfl, o7, k7⟩; have HS7 := Lib.hid (HS6.out.below k7); have HO7 := Lib.hid (HS6.out.out_ o7); clear o7 k7)
          all_goals
            obtain ⟨b6, hcl, hb6, o7⟩ := HO7.out
            have HCL := Lib.hid hcl
            have HO := Lib.hid o7
            have q0 := HS7.out.q0
            have q1 := HS7.out.q1
            have hS7 : w7.cell? ⟨g7, 0, none⟩ = some (.int .i64 (lim : Int)) ∧ w7.cell? ⟨g7, 1, none⟩ = some (.slice B6 ys.length d6) ∧ Below w7.heap.size w7 w7 := ⟨q0, q1, Below.refl _ _⟩
            clear hcl o7 q0 q1
            go_region_held3 (fun w' => w'.cell? ⟨g7, 0, none⟩ = some (.int .i64 (lim : Int)) ∧ w'.cell? ⟨g7, 1, none⟩ = some (.slice B6 ys.length d6) ∧ Below w7.heap.size w7 w') (first | exact keep0 hS7 | exact keep3 (by assumption) (by assumption) | assumption) (first
              | (go_at_call 14; refine (LenW_any _ _ _ _ _ _ _ _ (HS7.out.wtr.below (And.right (And.right (by assumption))))).mono ?_; rintro e w' ⟨rfl, rfl⟩)
              | (go_at_call 30; refine (SameBytes_any _ _ _ _ _ _ _ _ _ (by exact sees_own (own_below HO.out (And.right (And.right (by assumption))) (Nat.le_refl _))) (by exact HS7.out.see.below (And.right (And.right (by assumption))) (Nat.le_refl _))).mono ?_; rw [eqL_self]; rintro e w' ⟨rfl, kk⟩))
            rename_i hH
            obtain ⟨q0, q1, HW9⟩ := hH
            have HS8 := Lib.hid (HS7.out.below HW9)
            have HO8 := Lib.hid (own_below HO.out HW9 (Nat.le_refl _))
            have HLL := Lib.hid (show (ys.length : Int) ≤ 16777216 by have h1 := HS7.out.wtr.le; have h2 := HLM.out; omega)
            have hll := HLL.out
            clear hS7 q0 q1 HW9 HS6 HS7 HO7 HO
            go_wp2
            go_loopw [141] (fun iv wq => ∃ (y : Nat) (zs : List Int), Hid (y ≤ ys.length) ∧ iv = .int .i64 (y : Int) ∧ Hid (WS w wq p g7 lim A5 ys.length c5 B6 ys.length d6 ys ys) ∧ Hid (wq.ownsRow b6 5 1 (.slice A7 ys.length c7) ys.length (zs.map (Value.int .u8)))) (fun iv _ => ys.length - (intOf iv).toNat)
            case atStart => exact ⟨0, ys, Lib.hid (Nat.zero_le _), rfl, HS8, HO8⟩
            case round =>
              obtain ⟨y, zs, HY9, rfl, HSQ, HOQ⟩ := hrel
              by_cases hy : y < ys.length
              · obtain ⟨ga, ca, hga, hgb⟩ := own_addrK HOQ.out (by omega)
                cases hga
                obtain ⟨yc, yf⟩ := own_cellK HOQ.out hy
                have d9 : decide ((y : Int) < (ys.length : Int)) = true := by simp; omega
                have hy2 : (y : Int) < (ys.length : Int) := by omega
                have HY1 := Lib.hid hy
                have HGA := Lib.hid (HCL.out ga hgb)
                have HGB := Lib.hid (Nat.le_trans hb6 hgb)
                clear hy
                go_wp2
                go_roundw
                case rel => exact ⟨y + 1, zs.set y 99, Lib.hid HY1.out, by go_num, Lib.hid (HSQ.out.keeps (Keeps.set ga y _ _) HGA.out.1 HGA.out.2.1 HGA.out.2.2 HGB.out), Lib.hid (own_setK HOQ.out y 99)⟩
                case measure => have := HY1.out; simp [intOf]; omega
              · have d9 : decide ((y : Int) < (ys.length : Int)) = false := by simp; omega
                have d9' : decide (y < ys.length) = false := by simp; omega
                clear hy
                go_wp2
                go_roundw
                case rel => exact ⟨j + 1, c5, d6, A5, B6, ys, Lib.hid HLT.out, by go_num, HSQ⟩
                case measure => have := HLT.out; simp [intOf]; omega
        · have e0 : ((q : Int) == 0) = false := by simp; omega
          have e1 : ((q : Int) == 1) = false := by simp; omega
          have e2 : ((q : Int) == 2) = false := by simp; omega
          have e3 : ((q : Int) == 3) = false := by simp; omega
          clear hq4 hq8
          have HS6 := HS1
          obtain ⟨ys, rfl⟩ : ∃ ys, ys = bs := ⟨_, rfl⟩
          obtain ⟨A5, rfl⟩ : ∃ A5, A5 = A := ⟨_, rfl⟩
          obtain ⟨c5, rfl⟩ : ∃ c5, c5 = c := ⟨_, rfl⟩
          obtain ⟨B6, rfl⟩ : ∃ B6, B6 = B := ⟨_, rfl⟩
          obtain ⟨d6, rfl⟩ : ∃ d6, d6 = d := ⟨_, rfl⟩
          go_wp2_with (go_at_call 15; have _q := HS6; refine (OutW_any _ _ _ _ _ _ _ _ HS6.out.wtr).mono ?_; rintro e w7 ⟨A7, c7, rfl, o7, k7⟩; have HS7 := Lib.hid (HS6.out.below k7); have HO7 := Lib.hid (HS6.out.out_ o7); clear o7 k7)
          all_goals
            obtain ⟨b6, hcl, hb6, o7⟩ := HO7.out
            have HCL := Lib.hid hcl
            have HO := Lib.hid o7
            have q0 := HS7.out.q0
            have q1 := HS7.out.q1
            have hS7 : w7.cell? ⟨g7, 0, none⟩ = some (.int .i64 (lim : Int)) ∧ w7.cell? ⟨g7, 1, none⟩ = some (.slice B6 ys.length d6) ∧ Below w7.heap.size w7 w7 := ⟨q0, q1, Below.refl _ _⟩
            clear hcl o7 q0 q1
            go_region_held3 (fun w' => w'.cell? ⟨g7, 0, none⟩ = some (.int .i64 (lim : Int)) ∧ w'.cell? ⟨g7, 1, none⟩ = some (.slice B6 ys.length d6) ∧ Below w7.heap.size w7 w') (first | exact keep0 hS7 | exact keep3 (by assumption) (by assumption) | assumption) (first
              | (go_at_call 14; refine (LenW_any _ _ _ _ _ _ _ _ (HS7.out.wtr.below (And.right (And.right (by assumption))))).mono ?_; rintro e w' ⟨rfl, rfl⟩)
              | (go_at_call 30; refine (SameBytes_any _ _ _ _ _ _ _ _ _ (by exact sees_own (own_below HO.out (And.right (And.right (by assumption))) (Nat.le_refl _))) (by exact HS7.out.see.below (And.right (And.right (by assumption))) (Nat.le_refl _))).mono ?_; rw [eqL_self]; rintro e w' ⟨rfl, kk⟩))
            rename_i hH
            obtain ⟨q0, q1, HW9⟩ := hH
            have HS8 := Lib.hid (HS7.out.below HW9)
            have HO8 := Lib.hid (own_below HO.out HW9 (Nat.le_refl _))
            have HLL := Lib.hid (show (ys.length : Int) ≤ 16777216 by have h1 := HS7.out.wtr.le; have h2 := HLM.out; omega)
            have hll := HLL.out
            clear hS7 q0 q1 HW9 HS6 HS7 HO7 HO
            go_wp2
            go_loopw [141] (fun iv wq => ∃ (y : Nat) (zs : List Int), Hid (y ≤ ys.length) ∧ iv = .int .i64 (y : Int) ∧ Hid (WS w wq p g7 lim A5 ys.length c5 B6 ys.length d6 ys ys) ∧ Hid (wq.ownsRow b6 5 1 (.slice A7 ys.length c7) ys.length (zs.map (Value.int .u8)))) (fun iv _ => ys.length - (intOf iv).toNat)
            case atStart => exact ⟨0, ys, Lib.hid (Nat.zero_le _), rfl, HS8, HO8⟩
            case round =>
              obtain ⟨y, zs, HY9, rfl, HSQ, HOQ⟩ := hrel
              by_cases hy : y < ys.length
              · obtain ⟨ga, ca, hga, hgb⟩ := own_addrK HOQ.out (by omega)
                cases hga
                obtain ⟨yc, yf⟩ := own_cellK HOQ.out hy
                have d9 : decide ((y : Int) < (ys.length : Int)) = true := by simp; omega
                have hy2 : (y : Int) < (ys.length : Int) := by omega
                have HY1 := Lib.hid hy
                have HGA := Lib.hid (HCL.out ga hgb)
                have HGB := Lib.hid (Nat.le_trans hb6 hgb)
                clear hy
                go_wp2
                go_roundw
                case rel => exact ⟨y + 1, zs.set y 99, Lib.hid HY1.out, by go_num, Lib.hid (HSQ.out.keeps (Keeps.set ga y _ _) HGA.out.1 HGA.out.2.1 HGA.out.2.2 HGB.out), Lib.hid (own_setK HOQ.out y 99)⟩
                case measure => have := HY1.out; simp [intOf]; omega
              · have d9 : decide ((y : Int) < (ys.length : Int)) = false := by simp; omega
                have d9' : decide (y < ys.length) = false := by simp; omega
                clear hy
                go_wp2
                go_roundw
                case rel => exact ⟨j + 1, c5, d6, A5, B6, ys, Lib.hid HLT.out, by go_num, HSQ⟩
                case measure => have := HLT.out; simp [intOf]; omega
    · have hjk : j = k := by have := HJ.out; omega
      have d4 : decide ((j : Int) < (k : Int)) = false := by simp; omega
      have d4' : decide (j < k) = false := by simp; omega
      clear hlt hjk
      have q0 := HS.out.q0
      have q1 := HS.out.q1
      have hS7 : wr.cell? ⟨g7, 0, none⟩ = some (.int .i64 (lim : Int)) ∧ wr.cell? ⟨g7, 1, none⟩ = some (.slice B bs.length d) ∧ Below wr.heap.size wr wr := ⟨q0, q1, Below.refl _ _⟩
      clear q0 q1
      go_wp2_with fail
      go_region_held3 (fun w' => w'.cell? ⟨g7, 0, none⟩ = some (.int .i64 (lim : Int)) ∧ w'.cell? ⟨g7, 1, none⟩ = some (.slice B bs.length d) ∧ Below wr.heap.size wr w') (first | exact keep0 hS7 | exact keep3 (by assumption) (by assumption) | assumption) (first
        | (go_at_call 30; refine (SameBytes_any _ _ _ _ _ _ _ _ _ (by exact sees_own o9) (by exact HS.out.see.below (And.right (And.right (by assumption))) (Nat.le_refl _))).mono ?_; rw [eqL_self]; rintro e w' ⟨rfl, kk⟩)
        | (go_at_call 15; refine (OutW_any _ _ _ _ _ _ _ _ (HS.out.wtr.below (And.right (And.right (by assumption))))).mono ?_; rintro e w' ⟨A9, c9, rfl, o9, kk⟩))
      rename_i hH
      have HB := Lib.hid (HS.out.bel.trans (hH.2.2.mono HS.out.bel.size))
      go_wp2
      go_ret
      exact ⟨rfl, HB.out⟩

theorem writes_any (N : Int) (Z : Option Addr) (k cz : Nat) (acts : List ActV) (w : World) (hz : SeesAct w Z k cz acts) :
    Calls Try.prog 21 #[.int .i64 N, .slice Z k cz] w fun e w' => e = .returned (.bool true) ∧ Below w.heap.size w w' := by
  by_cases hk : 100 < k
  · exact writes_many N Z k cz w hk
  · by_cases hN : N < 0 ∨ 16777216 < N
    · exact writes_bad N Z k cz w (by omega) hN
    · obtain ⟨lim, rfl⟩ : ∃ lim : Nat, N = (lim : Int) := ⟨N.toNat, by omega⟩
      exact writes_good lim Z k cz acts w (by omega) (by omega) hz
end Go.Proofs.Ytgngeachgkappaa
