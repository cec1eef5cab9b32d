/- Walks: the law's read, on. -/
import Derived.Test.YtgngeachgkappaaProg
import Derived.Test.YtgngeachgkappaaWw
namespace Go.Proofs.Ytgngeachgkappaa
open Go.RowKit
set_option linter.unusedVariables false

theorem heap_sc {w : World} {g k i : Nat} {v : Value} (h : i ≠ g) : (w.setCell ⟨g, k, none⟩ v).heap[i]? = w.heap[i]? := Below.heap_setCell _ _ _ _ h
theorem did_fin3 {w W : World} {p n c at_ q b : Nat} {A : Option Addr} {bs : List Int} (h : Rdr w p A n c bs at_) (hd : W.heap[p]? = some (.cells #[.slice A n c, .int .i64 (q : Int), .pointer (some ⟨p, 0, none⟩)] 77 (0, 0)) ∧ Keeps p w W) (u v : Value) (hb : w.heap.size ≤ b) (hq : q ≤ n) :
    Did p n c q A bs w ((W.setCell ⟨b, 0, none⟩ u).setCell ⟨b, 1, none⟩ v) := by
  have hp := h.plt
  have k2 := (hd.2.setHigh ⟨b, 0, none⟩ u hb).setHigh ⟨b, 1, none⟩ v hb
  refine ⟨h.later k2 ?_ hq, k2⟩
  rw [heap_sc (by omega), heap_sc (by omega)]
  exact hd.1
theorem own_glt {w : World} {base e s n g c : Nat} {xs : List Value} (h : w.ownsRow base e s (.slice (some ⟨g, 0, none⟩) n c) n xs) : g < w.heap.size := (h.lt g rfl).2

set_option maxRecDepth 100000 in
set_option maxHeartbeats 1600000 in
theorem read_byte_end (p n c at_ cb kd ny cy : Nat) (N M X : Int) (A B Y : Option Addr) (bs : List Int) (w : World) (h : Rdr w p A n c bs at_) (hn : n ≤ 100000000) (hs : Sees w 1 B n cb (bs.map (Value.int .u8))) (ho : 0 < n → Off p B) (hk : kd % 8 = 0) (hk2 : kd < 256) (hlt : n ≤ at_) :
    Calls Try.prog 50 #[.pointer (some ⟨p, 0, none⟩), rv B n cb at_, av kd N M X Y ny cy] w fun e w' => e = .returned (.tuple #[rv B n cb at_, .bool true]) ∧ Did p n c at_ A bs w w' := by
  have hk3 : (kd : Int) % 8 = 0 := by omega
  have hk4 : (kd : Int) ≤ 255 := by omega
  have hF : takeF bs n at_ 1 = (at_, [], 20) := by
    unfold takeF
    rw [if_neg (by omega), if_pos (by omega)]
  have HF := Lib.hid hF
  have HLT := Lib.hid hlt
  have hX := rx_bx w B n cb at_ kd N M X Y ny cy
  have hBx := rx_below w B n cb at_ kd N M X Y ny cy
  have q0 := hX.k0
  have HR := Lib.hid (h.below hBx)
  have HS := Lib.hid (hs.below hBx (Nat.le_refl _))
  have HX := Lib.hid hX
  have HB := Lib.hid hBx
  have HP := Lib.hid h.plt
  have HLE := Lib.hid h.le
  have H0 := Lib.hid h
  clear h hs hX hBx hF hk hk2 hlt
  go_enter Try.func50, Try.ntmps50
  go_wp2_with (first
    | (go_at_call 56; refine (refTake_any B n cb at_ 1 bs _ s4.out HLE.out hn).mono ?_; rw [HF.out]; rintro e w5 ⟨A5, m5, c5, rfl, o5, k5⟩; have X5 := Lib.hid (X4.out.below k5); have z0 := X5.out.z0; have z1 := X5.out.z1; have f0 := X5.out.f0; have f1 := X5.out.f1; have hz := X5.out.lt; have D5 := Lib.hid (And.intro (h4.out.1.below k5) (h4.out.2.trans (Keeps.of_below k5))); clear o5)
    | (go_at_call 24; change Calls _ _ _ (rx w B n cb at_ kd N M X Y ny cy) _; refine (Byte_end _ _ _ _ _ bs _ HR.out hn HLT.out).mono ?_; rintro e w4 ⟨rfl, h4⟩; have X4 := Lib.hid (HX.out.keeps h4.2 HP.out); have a0 := X4.out.a0; have a1 := X4.out.a1; have s4 := Lib.hid (HS.out.keeps0 h4.2 ho); have h4 := Lib.hid h4))
  have W6 : ∃ W6, W6 = w5.alloc (.cells #[.slice B n cb, .int .i64 (at_ : Int)] 88) := ⟨_, rfl⟩
  obtain ⟨W6, hW6⟩ := W6
  have gA : W6.cell? ⟨w5.heap.size, 0, none⟩ = some (.slice B n cb) := by rw [hW6]; simp
  have gB : W6.cell? ⟨w5.heap.size, 1, none⟩ = some (.int .i64 (at_ : Int)) := by rw [hW6]; simp
  have X6 := X5.out.below (W' := W6) (by rw [hW6]; exact (Below.refl _ _).alloc (Nat.le_refl _) _)
  have D6 : Hid (Rdr W6 p A n c bs at_ ∧ Keeps p (rx w B n cb at_ kd N M X Y ny cy) W6) := Lib.hid (by rw [hW6]; exact ⟨D5.out.1.below ((Below.refl _ _).alloc (Nat.le_refl _) _), D5.out.2.allocHigh _⟩)
  have y0 := X6.z0
  have y1 := X6.z1
  have e0 := X6.f0
  have e1 := X6.f1
  have hz6 := X6.lt
  rw [← hW6]
  clear hW6 z0 z1 f0 f1 hz X5 X6 D5
  refine wp_region_any (by kernel_rfl) ?_
  change wpAny _ _ _ _ _ _ _ (World.drew _)
  refine wpAny_take (i := 1) (v := (.int .i64 20)) rfl (by kernel_rfl) (by kernel_rfl) (by kernel_rfl) (fun _ _ _ h => h) (Or.inl ⟨by rfl, fun w => by go_simp⟩) ?_
  simp only [Act.put, List.getElem_toArray, List.getElem_cons_succ, List.getElem_cons_zero, List.setIfInBounds_toArray, List.set_cons_succ, List.set_cons_zero]
  refine wpAny_take (i := 2) (v := (.int .i64 20)) rfl (by kernel_rfl) (by kernel_rfl) (by kernel_rfl) (fun _ _ _ h => h) (Or.inl ⟨by rfl, fun w => by go_simp⟩) ?_
  simp only [Act.put, List.getElem_toArray, List.getElem_cons_succ, List.getElem_cons_zero, List.setIfInBounds_toArray, List.set_cons_succ, List.set_cons_zero]
  refine wpAny_take (i := 3) (v := (.bool true)) rfl (by kernel_rfl) (by kernel_rfl) (by kernel_rfl) (fun _ _ _ h => h) (Or.inl ⟨by rfl, fun w => by go_simp⟩) ?_
  simp only [Act.put, List.getElem_toArray, List.getElem_cons_succ, List.getElem_cons_zero, List.setIfInBounds_toArray, List.set_cons_succ, List.set_cons_zero]
  refine wpAny_take (i := 4) (v := (.bool true)) rfl (by kernel_rfl) (by kernel_rfl) (by kernel_rfl) (fun _ _ _ h => h) (Or.inl ⟨by rfl, fun w => by go_simp⟩) ?_
  simp only [Act.put, List.getElem_toArray, List.getElem_cons_succ, List.getElem_cons_zero, List.setIfInBounds_toArray, List.set_cons_succ, List.set_cons_zero]
  refine wpAny_take (i := 5) (v := (.int .i64 20)) rfl (by kernel_rfl) (by kernel_rfl) (by kernel_rfl) (fun _ _ _ h => h) (Or.inl ⟨by rfl, fun w => by go_simp⟩) ?_
  simp only [Act.put, List.getElem_toArray, List.getElem_cons_succ, List.getElem_cons_zero, List.setIfInBounds_toArray, List.set_cons_succ, List.set_cons_zero]
  refine wpAny_take (i := 6) (v := (.bool true)) rfl (by kernel_rfl) (by kernel_rfl) (by kernel_rfl) (fun _ _ _ h => h) (Or.inl ⟨by rfl, fun w => by go_simp⟩) ?_
  simp only [Act.put, List.getElem_toArray, List.getElem_cons_succ, List.getElem_cons_zero, List.setIfInBounds_toArray, List.set_cons_succ, List.set_cons_zero]
  refine wpAny_take (i := 7) (v := (.bool true)) rfl (by kernel_rfl) (by kernel_rfl) (by kernel_rfl) (fun _ _ _ h => h) (Or.inl ⟨by rfl, fun w => by go_simp⟩) ?_
  simp only [Act.put, List.getElem_toArray, List.getElem_cons_succ, List.getElem_cons_zero, List.setIfInBounds_toArray, List.set_cons_succ, List.set_cons_zero]
  refine wpAny_take (i := 8) (v := (.int .u8 0)) rfl (by kernel_rfl) (by kernel_rfl) (by kernel_rfl) (fun _ _ _ h => h) (Or.inl ⟨by rfl, fun w => by go_simp⟩) ?_
  simp only [Act.put, List.getElem_toArray, List.getElem_cons_succ, List.getElem_cons_zero, List.setIfInBounds_toArray, List.set_cons_succ, List.set_cons_zero]
  refine wpAny_take (i := 9) (v := (.bool true)) rfl (by kernel_rfl) (by kernel_rfl) (by kernel_rfl) (fun _ _ _ h => h) (Or.inl ⟨by rfl, fun w => by go_simp⟩) ?_
  simp only [Act.put, List.getElem_toArray, List.getElem_cons_succ, List.getElem_cons_zero, List.setIfInBounds_toArray, List.set_cons_succ, List.set_cons_zero]
  refine wpAny_take (i := 10) (v := (.bool true)) rfl (by kernel_rfl) (by kernel_rfl) (by kernel_rfl) (fun _ _ _ h => h) (Or.inl ⟨by rfl, fun w => by go_simp⟩) ?_
  simp only [Act.put, List.getElem_toArray, List.getElem_cons_succ, List.getElem_cons_zero, List.setIfInBounds_toArray, List.set_cons_succ, List.set_cons_zero]
  refine wpAny_take (i := 11) (v := (.bool true)) rfl (by kernel_rfl) (by kernel_rfl) (by kernel_rfl) (fun _ _ _ h => h) (Or.inl ⟨by rfl, fun w => by go_simp⟩) ?_
  simp only [Act.put, List.getElem_toArray, List.getElem_cons_succ, List.getElem_cons_zero, List.setIfInBounds_toArray, List.set_cons_succ, List.set_cons_zero]
  refine wpAny_take (i := 12) (v := undef) rfl (by kernel_rfl) (by kernel_rfl) (by kernel_rfl) (fun _ _ _ h => h) (Or.inr ⟨by rfl, rfl⟩) ?_
  simp only [Act.put, List.getElem_toArray, List.getElem_cons_succ, List.getElem_cons_zero, List.setIfInBounds_toArray, List.set_cons_succ, List.set_cons_zero]
  refine wpAny_take (i := 13) (v := undef) rfl (by kernel_rfl) (by kernel_rfl) (by kernel_rfl) (fun _ _ _ h => h) (Or.inr ⟨by rfl, rfl⟩) ?_
  simp only [Act.put, List.getElem_toArray, List.getElem_cons_succ, List.getElem_cons_zero, List.setIfInBounds_toArray, List.set_cons_succ, List.set_cons_zero]
  refine wpAny_take (i := 14) (v := undef) rfl (by kernel_rfl) (by kernel_rfl) (by kernel_rfl) (fun _ _ _ h => h) (Or.inr ⟨by rfl, rfl⟩) ?_
  simp only [Act.put, List.getElem_toArray, List.getElem_cons_succ, List.getElem_cons_zero, List.setIfInBounds_toArray, List.set_cons_succ, List.set_cons_zero]
  refine wpAny_take (i := 15) (v := undef) rfl (by kernel_rfl) (by kernel_rfl) (by kernel_rfl) (fun _ _ _ h => h) (Or.inr ⟨by rfl, rfl⟩) ?_
  simp only [Act.put, List.getElem_toArray, List.getElem_cons_succ, List.getElem_cons_zero, List.setIfInBounds_toArray, List.set_cons_succ, List.set_cons_zero]
  refine wpAny_take (i := 16) (v := undef) rfl (by kernel_rfl) (by kernel_rfl) (by kernel_rfl) (fun _ _ _ h => h) (Or.inr ⟨by rfl, rfl⟩) ?_
  simp only [Act.put, List.getElem_toArray, List.getElem_cons_succ, List.getElem_cons_zero, List.setIfInBounds_toArray, List.set_cons_succ, List.set_cons_zero]
  refine wpAny_take (i := 17) (v := undef) rfl (by kernel_rfl) (by kernel_rfl) (by kernel_rfl) (fun _ _ _ h => h) (Or.inr ⟨by rfl, rfl⟩) ?_
  simp only [Act.put, List.getElem_toArray, List.getElem_cons_succ, List.getElem_cons_zero, List.setIfInBounds_toArray, List.set_cons_succ, List.set_cons_zero]
  refine wpAny_take (i := 18) (v := undef) rfl (by kernel_rfl) (by kernel_rfl) (by kernel_rfl) (fun _ _ _ h => h) (Or.inr ⟨by rfl, rfl⟩) ?_
  simp only [Act.put, List.getElem_toArray, List.getElem_cons_succ, List.getElem_cons_zero, List.setIfInBounds_toArray, List.set_cons_succ, List.set_cons_zero]
  refine wpAny_take (i := 19) (v := undef) rfl (by kernel_rfl) (by kernel_rfl) (by kernel_rfl) (fun _ _ _ h => h) (Or.inr ⟨by rfl, rfl⟩) ?_
  simp only [Act.put, List.getElem_toArray, List.getElem_cons_succ, List.getElem_cons_zero, List.setIfInBounds_toArray, List.set_cons_succ, List.set_cons_zero]
  refine wpAny_take (i := 20) (v := undef) rfl (by kernel_rfl) (by kernel_rfl) (by kernel_rfl) (fun _ _ _ h => h) (Or.inr ⟨by rfl, rfl⟩) ?_
  simp only [Act.put, List.getElem_toArray, List.getElem_cons_succ, List.getElem_cons_zero, List.setIfInBounds_toArray, List.set_cons_succ, List.set_cons_zero]
  refine wpAny_take (i := 21) (v := (.bool true)) rfl (by kernel_rfl) (by kernel_rfl) (by kernel_rfl) (fun _ _ _ h => h) (Or.inl ⟨by rfl, fun w => by go_simp⟩) ?_
  simp only [Act.put, List.getElem_toArray, List.getElem_cons_succ, List.getElem_cons_zero, List.setIfInBounds_toArray, List.set_cons_succ, List.set_cons_zero]
  refine wpAny_take (i := 22) (v := (.bool true)) rfl (by kernel_rfl) (by kernel_rfl) (by kernel_rfl) (fun _ _ _ h => h) (Or.inl ⟨by rfl, fun w => by go_simp⟩) ?_
  simp only [Act.put, List.getElem_toArray, List.getElem_cons_succ, List.getElem_cons_zero, List.setIfInBounds_toArray, List.set_cons_succ, List.set_cons_zero]
  refine wpAny_ready (rs := [0]) (by kernel_rfl) (by simp) ?_
  refine AllReady.cons rfl (fun K hK => ?_) AllReady.nil
  go_simp
  refine hK _ _ ?_
  try simp only [Act.put, List.getElem_toArray, List.getElem_cons_succ, List.getElem_cons_zero, List.setIfInBounds_toArray, List.set_cons_succ, List.set_cons_zero]
  refine wpAny_ready (rs := [23]) (by kernel_rfl) (by simp) ?_
  refine AllReady.cons rfl (fun K hK => ?_) AllReady.nil
  go_simp
  refine hK _ _ ?_
  try simp only [Act.put, List.getElem_toArray, List.getElem_cons_succ, List.getElem_cons_zero, List.setIfInBounds_toArray, List.set_cons_succ, List.set_cons_zero]
  refine wpAny_take (i := 24) (v := (.bool true)) rfl (by kernel_rfl) (by kernel_rfl) (by kernel_rfl) (fun _ _ _ h => h) (Or.inl ⟨by rfl, fun w => by go_simp⟩) ?_
  simp only [Act.put, List.getElem_toArray, List.getElem_cons_succ, List.getElem_cons_zero, List.setIfInBounds_toArray, List.set_cons_succ, List.set_cons_zero]
  refine wpAny_done (by kernel_rfl) ?_ _
  go_wp2
  exact bodyPost_ret (v := .tuple #[rv B n cb at_, .bool true]) (by simp [results, Try.results50, go_sem, y0, y1, hz6]) rfl ⟨rfl, did_fin2 H0.out HB.out D6.out _ _ (by omega)⟩

set_option maxRecDepth 100000 in
set_option maxHeartbeats 3200000 in
theorem read_bytes (p n c at_ cb kd ny cy : Nat) (N M X : Int) (A B Y : Option Addr) (bs : List Int) (w : World) (h : Rdr w p A n c bs at_) (hn : n ≤ 100000000) (hs : Sees w 1 B n cb (bs.map (Value.int .u8))) (ho : 0 < n → Off p B) (hk : kd % 8 = 1) (hk2 : kd < 256) :
    Calls Try.prog 50 #[.pointer (some ⟨p, 0, none⟩), rv B n cb at_, av kd N M X Y ny cy] w fun e w' => e = .returned (.tuple #[rv B n cb (takeF bs n at_ N).1, .bool true]) ∧ Did p n c (takeF bs n at_ N).1 A bs w w' := by
  have hk3 : (kd : Int) % 8 = 1 := by omega
  have hk4 : (kd : Int) ≤ 255 := by omega
  obtain ⟨at', ys, er, hF⟩ : ∃ at' ys er, takeF bs n at_ N = (at', ys, er) := ⟨_, _, _, rfl⟩
  rw [hF]
  have hyl : ys.length ≤ n := by
    have : (takeF bs n at_ N).2.1.length ≤ n := by
      unfold takeF
      split
      · simp
      · split
        · simp
        · show ((bs.drop at_).take N.toNat).length ≤ n
          rw [List.length_take, List.length_drop, h.len]; omega
    rwa [hF] at this
  have HYL := Lib.hid hyl
  have HF := Lib.hid hF
  have hX := rx_bx w B n cb at_ kd N M X Y ny cy
  have hBx := rx_below w B n cb at_ kd N M X Y ny cy
  have q0 := hX.k0
  have q1 := hX.k1
  have HR := Lib.hid (h.below hBx)
  have HS := Lib.hid (hs.below hBx (Nat.le_refl _))
  have HX := Lib.hid hX
  have HB := Lib.hid hBx
  have HP := Lib.hid h.plt
  have HLE := Lib.hid h.le
  have H0 := Lib.hid h
  clear h hs hX hBx hF hk hk2 hyl
  go_enter Try.func50, Try.ntmps50
  go_wp2_with (first
    | (go_at_call 30; refine (SameBytes_any _ _ _ _ _ _ ys ys _ (by exact (sees_own o5.out).below ((Below.refl _ _).alloc (Nat.le_refl _) _) (Nat.le_refl _)) (by exact (sees_own t5.out).below ((Below.refl _ _).alloc (Nat.le_refl _) _) (Nat.le_refl _))).mono ?_; rw [eqL_self]; rintro e w6 ⟨rfl, k6⟩)
    | (go_at_call 56; refine (refTake_any B n cb at_ N bs _ s4.out HLE.out hn).mono ?_; rw [HF.out]; rintro e w5 ⟨A5, m5, c5, rfl, t5, k5⟩; have X5 := Lib.hid (X4.out.below k5); have D5 := Lib.hid (And.intro (h4.out.1.below k5) (h4.out.2.trans (Keeps.of_below k5))); have o5 := Lib.hid (own_below o4.out k5 (Nat.le_refl _)); have t5 := Lib.hid t5; have hm45 : Hid (m5 = m4) := Lib.hid (by have h1 := t5.out.1; have h2 := o4.out.1; simp at h1 h2; omega))
    | (go_at_call 29; change Calls _ _ _ (rx w B n cb at_ kd N M X Y ny cy) _; refine (Bytes_any _ _ _ _ N _ bs _ HR.out hn).mono ?_; rw [HF.out]; rintro e w4 ⟨A4, m4, c4, rfl, o4, h4⟩; have X4 := Lib.hid (HX.out.keeps h4.2 HP.out); have a0 := X4.out.a0; have a1 := X4.out.a1; have k1 := X4.out.k1; have s4 := Lib.hid (HS.out.keeps0 h4.2 ho); have o4 := Lib.hid o4; have h4 := Lib.hid h4))
  have HG : Hid ((rx w B n cb at_ kd N M X Y ny cy).heap.size = w.heap.size + 3) := Lib.hid (by unfold rx; simp)
  have HA4 : Hid (∀ g, A4 = some ⟨g, 0, none⟩ → g < w5.heap.size) := Lib.hid (fun g hg => by subst hg; exact own_glt o5.out)
  have X6 := Lib.hid ((X5.out.below ((Below.refl _ _).alloc (Nat.le_refl _) (.cells #[.slice B n cb, .int .i64 (at' : Int)] 88))).below k6)
  have E6 : Hid (w6.heap[w5.heap.size]? = some (.cells #[.slice B n cb, .int .i64 (at' : Int)] 88 (0, 0))) := Lib.hid (by rw [k6.block _ (by simp)]; exact heap_alloc_new _ _)
  have kk := (D5.out.2.allocHigh (.cells #[.slice B n cb, .int .i64 (at' : Int)] 88)).trans (Keeps.of_below k6)
  have D6 : Hid (w6.heap[p]? = some (.cells #[.slice A n c, .int .i64 (at' : Int), .pointer (some ⟨p, 0, none⟩)] 77 (0, 0)) ∧ Keeps p w w6) := Lib.hid ⟨((D5.out.1.below ((Below.refl _ _).alloc (Nat.le_refl _) _)).below k6).obj, (Keeps.of_below HB.out).trans kk⟩
  have o6 := own_below (own_below o5.out ((Below.refl _ _).alloc (Nat.le_refl _) (.cells #[.slice B n cb, .int .i64 (at' : Int)] 88)) (Nat.le_refl _)) k6 (Nat.le_refl _)
  have HLE2 : Hid (at' ≤ n) := Lib.hid D5.out.1.le
  have hm4 : (m4 : Int) ≤ 100000000 := by have h1 := o4.out.1; have h2 := HYL.out; simp at h1; omega
  clear k6 kk X5 D5 t5 h4 X4 s4
  go_loopw [96] (fun i wr => ∃ (j : Nat) (zs : List Int), i = .int .i64 (j : Int) ∧ j ≤ m4 ∧ wr.ownsRow (rx w B n cb at_ kd N M X Y ny cy).heap.size 5 1 (.slice A4 m4 c4) m4 (zs.map (Value.int .u8)) ∧ Hid (Bx3 wr w.heap.size B n cb at_ kd N M X Y ny cy) ∧ Hid (wr.heap[w5.heap.size]? = some (.cells #[.slice B n cb, .int .i64 (at' : Int)] 88 (0, 0))) ∧ Hid (wr.heap[p]? = some (.cells #[.slice A n c, .int .i64 (at' : Int), .pointer (some ⟨p, 0, none⟩)] 77 (0, 0)) ∧ Keeps p w wr)) (fun i _ => m4 - (intOf i).toNat)
  case atStart => exact ⟨0, ys, rfl, Nat.zero_le _, o6, X6, E6, D6⟩
  case round =>
    obtain ⟨j, zs, rfl, hj, hrow, HX7, HE7, HD7⟩ := hrel
    by_cases hlt : j < m4
    · obtain ⟨g, cg, hA, hg⟩ := own_addrK hrow (by omega)
      cases hA
      obtain ⟨e1, e2⟩ := own_cellK hrow hlt
      have hset := own_setK hrow j 77
      have hg5 := HA4.out g rfl
      have hgs := HG.out
      have hX8 : Hid (Bx3 (wr.setCell ⟨g, j, none⟩ (.int .u8 77)) w.heap.size B n cb at_ kd N M X Y ny cy) := Lib.hid ⟨by rw [heap_sc (by omega)]; exact HX7.out.o0, by rw [heap_sc (by omega)]; exact HX7.out.o1, by rw [heap_sc (by omega)]; exact HX7.out.o2⟩
      have hE8 : Hid ((wr.setCell ⟨g, j, none⟩ (.int .u8 77)).heap[w5.heap.size]? = some (.cells #[.slice B n cb, .int .i64 (at' : Int)] 88 (0, 0))) := Lib.hid (by rw [heap_sc (by omega)]; exact HE7.out)
      have hD8 : Hid ((wr.setCell ⟨g, j, none⟩ (.int .u8 77)).heap[p]? = some (.cells #[.slice A n c, .int .i64 (at' : Int), .pointer (some ⟨p, 0, none⟩)] 77 (0, 0)) ∧ Keeps p w (wr.setCell ⟨g, j, none⟩ (.int .u8 77))) := Lib.hid ⟨by rw [heap_sc (by have := HP.out; omega)]; exact HD7.out.1, HD7.out.2.setHigh ⟨g, j, none⟩ _ (by show w.heap.size ≤ g; omega)⟩
      generalize zs.getD j 0 = old at e1
      clear hg5 hgs hg
      go_wp2
      go_roundw
      case rel => exact ⟨j + 1, zs.set j 77, by go_num, by omega, hset, hX8, hE8, hD8⟩
      case measure => simp [intOf]; omega
    · obtain rfl : j = m4 := by omega
      have z0 := HX7.out.z0
      have z1 := HX7.out.z1
      have f0 := HX7.out.f0
      have f1 := HX7.out.f1
      have hz := HX7.out.lt
      have y0 := cell_zero HE7.out
      have y1 := cell_one HE7.out
      clear hlt hrow
      go_wp2
      exact bodyPost_ret (v := .tuple #[rv B n cb at', .bool true]) (by simp [results, Try.results50, go_sem, z0, z1, hz]) rfl ⟨rfl, did_fin3 H0.out HD7.out _ _ (b := w.heap.size + 2) (Nat.le_add_right _ _) HLE2.out⟩
end Go.Proofs.Ytgngeachgkappaa
