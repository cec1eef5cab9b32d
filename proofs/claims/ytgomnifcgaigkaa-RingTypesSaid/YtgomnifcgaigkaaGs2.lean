/- Put: rings of strings. Printed by gen_ringt.py. -/
import Derived.Test.YtgomnifcgaigkaaProg
import Derived.Test.YtgomnifcgaigkaaGs1
import Derived.Test.YtgomnifcgaigkaaGf
namespace Go.Proofs.Ytgomnifcgaigkaa
open Go.RowKit Go.Shelf
set_option linter.unusedVariables false
attribute [local go_sem] Oper.semAt_some

open Go.RowKit Go.Shelf
set_option linter.unusedVariables false

theorem ceS_s (x : ByteArray × Int) : (ceS x).length = 2 := rfl

theorem put_doneS {w : World} {B p g n c f t : Nat} {o ac rf cap : Int} {L : List (ByteArray × Int)} {x : ByteArray} {xs : List Value} (h : RingS w B p g (some ⟨g, 0, none⟩) n c f o ac rf cap L) (hr : w.ownsRow B 69 2 (.slice (some ⟨g, 0, none⟩) n c) n xs) (hH : Holds 2 ceS f n xs L)
    (hT : (f + L.length) % n = t ∧ f < n ∧ L.length < n ∧ t < n) (hne : p ≠ g) (k : Nat) :
    RingS ((((((w.drewN k).setCell ⟨g, t * 2, none⟩ (.string x)).setCell ⟨g, t * 2 + 1, none⟩ (.int .i64 o)).setCell ⟨p, 2, none⟩ (.int .i64 ((L.length : Int) + 1))).setCell ⟨p, 3, none⟩ (.int .i64 0)).setCell ⟨p, 4, none⟩ (.int .i64 (ac + 1))) B p g (some ⟨g, 0, none⟩) n c f 0 (ac + 1) rf cap (L ++ [(x, o)]) ∧
    Spared p g w ((((((w.drewN k).setCell ⟨g, t * 2, none⟩ (.string x)).setCell ⟨g, t * 2 + 1, none⟩ (.int .i64 o)).setCell ⟨p, 2, none⟩ (.int .i64 ((L.length : Int) + 1))).setCell ⟨p, 3, none⟩ (.int .i64 0)).setCell ⟨p, 4, none⟩ (.int .i64 (ac + 1))) := by
  obtain ⟨ht, hf, hl, htn⟩ := hT
  refine ⟨⟨h.bp, h.bg, by simpa [setCell_size] using h.glt, ?_, ⟨_, own_at (((own_at (w' := w.drewN k) hr rfl).stored (t * 2) (.string x)).1.stored (t * 2 + 1) (.int .i64 o)).1 ?_, hH.put2 ceS_s hf hl ht rfl hr.1⟩, .inr rfl, by simp; omega, h.nle, h.cap1, .inl hf⟩, (((((((Spared.refl p g w).drewN k).setG _ _).setG _ _).setP _ _).setP _ _).setP _ _)⟩
  · have e : (((w.drewN k).setCell ⟨g, t * 2, none⟩ (.string x)).setCell ⟨g, t * 2 + 1, none⟩ (.int .i64 o)).heap[p]? = w.heap[p]? := by rw [Below.heap_setCell _ _ _ _ hne, Below.heap_setCell _ _ _ _ hne]; rfl
    have e2 := heap_setCell_same _ p 4 _ _ (.int .i64 (ac + 1)) (heap_setCell_same _ p 3 _ _ (.int .i64 0) (heap_setCell_same _ p 2 _ _ (.int .i64 ((L.length : Int) + 1)) (e.trans h.obj)))
    rw [e2]
    simp
  · rw [Below.heap_setCell _ _ _ _ (Ne.symm hne), Below.heap_setCell _ _ _ _ (Ne.symm hne), Below.heap_setCell _ _ _ _ (Ne.symm hne)]

set_option maxRecDepth 100000 in
set_option maxHeartbeats 1600000 in
theorem PutS_full (B p g : Nat) (A : Option Addr) (n c f : Nat) (o ac rf cap : Int) (L : List (ByteArray × Int)) (x : ByteArray) (w : World) (h : RingS w B p g A n c f o ac rf cap L) (hb : 0 ≤ o ∧ o ≤ 1000000000 ∧ 0 ≤ rf ∧ rf ≤ 1000000000) (hl : (L.length : Int) = cap) :
    Calls Try.prog 30 #[.pointer (some ⟨p, 0, none⟩), .string x] w fun e w' => e = .returned (.int .i64 4) ∧ RingS w' B p g A n c f (o + 1) ac (rf + 1) cap L ∧ Spared p g w w' := by
  have c2 := h.c2
  have c3 := h.c3
  have c5 := h.c5
  have c6 := h.c6
  have f3 := h.free 3
  have f5 := h.free 5
  have H := Lib.hid h
  have d1 : ((L.length : Int) == cap) = true := by simpa using hl
  obtain ⟨hb1, hb2, hb3, hb4⟩ := hb
  clear h hl
  go_enter Try.func30, Try.ntmps30
  go_wp2_with (go_at_call 49; refine (noneS_any _ _ _ _ _ _ _ _ _ _ _ _ _ H.out).mono ?_; rintro e w' ⟨rfl, rfl⟩)
  go_quiet (fail)
  go_wp2
  go_ret
  refine ⟨rfl, H.out.setP (by decide) (by simp [World.setCell]) (fun hne => ?_) ?_ (fun _ h => h) H.out.le H.out.first, (((Spared.refl p g w).drewN nq).setP _ _).setP _ _⟩
  · rw [Below.heap_setCell _ _ _ _ hne, Below.heap_setCell _ _ _ _ hne]; rfl
  · exact heap_setCell_same _ p 5 _ _ _ (heap_setCell_same (w.drewN nq) p 3 _ _ _ H.out.obj)

set_option maxRecDepth 100000 in
set_option maxHeartbeats 1600000 in
theorem PutS_room (B p g : Nat) (A : Option Addr) (n c f : Nat) (o ac rf cap : Int) (L : List (ByteArray × Int)) (x : ByteArray) (w : World) (h : RingS w B p g A n c f o ac rf cap L) (hb : 0 ≤ o ∧ o ≤ 1000000000 ∧ 0 ≤ ac ∧ ac ≤ 1000000000) (hl : L.length < n) :
    Calls Try.prog 30 #[.pointer (some ⟨p, 0, none⟩), .string x] w fun e w' => e = .returned (.int .i64 0) ∧ RingS w' B p g A n c f 0 (ac + 1) rf cap (L ++ [(x, o)]) ∧ Spared p g w w' := by
  have c0 := h.c0
  have c1 := h.c1
  have c2 := h.c2
  have c3 := h.c3
  have c4 := h.c4
  have c6 := h.c6
  have f2 := h.free 2
  have f3 := h.free 3
  have f4 := h.free 4
  have H := Lib.hid h
  have hnle := h.nle
  have hcap1 := h.cap1
  have hf1 := h.first
  have hf : f < n := by omega
  have d1 : ((L.length : Int) == cap) = false := by simp; omega
  have d2 : ((L.length : Int) == (n : Int)) = false := by simp; omega
  have d2' : (L.length == n) = false := by simp; omega
  obtain ⟨xs, hrow, hH⟩ := h.row
  obtain ⟨hb1, hb2, hb3, hb4⟩ := hb
  obtain rfl : A = some ⟨g, 0, none⟩ := by
    rcases h.at_ with e | e
    · subst e
      rcases hrow.2 with ⟨_, e0⟩ | ⟨g', cp, cur, hv, _⟩
      · omega
      · cases hv
    · exact e
  obtain ⟨t, ht⟩ : ∃ t, (f + L.length) % n = t := ⟨_, rfl⟩
  have htn : t < n := by rw [← ht]; exact Nat.mod_lt _ (by omega)
  have e0 : ((f + L.length : Nat) : Int) = (f : Int) + (L.length : Int) := by omega
  have e1 : IntKind.i64.wrap ((f : Int) + (L.length : Int)) = (f : Int) + (L.length : Int) := IntWalk.i64_in _ (by omega)
  have e2 : ((f : Int) + (L.length : Int)).tmod (n : Int) = (t : Int) := by
    rw [← e0, ← ht, Int.tmod_eq_emod_of_nonneg (by omega)]; norm_cast
  have z1 : ¬ (n : Int) = 0 := by omega
  have z2 : ((n : Int) == 0) = false := by simp; omega
  have z3 : ¬ n = 0 := by omega
  have hlen1 : (L.length : Int) ≤ 65536 := by omega
  have hne : p ≠ g := h.ne (by decide) (by simp)
  have g0 := hrow.frozenAt (t * 2)
  have g1 := hrow.frozenAt (t * 2 + 1)
  have hx : xs.length = n * 2 := hrow.1
  have s0 : ∃ u, w.cell? ⟨g, t * 2, none⟩ = some u := ⟨_, (hrow.cellAt (t * 2) (by omega)).trans (List.getElem?_eq_getElem (by omega))⟩
  have s1 : ∃ u, w.cell? ⟨g, t * 2 + 1, none⟩ = some u := ⟨_, (hrow.cellAt (t * 2 + 1) (by omega)).trans (List.getElem?_eq_getElem (by omega))⟩
  obtain ⟨u0, s0⟩ := s0
  obtain ⟨u1, s1⟩ := s1
  have HT := Lib.hid (And.intro ht (And.intro hf (And.intro hl htn)))
  have HR := Lib.hid hrow
  have HH := Lib.hid hH
  have HNE := Lib.hid hne
  clear h ht e0 hf hl hnle hcap1 hf1 hrow hH hx
  go_enter Try.func30, Try.ntmps30
  go_wp2_with (go_at_call 49; refine (noneS_any _ _ _ _ _ _ _ _ _ _ _ _ _ H.out).mono ?_; rintro e w' ⟨rfl, rfl⟩)
  go_quiet (fail)
  go_wp2
  go_quiet (fail)
  go_wp2
  refine wpD_region_still_tail 26 (by kernel_rfl) (by kernel_rfl) ?_
  simp only [List.take_succ_cons, List.take_zero, List.drop_succ_cons, List.drop_zero]
  repeat still_step
  refine wpStill_nil ?_
  go_wp2
  go_ret
  exact ⟨rfl, put_doneS H.out HR.out HH.out HT.out HNE.out _⟩

theorem grow_doneS {w : World} {B p g g3 n c f m c3 b0 : Nat} {A : Option Addr} {o ac rf cap : Int} {L : List (ByteArray × Int)} {ys : List Value} (h : RingS w B p g A n c f o ac rf cap L) (hrow : w.ownsRow b0 69 2 (.slice (some ⟨g3, 0, none⟩) m c3) m (L.flatMap ceS ++ ys)) (hb : B ≤ b0)
    (hne : p ≠ g3) (hg3 : g3 < w.heap.size) (hb3 : b0 ≤ g3) (hm1 : L.length < m) (hm3 : (m : Int) ≤ cap) (u : Value) :
    RingS (((w.setCell ⟨p, 0, none⟩ u).setCell ⟨p, 1, none⟩ (.int .i64 0)).setCell ⟨p, 0, none⟩ (.slice (some ⟨g3, 0, none⟩) m c3)).drew B p g3 (some ⟨g3, 0, none⟩) m c3 0 o ac rf cap L := by
  refine h.setRow (by show _ ≤ (((w.setCell _ _).setCell _ _).setCell _ _).heap.size; simp only [setCell_size]; exact Nat.le_refl _) (by omega) (by show g3 < (((w.setCell _ _).setCell _ _).setCell _ _).heap.size; simp only [setCell_size]; exact hg3) ?_ ceS_s (own_base (own_at hrow ?_) hb) (fun k hk => ?_) hm1 hm3
  · exact heap_setCell_same _ p 0 _ _ (.slice (some ⟨g3, 0, none⟩) m c3) (heap_setCell_same _ p 1 _ _ (.int .i64 0) (heap_setCell_same w p 0 _ _ u h.obj))
  · show (((w.setCell _ _).setCell _ _).setCell _ _).heap[g3]? = _
    rw [Below.heap_setCell _ _ _ _ (Ne.symm hne), Below.heap_setCell _ _ _ _ (Ne.symm hne), Below.heap_setCell _ _ _ _ (Ne.symm hne)]
  · rw [List.getElem?_append_left (by rw [ceS_len]; exact hk)]

set_option maxRecDepth 100000 in
set_option maxHeartbeats 3200000 in
theorem PutS_grow (B p g : Nat) (A : Option Addr) (n c f : Nat) (o ac rf cap : Int) (L : List (ByteArray × Int)) (x : ByteArray) (w : World) (h : RingS w B p g A n c f o ac rf cap L) (hb : 0 ≤ o ∧ o ≤ 1000000000 ∧ 0 ≤ ac ∧ ac ≤ 1000000000) (hl : L.length = n) (hl2 : (n : Int) < cap) :
    Calls Try.prog 30 #[.pointer (some ⟨p, 0, none⟩), .string x] w fun e w' => ∃ g' m c', e = .returned (.int .i64 0) ∧ RingS w' B p g' (some ⟨g', 0, none⟩) m c' 0 0 (ac + 1) rf cap (L ++ [(x, o)]) ∧ w.heap.size ≤ g' ∧ Spared p g w w' := by
  have c0 := h.c0
  have c2 := h.c2
  have c6 := h.c6
  have f0 := h.free 0
  have f1 := h.free 1
  have H := Lib.hid h
  have hcap1 := h.cap1
  have hplt := h.plt
  have d1 : ((L.length : Int) == cap) = false := by simp; omega
  have d2 : ((L.length : Int) == (n : Int)) = true := by simp; omega
  have d2' : (L.length == n) = true := by simp; omega
  obtain ⟨hb1, hb2, hb3, hb4⟩ := hb
  have HL := Lib.hid (And.intro hl hl2)
  clear h hl hl2
  go_enter Try.func30, Try.ntmps30
  go_wp2_with (go_at_call 49; refine (noneS_any _ _ _ _ _ _ _ _ _ _ _ _ _ H.out).mono ?_; rintro e w' ⟨rfl, rfl⟩)
  go_quiet (fail)
  obtain ⟨nq1, rfl⟩ : ∃ k, k = nq := ⟨_, rfl⟩
  go_wp2
  go_quiet (fail)
  have ha : RingS ((w.drewN nq1).drewN nq) B p g A n c f o ac rf cap L := H.out.keep (Nat.le_refl _) rfl rfl
  have hsp : Spared p g w ((w.drewN nq1).drewN nq) := ((Spared.refl _ _ _).drewN _).drewN _
  have hwz : w.heap.size = ((w.drewN nq1).drewN nq).heap.size := rfl
  clear c0 c2 c6 f0 f1 hplt
  generalize (w.drewN nq1).drewN nq = wa at ha hsp hwz ⊢
  have hb1 : Below wa.heap.size wa (wa.alloc (.cells #[.pointer (some ⟨p, 0, none⟩)] 61)) := (Below.refl _ _).alloc (Nat.le_refl _) _
  have HB1 := Lib.hid hb1
  have HA := Lib.hid ha
  have HS := Lib.hid hsp
  have HZ := Lib.hid hwz
  have HC := Lib.hid (ha.below hb1 ha.plt ha.glt)
  have HX := Lib.hid (Boxed.new wa 61 (.pointer (some ⟨p, 0, none⟩))).cell
  clear ha hsp hwz hb1
  go_wp2_with (first
    | (go_at_call 50; refine (GrowS_any _ _ _ _ _ _ O2.out.1 (by have := HL.out; omega) O2.out.2.size).mono ?_; rintro e w3 ⟨A3, c3, rfl, o3, h3, b3⟩
       have hB3 : Below wa.heap.size wa w3 := HB1.out.trans ((O2.out.2.mono (by simp)).trans (b3.mono (by have := O2.out.2.size; simp at this; omega)))
       have R3 := HA.out.below hB3 HA.out.plt HA.out.glt
       obtain ⟨m, hmin, hm1, hm2, hm3⟩ := room_of L.length c3 cap h3 (by have := HL.out; omega)
       obtain ⟨g3, ys, rfl, hg3, hlt3, o4⟩ := own_extend o3 (Nat.le_of_lt hm1) hm2 (by omega)
       have hcut := fun w => run_cutr E_SS (some ⟨g3, 0, none⟩) L.length c3 m hm2 w
       have q0 := R3.c0
       have q1 := R3.c1
       have q6 := R3.c6
       have f0 := R3.free 0
       have f1 := R3.free 1
       have HR3 := Lib.hid (And.intro R3 (And.intro hB3 (And.intro hm1 (And.intro hm3 (And.intro hg3 (And.intro hlt3 o4))))))
       clear R3 hB3 hm1 hm2 hm3 hg3 hlt3 o3 o4 h3 b3)
    | (go_at_call 52; refine (eachS_any _ _).mono ?_; rintro e w' ⟨rfl, rfl⟩)
    | (go_at_call 51; refine (CollectS_any wa.heap.size wa.heap.size _ p g _ _ _ _ _ _ _ _ L _ HA.out.plt HA.out.glt (by simp) (by simp) HX.out HC.out).mono ?_; rintro e w2 ⟨A2, c2, rfl, o2, b2⟩; have O2 := Lib.hid (And.intro o2 b2); clear o2 b2))
  refine wpD_region_still_tail 18 (by kernel_rfl) (by kernel_rfl) ?_
  simp only [List.take_succ_cons, List.take_zero, List.drop_succ_cons, List.drop_zero]
  repeat still_step
  refine wpStill_nil ?_
  go_wp2
  obtain ⟨R3, hB3, hm1, hm3, hg3, hlt3, o4⟩ := HR3.out
  have hpa := HA.out.plt
  have hne : p ≠ g3 := by simp at hg3; omega
  have R4 := grow_doneS R3 o4 (by have := HA.out.bp; simp; omega) hne hlt3 hg3 hm1 hm3 (.slice (some ⟨g3, 0, none⟩) L.length c3)
  have S4 : Spared p g w (((w3.setCell ⟨p, 0, none⟩ (.slice (some ⟨g3, 0, none⟩) L.length c3)).setCell ⟨p, 1, none⟩ (.int .i64 0)).setCell ⟨p, 0, none⟩ (.slice (some ⟨g3, 0, none⟩) m c3)).drew := ((((HS.out.then hB3 (Nat.le_refl _)).setP _ _).setP _ _).setP _ _).drew
  have hg4 : w.heap.size ≤ g3 := by have := HZ.out; simp at hg3; omega
  have HG4 := Lib.hid (And.intro hg4 hne)
  clear q0 q1 q6 f0 f1 hmin hcut R3 hB3 hg3 hlt3 o4 HR3 hpa hg4 HC HX HB1 HS HZ
  generalize (((w3.setCell ⟨p, 0, none⟩ (.slice (some ⟨g3, 0, none⟩) L.length c3)).setCell ⟨p, 1, none⟩ (.int .i64 0)).setCell ⟨p, 0, none⟩ (.slice (some ⟨g3, 0, none⟩) m c3)).drew = W4 at R4 S4 ⊢
  have c0 := R4.c0
  have c1 : W4.cell? ⟨p, 1, none⟩ = some (.int .i64 0) := R4.c1
  have c2 := R4.c2
  have c3' := R4.c3
  have c4 := R4.c4
  have f2 := R4.free 2
  have f3 := R4.free 3
  have f4 := R4.free 4
  obtain ⟨xs, hrow, hH⟩ := R4.row
  have z1 : ¬ (m : Int) = 0 := by omega
  have z2 : ((m : Int) == 0) = false := by simp; omega
  have z3 : ¬ m = 0 := by omega
  have hlen1 : (L.length : Int) ≤ 65536 := by have := HL.out; omega
  have e1 : IntKind.i64.wrap ((0 : Int) + (L.length : Int)) = (L.length : Int) := by rw [Int.zero_add]; exact IntWalk.i64_in _ (by omega)
  have e1' : IntKind.i64.wrap ((L.length : Int)) = (L.length : Int) := IntWalk.i64_in _ (by omega)
  have e2 : ((L.length : Int)).tmod (m : Int) = (L.length : Int) := by
    rw [Int.tmod_eq_emod_of_nonneg (by omega)]; exact Int.emod_eq_of_lt (by omega) (by omega)
  have g0 := hrow.frozenAt (L.length * 2)
  have g1 := hrow.frozenAt (L.length * 2 + 1)
  have hx : xs.length = m * 2 := hrow.1
  have s0 : ∃ u, W4.cell? ⟨g3, L.length * 2, none⟩ = some u := ⟨_, (hrow.cellAt (L.length * 2) (by omega)).trans (List.getElem?_eq_getElem (by omega))⟩
  have s1 : ∃ u, W4.cell? ⟨g3, L.length * 2 + 1, none⟩ = some u := ⟨_, (hrow.cellAt (L.length * 2 + 1) (by omega)).trans (List.getElem?_eq_getElem (by omega))⟩
  obtain ⟨u0, s0⟩ := s0
  obtain ⟨u1, s1⟩ := s1
  have HT := Lib.hid (show (0 + L.length) % m = L.length ∧ 0 < m ∧ L.length < m ∧ L.length < m from ⟨by rw [Nat.zero_add]; exact Nat.mod_eq_of_lt hm1, by omega, hm1, hm1⟩)
  have HR := Lib.hid hrow
  have HH := Lib.hid hH
  have HR4 := Lib.hid R4
  have HS4 := Lib.hid S4
  clear hm3 hrow hH hx R4 S4 HA
  refine wpD_region_still_tail 26 (by kernel_rfl) (by kernel_rfl) ?_
  simp only [List.take_succ_cons, List.take_zero, List.drop_succ_cons, List.drop_zero]
  repeat still_step
  refine wpStill_nil ?_
  go_wp2
  go_ret
  have hd := put_doneS (x := x) HR4.out HR.out HH.out HT.out hne 1
  rw [show W4.drewN 1 = W4.drew from rfl] at hd
  simp only [World.setCell_drew] at hd
  exact ⟨g3, m, c3, rfl, hd.1, HG4.out.1, HS4.out.newG hd.2 HG4.out.1⟩

/-- Put, whatever the ring holds. -/
def RngS (w : World) (B p g : Nat) (S : RS (ByteArray × Int)) : Prop := ∃ A n c f, RingS w B p g A n c f S.o S.ac S.rf S.cap S.L

theorem PutS_any (B p g : Nat) (S : RS (ByteArray × Int)) (x : ByteArray) (w : World) (h : RngS w B p g S) (hc : Cnt 1000000000 S) :
    Calls Try.prog 30 #[.pointer (some ⟨p, 0, none⟩), .string x] w fun e w' => ∃ g', e = .returned (.int .i64 (putR (fun o => (x, o)) S).2) ∧ RngS w' B p g' (putR (fun o => (x, o)) S).1 ∧ (g' = g ∨ w.heap.size ≤ g') ∧ Spared p g w w' := by
  obtain ⟨A, n, c, f, hR⟩ := h
  obtain ⟨h1, h2, h3, h4, h5⟩ := hc
  by_cases hl : (S.L.length : Int) = S.cap
  · have e : putR (fun o => (x, o)) S = ({ S with o := S.o + 1, rf := S.rf + 1 }, 4) := if_pos hl
    rw [e]
    exact (PutS_full B p g A n c f _ _ _ _ _ x w hR (by omega) hl).mono fun e w' ⟨he, hr, hs⟩ => ⟨g, he, ⟨A, n, c, f, hr⟩, .inl rfl, hs⟩
  · have e : putR (fun o => (x, o)) S = ({ S with o := 0, ac := S.ac + 1, L := S.L ++ [(x, S.o)] }, 0) := if_neg hl
    rw [e]
    by_cases hn : S.L.length < n
    · exact (PutS_room B p g A n c f _ _ _ _ _ x w hR (by omega) hn).mono fun e w' ⟨he, hr, hs⟩ => ⟨g, he, ⟨_, n, c, f, hr⟩, .inl rfl, hs⟩
    · have h6 := hR.le
      have h7 := hR.nle
      exact (PutS_grow B p g A n c f _ _ _ _ _ x w hR (by omega) (by omega) (by omega)).mono fun e w' ⟨g', m, c', he, hr, hg, hs⟩ => ⟨g', he, ⟨_, m, c', 0, hr⟩, .inr hg, hs⟩

end Go.Proofs.Ytgomnifcgaigkaa
