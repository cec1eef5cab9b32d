/- Walks: tells (RingTells). -/
import Derived.Test.YtgomnifcgaigkaaProg
import Derived.Test.YtgomnifcgaigkaaHb
namespace Go.Proofs.Ytgomnifcgaigkaa
open Go.RowKit Go.Shelf
set_option linter.unusedVariables false

/-- An act's cells. -/
def ceA (x : Int × Int) : List Value := [.int .u8 x.1, .int .i64 x.2]
theorem ceA_len (L : List (Int × Int)) : (L.flatMap ceA).length = L.length * 2 := by
  induction L with
  | nil => rfl
  | cons x L ih => rw [List.flatMap_cons, List.length_append, ih, List.length_cons]; simp [ceA]; omega
theorem ceA_get : ∀ {L : List (Int × Int)} {k : Nat} {x : Int × Int}, L[k]? = some x → (L.flatMap ceA)[2 * k]? = some (.int .u8 x.1) ∧ (L.flatMap ceA)[2 * k + 1]? = some (.int .i64 x.2)
  | [], k, x, h => by simp at h
  | y :: L, 0, x, h => by simp at h; subst h; exact ⟨rfl, rfl⟩
  | y :: L, k + 1, x, h => by
    have := ceA_get (L := L) (k := k) (x := x) (by simpa using h)
    rw [List.flatMap_cons, List.getElem?_append_right (by simp [ceA]; omega), List.getElem?_append_right (by simp [ceA]; omega)]
    have e1 : 2 * (k + 1) - (ceA y).length = 2 * k := by simp [ceA]; omega
    have e2 : 2 * (k + 1) + 1 - (ceA y).length = 2 * k + 1 := by simp [ceA]; omega
    rw [e1, e2]
    exact this
theorem E_act : Elem Try.prog 57 60 (.agg #[.int .u8 0, .int .i64 0]) 2 16 := elem_of Try.underlying57 (by kernel_rfl) rfl (by decide)
theorem Sees.act {w : World} {A : Option Addr} {n c k : Nat} {L : List (Int × Int)} {x : Int × Int} (h : Sees w 2 A n c (L.flatMap ceA)) (hx : L[k]? = some x) :
    ∃ b o, A = some ⟨b, o, none⟩ ∧ w.cell? ⟨b, o + k * 2, none⟩ = some (.int .u8 x.1) ∧ w.cell? ⟨b, o + k * 2 + 1, none⟩ = some (.int .i64 x.2) := by
  obtain ⟨e1, e2⟩ := ceA_get hx
  obtain ⟨b, o, hA, c1⟩ := h.look _ _ e1
  obtain ⟨b', o', hA', c2⟩ := h.look _ _ e2
  subst hA
  cases hA'
  rw [Nat.mul_comm 2 k] at c1 c2
  exact ⟨b, o, rfl, c1, by rw [Nat.add_assoc]; exact c2⟩

set_option maxRecDepth 20000 in
set_option maxHeartbeats 1600000 in
theorem tells_bad (n : Int) (Z : Option Addr) (ln cz : Nat) (w : World) (h : n < 1 ∨ 65536 < n) :
    Calls Try.prog 27 #[.int .i64 n, .slice Z ln cz] w fun e w' => e = .returned (.bool true) ∧ Below w.heap.size w w' := by
  have H := Lib.hid h
  clear h
  go_enter Try.func27, Try.ntmps27
  go_wp2_with (first
    | (go_at_call 44; refine (refNew_bad n _ H.out).mono ?_; rintro e w2 ⟨rfl, b2⟩; simp only [refV, List.length_nil]; have R2 := Lib.hid b2; clear b2)
    | (go_at_call 25; refine (NewI_bad n _ H.out).mono ?_; rintro e w1 ⟨rfl, rfl⟩))
  go_ret
  exact ⟨rfl, R2.out.alloc (by have := R2.out.size; omega) _⟩

set_option maxRecDepth 20000 in
set_option maxHeartbeats 1600000 in
theorem tells_good (n : Int) (Z : Option Addr) (ln cz : Nat) (zs : List (Int × Int)) (w : World) (hn : 1 ≤ n ∧ n ≤ 65536) (hz : Sees w 2 Z ln cz (zs.flatMap ceA)) (hk : ∀ z ∈ zs, 0 ≤ z.1 ∧ z.1 < 256) :
    Calls Try.prog 27 #[.int .i64 n, .slice Z ln cz] w fun e w' => e = .returned (.bool true) ∧ Below w.heap.size w w' := by
  have hl : zs.length = ln := by have := hz.len; rw [ceA_len] at this; omega
  obtain ⟨m, hm0, hm20, hmin, hmc⟩ := min_is ln 150
  have hmi : (if (150 : Int) < (ln : Int) then (150 : Int) else (ln : Int)) = (m : Int) := by split <;> omega
  have hmi' : (if 150 < ln then (150 : Int) else (ln : Int)) = (m : Int) := by split <;> omega
  have hcut := fun w => run_cutr E_act Z ln cz m (Nat.le_trans hm0 hz.cap) w
  have HN := Lib.hid hn
  have HM : Hid (m ≤ 150 ∧ m ≤ zs.length) := Lib.hid (by omega)
  have HS := Lib.hid hz
  have HK := Lib.hid hk
  clear hn hz hk hmin hmc hm0 hm20 hl
  go_enter Try.func27, Try.ntmps27
  go_wp2_with (first
      | (go_at_call 45; have _q := R2; have hp := R1.out.1.plt; have hz2 := R2.out.size; have hb3 : Below w2.heap.size w2 (w2.alloc (.cells #[.int .i64 n, .int .i64 0, .int .i64 0, .int .i64 0, .slice none 0 0] 88)) := (Below.refl _ w2).alloc (Nat.le_refl _) _; have hw3 := below_step R2.out hb3; refine (stands_any ⟨0, 0, 0, n, []⟩ w.heap.size p p 0 none _ (R1.out.1.below hw3 hp hp) ⟨0, World.ownsRow_nil _ _ _ _, by simp [Value.ownBlock], by simp [Value.ownBlock]⟩).mono ?_; rintro e w4 ⟨rfl, b4⟩; have hx4 := (b4.block w2.heap.size (by simp)).trans (heap_alloc_new w2 (.cells #[.int .i64 n, .int .i64 0, .int .i64 0, .int .i64 0, .slice none 0 0] 88)); have R4 := Lib.hid (And.intro (R1.out.1.below (below_step hw3 b4) hp hp) (And.intro hx4 (And.intro (show p < w2.heap.size by omega) (And.intro (below_step R1.out.2 (below_step hw3 b4)) (show w2.heap.size < w4.heap.size by have := b4.size; simp at this; omega))))); clear hp hz2 hb3 hw3 b4 hx4)
      | (go_at_call 44; have _q := R1; refine (refNew_any n _ HN.out).mono ?_; rintro e w2 ⟨rfl, b2⟩; simp only [refV, List.length_nil]; have R2 := Lib.hid b2; clear b2)
      | (go_at_call 25; refine (NewR_any n _ HN.out).mono ?_; rintro e w1 ⟨p, rfl, h1, b1⟩; have R1 := Lib.hid (And.intro h1 b1); clear h1 b1))
  have hb7w : w.heap.size ≤ w2.heap.size := by have := R2.out.size; have := R1.out.2.size; omega
  have HBB := Lib.hid hb7w
  have HB2 : Hid (w2.heap.size = w2.heap.size) := Lib.hid rfl
  clear hb7w
  generalize hb7 : w2.heap.size = b7 at R4 HBB ⊢
  have hmm : (m : Int) ≤ 150 := by have := HM.out; omega
  go_loopw [43, 9] (fun i b wr => ∃ (k g c : Nat) (A : Option Addr) (S : RS (Int × Int)), Hid (k ≤ m) ∧ i = .int .i64 (k : Int) ∧ b = .bool true ∧ Hid (RngI wr w.heap.size p g S ∧ Cnt (k : Int) S ∧ RefRow wr A c S.L p g ∧ wr.heap[b7]? = some (.cells #[.int .i64 S.cap, .int .i64 S.o, .int .i64 S.ac, .int .i64 S.rf, .slice A S.L.length c] 88 (0, 0)) ∧ g ≠ b7 ∧ p ≠ b7 ∧ (Value.slice A S.L.length c).ownBlock ≠ some b7 ∧ Below w.heap.size w wr ∧ b7 < wr.heap.size)) (fun i _ _ => m - (intOf i).toNat)
  case atStart =>
    exact ⟨0, p, 0, none, ⟨0, 0, 0, n, []⟩, Lib.hid (Nat.zero_le _), rfl, rfl, Lib.hid ⟨R4.out.1, Cnt.zero n, ⟨0, World.ownsRow_nil _ _ _ _, by simp [Value.ownBlock], by simp [Value.ownBlock]⟩, R4.out.2.1, by have := R4.out.2.2.1; omega, by have := R4.out.2.2.1; omega, by simp [Value.ownBlock], R4.out.2.2.2.1, R4.out.2.2.2.2⟩⟩
  case round =>
    obtain ⟨k, g, c, A, ⟨o, ac, rf, cap, L⟩, HKM, rfl, rfl, HI⟩ := hrel
    simp only [] at HI
    by_cases hlt : k < m
    · obtain ⟨⟨z1, z2⟩, hx⟩ : ∃ x, zs[k]? = some x := ⟨_, List.getElem?_eq_getElem (by have := HM.out; omega)⟩
      have HZ := Lib.hid (HK.out _ (List.mem_of_getElem? hx))
      obtain ⟨b1, o1, rfl, s0, s1⟩ := (HS.out.below HI.out.2.2.2.2.2.2.2.1 (Nat.le_refl _)).act hx
      simp only [] at s0 s1 HZ
      have hx1 := HI.out.2.2.2.1
      have xc0 : wr.cell? ⟨b7, 0, none⟩ = some (.int .i64 cap) := (by simp [World.cell?, hx1])
      have xf0 : wr.frozen? ⟨b7, 0, none⟩ = false := (by simp [World.frozen?, hx1])
      have xc1 : wr.cell? ⟨b7, 1, none⟩ = some (.int .i64 o) := (by simp [World.cell?, hx1])
      have xf1 : wr.frozen? ⟨b7, 1, none⟩ = false := (by simp [World.frozen?, hx1])
      have xc2 : wr.cell? ⟨b7, 2, none⟩ = some (.int .i64 ac) := (by simp [World.cell?, hx1])
      have xf2 : wr.frozen? ⟨b7, 2, none⟩ = false := (by simp [World.frozen?, hx1])
      have xc3 : wr.cell? ⟨b7, 3, none⟩ = some (.int .i64 rf) := (by simp [World.cell?, hx1])
      have xf3 : wr.frozen? ⟨b7, 3, none⟩ = false := (by simp [World.frozen?, hx1])
      have xc4 : wr.cell? ⟨b7, 4, none⟩ = some (.slice A L.length c) := (by simp [World.cell?, hx1])
      have xf4 : wr.frozen? ⟨b7, 4, none⟩ = false := (by simp [World.frozen?, hx1])
      have hb7r := HI.out.2.2.2.2.2.2.2.2
      have d1 : decide ((k : Int) < (m : Int)) = true := by simp; omega
      have hk2 : (k : Int) < (m : Int) := by omega
      have hk0 : (0 : Int) ≤ (k : Int) := by omega
      have HLT := Lib.hid hlt
      clear hlt hx hx1
      go_wp2_with (first
        | (go_at_call 45; have _q := R5; have hp7 := HI.out.2.2.2.2.2.1; have hB7 := HBB.out; have hz := set5_size w5 b7 (.int .i64 cap2) (.int .i64 o2) (.int .i64 ac2) (.int .i64 rf2) (.slice A2 L2.length c2); refine (stands_any ⟨o2, ac2, rf2, cap2, L2⟩ w.heap.size p g2 c2 A2 _ (RngI.set5 R5.out.1 hp7.symm R5.out.2.2.2.1.symm _ _ _ _ _) (HeldRow.set5 R5.out.2.2.1 R5.out.2.2.2.2.1 _ _ _ _ _)).mono ?_; rintro e w6 ⟨rfl, b6⟩; have R6 := Lib.hid (show RngI w6 w.heap.size p g2 ⟨o2, ac2, rf2, cap2, L2⟩ ∧ Cnt ((k : Int) + 1) (⟨o2, ac2, rf2, cap2, L2⟩ : RS (Int × Int)) ∧ RefRow w6 A2 c2 L2 p g2 ∧ w6.heap[b7]? = some (.cells #[.int .i64 cap2, .int .i64 o2, .int .i64 ac2, .int .i64 rf2, .slice A2 L2.length c2] 88 (0, 0)) ∧ g2 ≠ b7 ∧ p ≠ b7 ∧ (Value.slice A2 L2.length c2).ownBlock ≠ some b7 ∧ Below w.heap.size w w6 ∧ b7 < w6.heap.size from ⟨RngI.below (RngI.set5 R5.out.1 hp7.symm R5.out.2.2.2.1.symm _ _ _ _ _) b6 (by rw [hz]; exact R5.out.1.plt) (by rw [hz]; exact R5.out.1.glt), R5.out.2.1, HeldRow.below (HeldRow.set5 R5.out.2.2.1 R5.out.2.2.2.2.1 _ _ _ _ _) b6 (Nat.le_refl _), (b6.block b7 (by rw [hz]; exact R5.out.2.2.2.2.2.2.2)).trans (set5 R5.out.2.2.2.2.2.2.1 _ _ _ _ _), R5.out.2.2.2.1, hp7, R5.out.2.2.2.2.1, (below_set5 R5.out.2.2.2.2.2.1 hB7 _ _ _ _ _).trans (b6.mono (by rw [hz]; exact R5.out.2.2.2.2.2.1.size)), by have := b6.size; rw [hz] at this; exact Nat.lt_of_lt_of_le R5.out.2.2.2.2.2.2.2 this⟩); clear b6 hz hp7 hB7)
        | (go_at_call 46; have hw5 : Below wr.heap.size wr (wr.alloc (.cells #[.int .u8 z1, .int .i64 z2] 60)) := (Below.refl _ wr).alloc (Nat.le_refl _) _; refine (act_any ⟨o, ac, rf, cap, L⟩ (k : Int) z1 z2 w.heap.size p g c A _ (HI.out.1.below hw5 HI.out.1.plt HI.out.1.glt) HI.out.2.1 (by have := HLT.out; have := HM.out; omega) (HeldRow.below HI.out.2.2.1 hw5 (Nat.le_refl _)) HZ.out).mono ?_; rintro e w5 ⟨⟨o2, ac2, rf2, cap2, L2⟩, g2, A2, c2, rfl, r5, k5, f5, g5, l5, s5⟩; simp only [refV]; have hsz : wr.heap.size + 1 ≤ w5.heap.size := (by simpa using s5.size); have hb7 := HI.out.2.2.2.2.2.2.2.2; have hx5 : w5.heap[b7]? = some (.cells #[.int .i64 cap, .int .i64 o, .int .i64 ac, .int .i64 rf, .slice A L.length c] 88 (0, 0)) := (s5.block b7 (by simp <;> omega) HI.out.2.2.2.2.2.1.symm HI.out.2.2.2.2.1.symm).trans ((hw5.block b7 hb7).trans HI.out.2.2.2.1); have yc0 : w5.cell? ⟨b7, 0, none⟩ = some (.int .i64 cap) := (by simp [World.cell?, hx5]); have yf0 : w5.frozen? ⟨b7, 0, none⟩ = false := (by simp [World.frozen?, hx5]); have yc1 : w5.cell? ⟨b7, 1, none⟩ = some (.int .i64 o) := (by simp [World.cell?, hx5]); have yf1 : w5.frozen? ⟨b7, 1, none⟩ = false := (by simp [World.frozen?, hx5]); have yc2 : w5.cell? ⟨b7, 2, none⟩ = some (.int .i64 ac) := (by simp [World.cell?, hx5]); have yf2 : w5.frozen? ⟨b7, 2, none⟩ = false := (by simp [World.frozen?, hx5]); have yc3 : w5.cell? ⟨b7, 3, none⟩ = some (.int .i64 rf) := (by simp [World.cell?, hx5]); have yf3 : w5.frozen? ⟨b7, 3, none⟩ = false := (by simp [World.frozen?, hx5]); have yc4 : w5.cell? ⟨b7, 4, none⟩ = some (.slice A L.length c) := (by simp [World.cell?, hx5]); have yf4 : w5.frozen? ⟨b7, 4, none⟩ = false := (by simp [World.frozen?, hx5]); have hg2 : g2 ≠ b7 := (by rcases g5 with h | h; (rw [h]; exact HI.out.2.2.2.2.1); (have : wr.heap.size + 1 ≤ g2 := (by simpa using h); omega)); have hA2 : (Value.slice A2 L2.length c2).ownBlock ≠ some b7 := fun e => (by rcases l5 with h | h; (exact HI.out.2.2.2.2.2.2.1 (h.symm.trans e)); (have : wr.heap.size + 1 ≤ b7 := (by simpa using h b7 e); omega)); have hb9 := Spared.below s5 (show w.heap.size ≤ p by exact HI.out.1.bp) (show w.heap.size ≤ g by exact HI.out.1.bg) (HI.out.2.2.2.2.2.2.2.1.trans (hw5.mono HI.out.2.2.2.2.2.2.2.1.size)) (by have := HI.out.2.2.2.2.2.2.2.1.size; simp <;> omega); have R5 := Lib.hid (And.intro r5 (And.intro k5 (And.intro f5 (And.intro hg2 (And.intro hA2 (And.intro hb9 (And.intro hx5 (show b7 < w5.heap.size by omega)))))))); clear hw5 r5 k5 f5 g5 l5 s5 hsz hb7 hx5 hg2 hA2 hb9))
      go_roundw
      case rel => exact ⟨k + 1, g2, c2, A2, ⟨o2, ac2, rf2, cap2, L2⟩, Lib.hid HLT.out, by go_num, rfl, Lib.hid ⟨R6.out.1, by have := R6.out.2.1; push_cast; exact this, R6.out.2.2⟩⟩
      case measure => have := HLT.out; simp [intOf]; omega
    · have d1 : decide ((k : Int) < (m : Int)) = false := by simp; omega
      have d1' : decide (k < m) = false := by simp; omega
      clear hlt
      go_wp2
      go_ret
      exact ⟨rfl, HI.out.2.2.2.2.2.2.2.1⟩

theorem tells_any (n : Int) (Z : Option Addr) (ln cz : Nat) (zs : List (Int × Int)) (w : World) (hz : Sees w 2 Z ln cz (zs.flatMap ceA)) (hk : ∀ z ∈ zs, 0 ≤ z.1 ∧ z.1 < 256) :
    Calls Try.prog 27 #[.int .i64 n, .slice Z ln cz] w fun e w' => e = .returned (.bool true) ∧ Below w.heap.size w w' := by
  by_cases h : 1 ≤ n ∧ n ≤ 65536
  · exact tells_good n Z ln cz zs w h hz hk
  · exact tells_bad n Z ln cz w (by omega)
end Go.Proofs.Ytgomnifcgaigkaa
