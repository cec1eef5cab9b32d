/- Walks: readers. -/
import Derived.Test.YtgngeachgkappaaProg
import Derived.Test.YtgngeachgkappaaWa
import Derived.StillTailTactics
namespace Go.Proofs.Ytgngeachgkappaa
open Go.RowKit
set_option linter.unusedVariables false

set_option maxRecDepth 20000 in
theorem NewReader_any (A : Option Addr) (n c : Nat) (bs : List Int) (w : World) (h : Sees w 1 A n c (bs.map (Value.int .u8))) (hn : n ≤ 100000000) :
    Calls Try.prog 16 #[.slice A n c] w fun e w' => ∃ p A' c', e = .returned (.pointer (some ⟨p, 0, none⟩)) ∧ Rdr w' p A' n c' bs 0 ∧ w.heap.size ≤ p ∧ Below w.heap.size w w' := by
  have HN := Lib.hid hn
  clear hn
  go_enter Try.func16, Try.ntmps16
  go_wp2_with (go_at_call 38; refine (Clone8_any _ _ _ bs _ h HN.out).mono ?_; rintro e w1 ⟨A1, c1, rfl, o1, b1⟩; have HO := Lib.hid o1; have HB := Lib.hid b1; clear o1 b1)
  go_ret
  exact ⟨w1.heap.size, A1, c1, rfl, ⟨heap_alloc_new _ _, sees_own (HO.out.alloc _), own_off' HO.out (Nat.le_refl _), Nat.zero_le _⟩, HB.out.size, HB.out.alloc HB.out.size _⟩

set_option maxRecDepth 20000 in
theorem isR_any (p n c at_ : Nat) (A : Option Addr) (bs : List Int) (w : World) (h : Rdr w p A n c bs at_) :
    Calls Try.prog 39 #[.pointer (some ⟨p, 0, none⟩)] w fun e w' => e = .returned (.bool true) ∧ w = w' := by
  have h2 := h.c2
  have hE := eql_selfR
  go_enter Try.func39, Try.ntmps39
  go_wp2
  go_ret
  exact ⟨rfl, rfl⟩

set_option maxRecDepth 20000 in
theorem roomR_any (p n c at_ : Nat) (A : Option Addr) (bs : List Int) (w : World) (h : Rdr w p A n c bs at_) (hn : n ≤ 100000000) :
    Calls Try.prog 40 #[.pointer (some ⟨p, 0, none⟩)] w fun e w' => e = .returned (.int .i64 ((n - at_ : Nat) : Int)) ∧ Below w.heap.size w w' := by
  have h0 := h.c0
  have h1 := h.c1
  have hle := h.le
  have HE : Hid ((n : Int) - (at_ : Int) = ((n - at_ : Nat) : Int)) := Lib.hid (by omega)
  have d1 : decide ((n : Int) < (at_ : Int)) = false := by simp; omega
  have d1' : decide (n < at_) = false := by simp; omega
  have hn2 : (n : Int) ≤ 100000000 := by omega
  have ha2 : (at_ : Int) ≤ (n : Int) := by omega
  clear h hle hn
  go_enter Try.func40, Try.ntmps40
  go_wp2_with fail
  go_quiet (fail)
  have g0 : (w.drewN nq).cell? ⟨p, 0, none⟩ = some (.slice A n c) := h0
  have g1 : (w.drewN nq).cell? ⟨p, 1, none⟩ = some (.int .i64 (at_ : Int)) := h1
  have B1 := below_drewN (Below.refl w.heap.size w) nq
  clear h0 h1
  generalize w.drewN nq = w2 at g0 g1 B1 ⊢
  go_wp2_with fail
  go_quiet (fail)
  go_wp2
  go_ret
  exact ⟨by rw [← HE.out]; rfl, below_drewN B1 _⟩

theorem Rdr.slice {w : World} {p n c at_ k : Nat} {A : Option Addr} {bs : List Int} (h : Rdr w p A n c bs at_) (hk : at_ + k ≤ n) : Sees w 1 (cutA A c at_ 1) k (c - at_) (((bs.drop at_).take k).map (Value.int .u8)) := by
  have := (h.row.cut h.le).pre (k := k) (by omega)
  rwa [Nat.mul_one, Nat.mul_one, ← List.map_drop, ← List.map_take] at this

set_option maxRecDepth 20000 in
set_option maxHeartbeats 800000 in
theorem take_ok (p n c at_ k : Nat) (A : Option Addr) (bs : List Int) (w : World) (h : Rdr w p A n c bs at_) (hn : n ≤ 100000000) (hk : at_ + k ≤ n) :
    Calls Try.prog 49 #[.pointer (some ⟨p, 0, none⟩), .int .i64 (k : Int)] w fun e w' => ∃ A' c', e = .returned (.tuple #[.slice A' k c', .int .i64 0]) ∧ w'.ownsRow w.heap.size 5 1 (.slice A' k c') k (((bs.drop at_).take k).map (Value.int .u8)) ∧ Rdr w' p A n c bs (at_ + k) ∧ Keeps p w w' := by
  have h0 := h.c0
  have h1 := h.c1
  have hcap : at_ + k ≤ c := Nat.le_trans hk h.row.cap
  have HR := Lib.hid h
  have HN := Lib.hid hn
  have HK := Lib.hid hk
  have d1 : decide (((n - at_ : Nat) : Int) < (k : Int)) = false := by simp; omega
  have d1' : decide (n - at_ < k) = false := by simp; omega
  have ha2 : (at_ : Int) + (k : Int) ≤ 100000000 := by omega
  clear h hn hk
  go_enter Try.func49, Try.ntmps49
  go_wp2_with (go_at_call 40; refine (roomR_any _ _ _ _ _ _ _ HR.out HN.out).mono ?_; rintro e w1 ⟨rfl, b1⟩)
  have hR1 := HR.out.below b1
  have g0 := hR1.c0
  have g1 := hR1.c1
  have HR1 := Lib.hid hR1
  have HB1 := Lib.hid b1
  clear hR1 b1 h0 h1
  go_still_tail 17, (by kernel_rfl)
  change wpList _ _ _ _ _ w1.drew
  have hR2 := HR1.out.below ((Below.refl w1.heap.size w1).drew)
  have B2 := HB1.out.drew
  have g0' := hR2.c0
  have g1' := hR2.c1
  have HR2 := Lib.hid hR2
  have hS := hR2.slice HK.out
  have HSa : Hid (c = at_ → Sees w1.drew 1 A k 0 (((bs.drop at_).take k).map (Value.int .u8))) := Lib.hid (fun e => by subst e; simpa [cutA] using hS)
  have HSb : Hid (c ≠ at_ → Sees w1.drew 1 (Option.map (fun x => x.add at_) A) k (c - at_) (((bs.drop at_).take k).map (Value.int .u8))) := Lib.hid (fun e => by have e' : ¬ at_ = c := fun x => e x.symm; simpa [cutA, e, e'] using hS)
  clear g0 g1 hR2 HR1 HB1 hS
  generalize w1.drew = w2 at g0' g1' B2 HR2 HSa HSb ⊢
  go_wp2_with (go_at_call 38; refine (Clone8_any _ _ _ ((bs.drop at_).take k) _ (by first | exact HSa.out (by omega) | exact HSb.out (by omega)) (by have := HN.out; have := HK.out; omega)).mono ?_; rintro e w3 ⟨A2, c2, rfl, o2, b3⟩; have hR3 := HR2.out.below b3; have q0 := hR3.c1; have q1 := hR3.f1; have HO := Lib.hid o2; have HM := Lib.hid (hR3.move (at_ + k) HK.out); have HP := Lib.hid HR2.out.plt; have HB := Lib.hid (below_step B2 b3); have hsz := B2.size; clear o2 hR3 b3)
  all_goals
    go_ret2
    have e1 : ((at_ + k : Nat) : Int) = (at_ : Int) + (k : Int) := by omega
    rw [e1] at HM
    exact ⟨A2, c2, rfl, own_base (ownsRow_setCell_below HO.out HP.out _) hsz, HM.out, (Keeps.of_below HB.out).trans (Keeps.set _ _ _ _)⟩

set_option maxRecDepth 20000 in
theorem take_end (p n c at_ : Nat) (k : Int) (A : Option Addr) (bs : List Int) (w : World) (h : Rdr w p A n c bs at_) (hn : n ≤ 100000000) (hk : (n : Int) < (at_ : Int) + k) :
    Calls Try.prog 49 #[.pointer (some ⟨p, 0, none⟩), .int .i64 k] w fun e w' => e = .returned (.tuple #[.slice none 0 0, .int .i64 20]) ∧ Below w.heap.size w w' := by
  have HR := Lib.hid h
  have HN := Lib.hid hn
  have d1 : decide (((n - at_ : Nat) : Int) < k) = true := by have := h.le; simp; omega
  clear h hn hk
  go_enter Try.func49, Try.ntmps49
  go_wp2_with (go_at_call 40; refine (roomR_any _ _ _ _ _ _ _ HR.out HN.out).mono ?_; rintro e w1 ⟨rfl, b1⟩; have HR1 := Lib.hid (HR.out.below b1))
  go_ret2
  exact ⟨rfl, b1⟩
end Go.Proofs.Ytgngeachgkappaa
