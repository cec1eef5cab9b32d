/- Put, Take, Drain on what a ring holds: rings of strings. Printed by gen_ringt.py. -/
import Derived.Test.YtgomnifcgaigkaaProg
import Derived.Test.YtgomnifcgaigkaaGs2
import Derived.Test.YtgomnifcgaigkaaGs3
namespace Go.Proofs.Ytgomnifcgaigkaa
open Go.RowKit Go.Shelf
set_option linter.unusedVariables false
attribute [local go_sem] Oper.semAt_some

open Go.RowKit Go.Shelf
set_option linter.unusedVariables false

set_option maxRecDepth 20000 in
theorem TakeS_neg (B p g : Nat) (A : Option Addr) (n c f : Nat) (o ac rf cap k : Int) (L : List (ByteArray × Int)) (w : World) (h : RingS w B p g A n c f o ac rf cap L) (hk : k < 0) :
    Calls Try.prog 32 #[.pointer (some ⟨p, 0, none⟩), .int .i64 k] w fun e w' => e = .returned (.tuple #[.slice none 0 0, .int .i64 2]) ∧ Below w.heap.size w w' := by
  have hb : Below w.heap.size w (w.alloc (.cells #[.int .i64 k] 3)) := (Below.refl _ _).alloc (Nat.le_refl _) _
  have H := Lib.hid (h.below hb h.plt h.glt)
  have HB := Lib.hid hb
  clear h hb
  go_enter Try.func32, Try.ntmps32
  go_wp2_with (go_at_call 49; refine (noneS_any _ _ _ _ _ _ _ _ _ _ _ _ _ H.out).mono ?_; rintro e w' ⟨rfl, rfl⟩)
  go_ret2
  exact ⟨rfl, HB.out⟩

/-- What a call hands out: a slice of slots of its own. -/
def SlotsS (w : World) (b : Nat) (v : Value) (L : List (ByteArray × Int)) : Prop := ∃ A c, v = .slice A L.length c ∧ w.ownsRow b 69 2 (.slice A L.length c) L.length (L.flatMap ceS)

theorem TakeS_any (B p g : Nat) (S : RS (ByteArray × Int)) (k : Int) (w : World) (h : RngS w B p g S) :
    Calls Try.prog 32 #[.pointer (some ⟨p, 0, none⟩), .int .i64 k] w fun e w' => ∃ v, e = .returned (.tuple #[v, .int .i64 (takeR k S).2.2]) ∧ SlotsS w' w.heap.size v (takeR k S).2.1 ∧ RngS w' B p g (takeR k S).1 ∧ Spared p g w w' := by
  obtain ⟨A, n, c, f, hR⟩ := h
  by_cases hk : k < 0
  · have e : takeR k S = (S, [], 2) := if_pos hk
    rw [e]
    exact (TakeS_neg B p g A n c f _ _ _ _ k _ w hR hk).mono fun e w' ⟨he, hb⟩ => ⟨_, he, ⟨none, 0, rfl, World.ownsRow_nil _ _ _ _⟩, ⟨A, n, c, f, hR.below hb hR.plt hR.glt⟩, Spared.of_below hb (Nat.le_refl _)⟩
  · have e : takeR k S = ({ S with L := S.L.drop k.toNat }, S.L.take k.toNat, 0) := if_neg hk
    rw [e]
    obtain ⟨m, hm⟩ : ∃ m : Nat, (if (S.L.length : Int) < k then (S.L.length : Int) else k) = (m : Int) := ⟨if (S.L.length : Int) < k then S.L.length else k.toNat, by split <;> omega⟩
    have h1 : S.L.take k.toNat = S.L.take m := by
      by_cases hl : (S.L.length : Int) < k
      · rw [if_pos hl] at hm
        rw [List.take_of_length_le (by omega), List.take_of_length_le (by omega)]
      · rw [if_neg hl] at hm
        rw [show k.toNat = m by omega]
    have h2 : S.L.drop k.toNat = S.L.drop m := by
      by_cases hl : (S.L.length : Int) < k
      · rw [if_pos hl] at hm
        rw [List.drop_of_length_le (by omega), List.drop_of_length_le (by omega)]
      · rw [if_neg hl] at hm
        rw [show k.toNat = m by omega]
    have hml : (S.L.take m).length = m := by rw [List.length_take]; split at hm <;> omega
    refine (callsIn_wide.1 (TakeS_in B p g A n c f m _ _ _ _ k _ w hR (by omega) hm)).mono ?_
    rintro e w' ⟨A', c', he, ho, hr, hs⟩
    simp only [h1, h2]
    exact ⟨_, he, ⟨A', c', by rw [hml], by rw [hml]; exact ho⟩, ⟨A, n, c, _, hr⟩, hs⟩

theorem RngS.c2 {w : World} {B p g : Nat} {S : RS (ByteArray × Int)} (h : RngS w B p g S) : w.cell? ⟨p, 2, none⟩ = some (.int .i64 (S.L.length : Int)) := by obtain ⟨A, n, c, f, hR⟩ := h; exact hR.c2

theorem RngS.plt {w : World} {B p g : Nat} {S : RS (ByteArray × Int)} (h : RngS w B p g S) : p < w.heap.size := by obtain ⟨A, n, c, f, hR⟩ := h; exact hR.plt

theorem RngS.glt {w : World} {B p g : Nat} {S : RS (ByteArray × Int)} (h : RngS w B p g S) : g < w.heap.size := by obtain ⟨A, n, c, f, hR⟩ := h; exact hR.glt

theorem RngS.bp {w : World} {B p g : Nat} {S : RS (ByteArray × Int)} (h : RngS w B p g S) : B ≤ p := by obtain ⟨A, n, c, f, hR⟩ := h; exact hR.bp

theorem RngS.bg {w : World} {B p g : Nat} {S : RS (ByteArray × Int)} (h : RngS w B p g S) : B ≤ g := by obtain ⟨A, n, c, f, hR⟩ := h; exact hR.bg

theorem RngS.below {w w' : World} {B p g N : Nat} {S : RS (ByteArray × Int)} (h : RngS w B p g S) (hb : Below N w w') (hp : p < N) (hg : g < N) : RngS w' B p g S := by obtain ⟨A, n, c, f, hR⟩ := h; exact ⟨A, n, c, f, hR.below hb hp hg⟩

theorem RngS.keep {w w' : World} {B p g : Nat} {S : RS (ByteArray × Int)} (h : RngS w B p g S) (hz : w.heap.size ≤ w'.heap.size) (hp : w'.heap[p]? = w.heap[p]?) (hg : w'.heap[g]? = w.heap[g]?) : RngS w' B p g S := by obtain ⟨A, n, c, f, hR⟩ := h; exact ⟨A, n, c, f, hR.keep hz hp hg⟩

theorem RngS.len {w : World} {B p g : Nat} {S : RS (ByteArray × Int)} (h : RngS w B p g S) : (S.L.length : Int) ≤ S.cap ∧ 1 ≤ S.cap ∧ S.cap ≤ 65536 := by
  obtain ⟨A, n, c, f, hR⟩ := h
  have := hR.le; have := hR.nle; have := hR.cap1
  omega

theorem OpenRS_any (B p g : Nat) (S : RS (ByteArray × Int)) (w : World) (h : RngS w B p g S) :
    Calls Try.prog 31 #[.pointer (some ⟨p, 0, none⟩)] w fun e w' => e = .returned (.int .i64 S.o) ∧ w = w' := by
  obtain ⟨A, n, c, f, hR⟩ := h
  exact OpenS_any B p g A n c f _ _ _ _ _ w hR

theorem AcceptedRS_any (B p g : Nat) (S : RS (ByteArray × Int)) (w : World) (h : RngS w B p g S) :
    Calls Try.prog 34 #[.pointer (some ⟨p, 0, none⟩)] w fun e w' => e = .returned (.int .i64 S.ac) ∧ w = w' := by
  obtain ⟨A, n, c, f, hR⟩ := h
  exact AcceptedS_any B p g A n c f _ _ _ _ _ w hR

theorem RefusedRS_any (B p g : Nat) (S : RS (ByteArray × Int)) (w : World) (h : RngS w B p g S) :
    Calls Try.prog 35 #[.pointer (some ⟨p, 0, none⟩)] w fun e w' => e = .returned (.int .i64 S.rf) ∧ w = w' := by
  obtain ⟨A, n, c, f, hR⟩ := h
  exact RefusedS_any B p g A n c f _ _ _ _ _ w hR

theorem noneRS_any (B p g : Nat) (S : RS (ByteArray × Int)) (w : World) (h : RngS w B p g S) :
    Calls Try.prog 49 #[.pointer (some ⟨p, 0, none⟩)] w fun e w' => e = .returned (.bool false) ∧ w = w' := by
  obtain ⟨A, n, c, f, hR⟩ := h
  exact noneS_any B p g A n c f _ _ _ _ _ w hR

theorem NewRS_any (n : Int) (w : World) (h : 1 ≤ n ∧ n ≤ 65536) :
    Calls Try.prog 29 #[.int .i64 n] w fun e w' => ∃ p, e = .returned (.tuple #[.pointer (some ⟨p, 0, none⟩), .int .i64 0]) ∧ RngS w' w.heap.size p p ⟨0, 0, 0, n, []⟩ ∧ Below w.heap.size w w' :=
  (NewS_any n w h).mono fun e w' ⟨p, he, hr, hb⟩ => ⟨p, he, ⟨_, _, _, _, hr⟩, hb⟩

/-- The store that ends the open run. -/
theorem RngS.set3 {w : World} {B p g : Nat} {S : RS (ByteArray × Int)} (h : RngS w B p g S) (v : Int) : RngS (w.setCell ⟨p, 3, none⟩ (.int .i64 v)) B p g { S with o := v } ∧ Spared p g w (w.setCell ⟨p, 3, none⟩ (.int .i64 v)) := by
  obtain ⟨A, n, c, f, hR⟩ := h
  exact ⟨⟨A, n, c, f, hR.setP (by decide) (by rw [setCell_size]; exact Nat.le_refl _) (fun hne => Below.heap_setCell _ _ _ _ hne) (heap_setCell_same w p 3 _ _ _ hR.obj) (fun _ h => h) hR.le hR.first⟩, (Spared.refl p g w).setP 3 _⟩

theorem RngS.c3 {w : World} {B p g : Nat} {S : RS (ByteArray × Int)} (h : RngS w B p g S) : w.cell? ⟨p, 3, none⟩ = some (.int .i64 S.o) := by obtain ⟨A, n, c, f, hR⟩ := h; exact hR.c3

theorem RngS.f3 {w : World} {B p g : Nat} {S : RS (ByteArray × Int)} (h : RngS w B p g S) : w.frozen? ⟨p, 3, none⟩ = false := by obtain ⟨A, n, c, f, hR⟩ := h; exact hR.free 3

set_option maxRecDepth 20000 in
set_option maxHeartbeats 800000 in
theorem DrainRS_any (B p g : Nat) (S : RS (ByteArray × Int)) (w : World) (h : RngS w B p g S) :
    Calls Try.prog 33 #[.pointer (some ⟨p, 0, none⟩)] w fun e w' => ∃ v, e = .returned (.tuple #[v, .int .i64 S.o, .int .i64 0]) ∧ SlotsS w' w.heap.size v S.L ∧ RngS w' B p g (drainR S).1 ∧ Spared p g w w' := by
  have e : takeR (S.L.length : Int) S = ({ S with L := [] }, S.L, 0) := by
    unfold takeR
    rw [if_neg (by omega), Int.toNat_natCast, List.drop_length, List.take_length]
  have h2 := h.c2
  have hT := TakeS_any B p g S (S.L.length : Int) w h
  rw [e] at hT
  have HT := Lib.hid hT
  have HH := Lib.hid h
  clear h hT e
  go_enter Try.func33, Try.ntmps33
  go_wp2_with (first
    | (go_at_call 49; refine (noneRS_any _ _ _ _ _ HH.out).mono ?_; rintro e w' ⟨rfl, rfl⟩)
    | (go_at_call 32; refine HT.out.mono ?_; rintro e w1 ⟨v, rfl, hs, hr, hsp⟩; have q3 := hr.c3; have f3 := hr.f3; have HS := Lib.hid (And.intro hs (And.intro hr hsp)); clear hs hr hsp))
  obtain ⟨A, c, rfl, ho⟩ := HS.out.1
  obtain ⟨r1, r2⟩ := HS.out.2.1.set3 0
  exact bodyPost_ret (results_tmp3 rfl _ _ _) rfl ⟨_, rfl, ⟨A, c, rfl, own_sp ho HH.out.plt (fun i _ hi => Below.heap_setCell _ _ _ _ hi)⟩, r1, HS.out.2.2.trans r2⟩

end Go.Proofs.Ytgomnifcgaigkaa
