/- The calls that make sets, each with both of its ends in one contract. -/
import Derived.Test.YtemhoaleeefhhaaProg
import Derived.Test.YtemhoaleeefhhaaPg
import Derived.Test.YtemhoaleeefhhaaPe
import Derived.Test.YtemhoaleeefhhaaBr
import Derived.Test.YtemhoaleeefhhaaBn
import Derived.Test.YtemhoaleeefhhaaBt
namespace Go.Proofs.Ytemhoaleeefhhaa
open Go.RowKit
set_option linter.unusedVariables false

/-- A set and an error: as wanted, or none and the error. -/
def Ret (w w' : World) (e : Ending) (ok : Prop) (N : Int) (zs : List Int) (er : Int) : Prop :=
  ∃ N' A m c ys err, e = .returned (.tuple #[setv N' A m c, .int .i64 err]) ∧ w'.ownsRow w.heap.size 54 1 (.slice A m c) m (ys.map (Value.int .u64)) ∧ Hid (m ≤ 100000) ∧ Hid ((ok ∧ err = 0 ∧ N' = N ∧ ys = zs) ∨ (¬ ok ∧ err = er ∧ N' = 0 ∧ A = none ∧ m = 0 ∧ c = 0)) ∧ Below w.heap.size w w'
theorem Ret.good {w w' : World} {e : Ending} {ok : Prop} {N : Int} {zs : List Int} {er : Int} (hl : zs.length ≤ 100000) (h : ok) (hm : ∃ v, e = .returned (.tuple #[v, .int .i64 0]) ∧ Made w w' N v zs ∧ Below w.heap.size w w') : Ret w w' e ok N zs er := by
  obtain ⟨v, rfl, ⟨A, n, c, rfl, o⟩, k⟩ := hm
  have h1 : n ≤ 100000 := by have := (sees_own o).length; omega
  exact ⟨N, A, n, c, zs, 0, rfl, o, h1, .inl ⟨h, rfl, rfl, rfl⟩, k⟩
theorem Ret.bad {w w' : World} {e : Ending} {ok : Prop} {N : Int} {zs : List Int} {er : Int} (h : ¬ ok) (he : e = .returned (.tuple #[setv 0 none 0 0, .int .i64 er])) (k : Below w.heap.size w w') : Ret w w' e ok N zs er :=
  ⟨0, none, 0, 0, [], er, he, World.ownsRow_nil _ _ _ _, Nat.zero_le _, .inr ⟨h, rfl, rfl, rfl, rfl, rfl⟩, k⟩
theorem ofW_le {n : Nat} (h : n ≤ 65536) (L : List Int) : (ofW n L).length ≤ 100000 := by rw [ofW_len]; omega

set_option maxRecDepth 20000 in
set_option maxHeartbeats 800000 in
theorem Of_bad (n : Int) (A : Option Addr) (m c : Nat) (w : World) (h : n < 0 ∨ 65536 < n) :
    Calls Try.prog 24 #[.int .i64 n, .slice A m c] w fun e w' => e = .returned (.tuple #[setv 0 none 0 0, .int .i64 2]) ∧ Below w.heap.size w w' := by
  have HB := Lib.hid ((Below.refl w.heap.size w).alloc (Nat.le_refl _) (.cells #[.int .i64 0, .slice none 0 0] 24))
  have HX := Lib.hid (SetB.new w 0 none 0 0)
  have HH := Lib.hid h
  clear h
  go_enter Try.func24, Try.ntmps24
  go_wp2_with (go_at_call 37; refine (New_bad n _ HH.out).mono ?_; rintro e w1 ⟨rfl, b1⟩; have B1 := Lib.hid (below_step HB.out b1); have X1 := Lib.hid (HX.out.below b1 (Nat.le_refl _)); have X2 := Lib.hid (X1.out.alloc (.cells #[.int .i64 0, .slice none 0 0] 24)); have y0 := X2.out.c0; have y1 := X2.out.c1; have f0 := X2.out.f 0; have f1 := X2.out.f 1; clear b1)
  have P9 := X2.out.put (N' := 0) (A' := none) (n' := 0) (c' := 0)
  have z0 := P9.c0
  have z1 := P9.c1
  exact bodyPost_ret (v := .tuple #[setv 0 none 0 0, .int .i64 2]) (by simp [results, Try.results24, go_sem, z0, z1]) rfl ⟨rfl, below_put (B1.out.alloc B1.out.size _) (Nat.le_refl _) _ _⟩

theorem New_u (n : Int) (w : World) : Calls Try.prog 37 #[.int .i64 n] w fun e w' => Ret w w' e (0 ≤ n ∧ n ≤ 65536) n (ofW n.toNat []) 2 := by
  by_cases h : 0 ≤ n ∧ n ≤ 65536
  · obtain ⟨k, rfl⟩ : ∃ k : Nat, n = (k : Int) := ⟨n.toNat, by omega⟩
    exact (New_ok k w (by omega)).mono fun e w' hh => Ret.good (by rw [Int.toNat_natCast]; exact ofW_le (by omega) _) h (by rw [Int.toNat_natCast, ofW_nil]; exact hh)
  · exact (New_bad n w (by omega)).mono fun e w' hh => Ret.bad h hh.1 hh.2
theorem Of_u (n : Int) (A : Option Addr) (m c : Nat) (L : List Int) (w : World) (hs : Sees w 1 A m c (L.map (Value.int .i64))) :
    Calls Try.prog 24 #[.int .i64 n, .slice A m c] w fun e w' => Ret w w' e ((0 ≤ n ∧ n ≤ 65536) ∧ okAll n.toNat L) n (ofW n.toNat L) 2 := by
  by_cases h : 0 ≤ n ∧ n ≤ 65536
  · obtain ⟨k, rfl⟩ : ∃ k : Nat, n = (k : Int) := ⟨n.toNat, by omega⟩
    rw [Int.toNat_natCast]
    refine (Of_in k A m c L w (by omega) hs).mono fun e w' hh => ?_
    rcases hh.1 with ⟨h1, v, h2, h3⟩ | ⟨h1, h2⟩
    · exact Ret.good (ofW_le (by omega) _) ⟨h, h1⟩ ⟨v, h2, h3, hh.2⟩
    · exact Ret.bad (fun hx => h1 hx.2) h2 hh.2
  · exact (Of_bad n A m c w (by omega)).mono fun e w' hh => Ret.bad (fun hx => h hx.1) hh.1 hh.2
theorem With_u (N i : Int) (A : Option Addr) (n c : Nat) (l : List Int) (w : World) (hs : Sees w 1 A n c (l.map (Value.int .u64))) (hw : W64 l) (hl : n ≤ 100000) :
    Calls Try.prog 26 #[setv N A n c, .int .i64 i] w fun e w' => Ret w w' e (RightW N l ∧ (0 ≤ i ∧ i < N)) N (inB l i.toNat) (if RightW N l then 2 else 50) := by
  by_cases h : RightW N l ∧ (0 ≤ i ∧ i < N)
  · obtain ⟨k, rfl⟩ : ∃ k : Nat, i = (k : Int) := ⟨i.toNat, by omega⟩
    obtain ⟨M, rfl⟩ : ∃ M : Nat, N = (M : Int) := ⟨N.toNat, by have := h.1.1; omega⟩
    have h1 := hs.length
    rw [Int.toNat_natCast]
    exact (With_ok M k A n c l w hs hw h.1 (by omega)).mono fun e w' hh => Ret.good (by rw [inB_len]; omega) h hh
  · exact (With_bad N i A n c l w hs hw (by by_cases hr : RightW N l; exact .inr (by have : ¬ (0 ≤ i ∧ i < N) := fun hx => h ⟨hr, hx⟩; omega); exact .inl hr)).mono fun e w' hh => Ret.bad h hh.1 hh.2
theorem Without_u (N i : Int) (A : Option Addr) (n c : Nat) (l : List Int) (w : World) (hs : Sees w 1 A n c (l.map (Value.int .u64))) (hw : W64 l) (hl : n ≤ 100000) :
    Calls Try.prog 27 #[setv N A n c, .int .i64 i] w fun e w' => Ret w w' e (RightW N l ∧ (0 ≤ i ∧ i < N)) N (offB l i.toNat) (if RightW N l then 2 else 50) := by
  by_cases h : RightW N l ∧ (0 ≤ i ∧ i < N)
  · obtain ⟨k, rfl⟩ : ∃ k : Nat, i = (k : Int) := ⟨i.toNat, by omega⟩
    obtain ⟨M, rfl⟩ : ∃ M : Nat, N = (M : Int) := ⟨N.toNat, by have := h.1.1; omega⟩
    have h1 := hs.length
    rw [Int.toNat_natCast]
    exact (Without_ok M k A n c l w hs hw h.1 (by omega)).mono fun e w' hh => Ret.good (by rw [offB_len]; omega) h hh
  · exact (Without_bad N i A n c l w hs hw (by by_cases hr : RightW N l; exact .inr (by have : ¬ (0 ≤ i ∧ i < N) := fun hx => h ⟨hr, hx⟩; omega); exact .inl hr)).mono fun e w' hh => Ret.bad h hh.1 hh.2
theorem Not_u (N : Int) (A : Option Addr) (n c : Nat) (l : List Int) (w : World) (hs : Sees w 1 A n c (l.map (Value.int .u64))) (hw : W64 l) (hl : n ≤ 100000) :
    Calls Try.prog 28 #[setv N A n c] w fun e w' => Ret w w' e (RightW N l) N (notW N.toNat l) 50 := by
  by_cases h : RightW N l
  · obtain ⟨M, rfl⟩ : ∃ M : Nat, N = (M : Int) := ⟨N.toNat, by have := h.1; omega⟩
    have h1 := hs.length
    rw [Int.toNat_natCast]
    exact (Not_ok M A n c l w hs hw h).mono fun e w' hh => Ret.good (by have := (notW_right hw h).2.2.1; have := h.2.2.1; omega) h hh
  · exact (Not_bad N A n c l w hs hw h).mono fun e w' hh => Ret.bad h hh.1 hh.2
end Go.Proofs.Ytemhoaleeefhhaa
