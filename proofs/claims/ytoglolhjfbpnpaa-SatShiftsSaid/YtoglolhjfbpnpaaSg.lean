/- Walks: SatShifts. -/
import Derived.Test.YtoglolhjfbpnpaaProg
import Derived.Test.YtoglolhjfbpnpaaSe
namespace Go.Proofs.Ytoglolhjfbpnpaa
open Go.RowKit
set_option linter.unusedVariables false

theorem tLt (a b : Nat) : ∃ c : Bool, decide ((a : Int) < (b : Int)) = c ∧ decide (a < b) = c ∧ Hid (c = true ∧ a < b ∨ c = false ∧ b ≤ a) := by
  by_cases h : a < b
  · exact ⟨true, by simp; omega, by simp; omega, Lib.hid (.inl ⟨rfl, h⟩)⟩
  · exact ⟨false, by simp; omega, by simp; omega, Lib.hid (.inr ⟨rfl, by omega⟩)⟩
theorem tLe (a b : Nat) : ∃ c : Bool, decide ((a : Int) ≤ (b : Int)) = c ∧ decide (a ≤ b) = c ∧ Hid (c = true ∧ a ≤ b ∨ c = false ∧ b < a) := by
  by_cases h : a ≤ b
  · exact ⟨true, by simp; omega, by simp; omega, Lib.hid (.inl ⟨rfl, h⟩)⟩
  · exact ⟨false, by simp; omega, by simp; omega, Lib.hid (.inr ⟨rfl, by omega⟩)⟩
theorem tEq (a b : Nat) : ∃ c : Bool, ((a : Int) == (b : Int)) = c ∧ (a == b) = c ∧ decide (a = b) = c ∧ decide ((a : Int) = (b : Int)) = c ∧ Hid (c = true ∧ a = b ∨ c = false ∧ a ≠ b) := by
  by_cases h : a = b
  · exact ⟨true, by simp; omega, by simp; omega, by simp; omega, by simp; omega, Lib.hid (.inl ⟨rfl, h⟩)⟩
  · exact ⟨false, by simp; omega, by simp; omega, by simp; omega, by simp; omega, Lib.hid (.inr ⟨rfl, h⟩)⟩

/-- The three ways of a shift, M the greatest number. -/
def Sh (M v f t x : Nat) : Prop := (v < f ∧ x = t - (f - v)) ∨ (f ≤ v ∧ t + (v - f) ≤ M ∧ x = t + (v - f)) ∨ (f ≤ v ∧ M < t + (v - f) ∧ x = M)
theorem sShift_is {M : Nat} (hM : 18446744073709551615 = M) (v f t : Nat) : Sh M v f t (sShift v f t) := by
  subst hM
  unfold Sh sShift sAdd sSub
  split
  · omega
  · split <;> omega
theorem sShift_eq {M : Nat} (hM : 18446744073709551615 = M) {v f t x : Nat} (h : Sh M v f t x) : sShift v f t = x := by
  have := sShift_is hM v f t
  unfold Sh at this h
  omega
theorem sAdd_is {M : Nat} (hM : 18446744073709551615 = M) (a b : Nat) : (a + b ≤ M ∧ sAdd a b = a + b) ∨ (M < a + b ∧ sAdd a b = M) := by
  subst hM
  unfold sAdd; split <;> omega
theorem Sh.le {M v f t x : Nat} (h : Sh M v f t x) (ht : t ≤ M) : x ≤ M := by unfold Sh at h; omega

theorem shift_order {M v u f t x y : Nat} {b1 b2 b3 b4 : Bool} (fx : Sh M v f t x) (fy : Sh M u f t y) (ht : t ≤ M) (q1 : b1 = true ∧ v ≤ u ∨ b1 = false ∧ u < v) (q2 : b2 = true ∧ y < x ∨ b2 = false ∧ x ≤ y) (q3 : b3 = true ∧ u ≤ v ∨ b3 = false ∧ v < u) (q4 : b4 = true ∧ x < y ∨ b4 = false ∧ y ≤ x) :
    (b1 = true ∧ b3 = false ∧ b2 = false) ∨ (b1 = false ∧ b3 = true ∧ b4 = false) ∨ (b1 = true ∧ b3 = true ∧ b2 = false ∧ b4 = false) := by
  unfold Sh at fx fy
  rcases q1 with ⟨rfl, q1⟩ | ⟨rfl, q1⟩ <;> rcases q2 with ⟨rfl, q2⟩ | ⟨rfl, q2⟩ <;> rcases q3 with ⟨rfl, q3⟩ | ⟨rfl, q3⟩ <;> rcases q4 with ⟨rfl, q4⟩ | ⟨rfl, q4⟩ <;> simp <;> omega

theorem Sh.mid {M v f t x : Nat} (h : Sh M v f t x) (h0 : 0 < x) (h1 : x < M) : x + f = t + v := by unfold Sh at h; omega
theorem Sh.lo {M v f t x : Nat} (h : Sh M v f t x) (h0 : x = 0) (h1 : t ≠ 0) (h2 : 0 < M) : v ≠ f := by unfold Sh at h; omega
theorem Sh.hi {M v f t x : Nat} (h : Sh M v f t x) (h0 : x = M) (h1 : t ≠ M) (ht : t ≤ M) : v ≠ f := by unfold Sh at h; omega
theorem bool_ne {b c : Bool} {p q : Prop} (h1 : b = true ∧ p ∨ b = false ∧ ¬ p) (h2 : c = true ∧ q ∨ c = false ∧ ¬ q) (h : p ↔ q) : b = c := by
  rcases h1 with ⟨rfl, h1⟩ | ⟨rfl, h1⟩ <;> rcases h2 with ⟨rfl, h2⟩ | ⟨rfl, h2⟩ <;> simp_all
theorem back_all {v u x y mx mn ux un d1 f t : Nat} (h1 : x + f = t + v) (h2 : y + f = t + u) (hmx : (x < y ∧ mx = y) ∨ (y ≤ x ∧ mx = x)) (hmn : (y < x ∧ mn = y) ∨ (x ≤ y ∧ mn = x)) (hux : (u < v ∧ ux = v) ∨ (v ≤ u ∧ ux = u)) (hun : (v < u ∧ un = v) ∨ (u ≤ v ∧ un = u)) (e1 : d1 = mx - mn) : ux - un = d1 := by
  subst e1
  rcases hmx with ⟨a1, rfl⟩ | ⟨a1, rfl⟩ <;> rcases hmn with ⟨a2, rfl⟩ | ⟨a2, rfl⟩ <;> rcases hux with ⟨a3, rfl⟩ | ⟨a3, rfl⟩ <;> rcases hun with ⟨a4, rfl⟩ | ⟨a4, rfl⟩ <;> omega
theorem Sh.back {M v f t x : Nat} (h : x + f = t + v) (hv : v ≤ M) : Sh M x t f v := by unfold Sh; omega

theorem shift_all {M v u f t x y mx mn ux un d1 : Nat} {b5 b6 b7 b8 bb bc bd be bf bg : Bool} (hM : 18446744073709551615 = M) (h0 : 0 < M) (fx : Sh M v f t x) (fy : Sh M u f t y) (hv : v ≤ M) (ht : t ≤ M) (hx : x ≤ M)
    (hmx : (x < y ∧ mx = y) ∨ (y ≤ x ∧ mx = x)) (hmn : (y < x ∧ mn = y) ∨ (x ≤ y ∧ mn = x)) (hux : (u < v ∧ ux = v) ∨ (v ≤ u ∧ ux = u)) (hun : (v < u ∧ un = v) ∨ (u ≤ v ∧ un = u)) (e1 : d1 = mx - mn)
    (B5 : b5 = true ∧ 0 < x ∨ b5 = false ∧ x ≤ 0) (B6 : b6 = true ∧ x < M ∨ b6 = false ∧ M ≤ x) (B7 : b7 = true ∧ 0 < y ∨ b7 = false ∧ y ≤ 0) (B8 : b8 = true ∧ y < M ∨ b8 = false ∧ M ≤ y)
    (BB : bb = true ∧ x = t ∨ bb = false ∧ x ≠ t) (BC : bc = true ∧ v = f ∨ bc = false ∧ v ≠ f) (BD : bd = true ∧ x = M ∨ bd = false ∧ x ≠ M) (BE : be = true ∧ t = M ∨ be = false ∧ t ≠ M) (BF : bf = true ∧ x = 0 ∨ bf = false ∧ x ≠ 0) (BG : bg = true ∧ t = 0 ∨ bg = false ∧ t ≠ 0) :
    ((b5 = false ∧ (bb = bc ∨ bb = true ∧ bc = false ∧ bd = false ∧ bf = true ∧ bg = true ∨ bb = false ∧ bc = true ∧ bd = false ∧ bf = true ∧ bg = true)) ∨ (b5 = true ∧ b6 = false ∧ (bb = bc ∨ bb = true ∧ bc = false ∧ bd = true ∧ be = true ∨ bb = false ∧ bc = true ∧ bd = true ∧ be = true)) ∨
      (b5 = true ∧ b6 = true ∧ (sShift x t f = v ∧ True) ∧ bb = bc ∧ (b7 = false ∨ b7 = true ∧ b8 = false ∨ b7 = true ∧ b8 = true ∧ (sSub ux un = d1 ∧ True)))) := by
  rcases B5 with ⟨rfl, B5⟩ | ⟨rfl, B5⟩
  · rcases B6 with ⟨rfl, B6⟩ | ⟨rfl, B6⟩
    · have m1 := fx.mid B5 B6
      refine .inr (.inr ⟨rfl, rfl, ⟨sShift_eq hM (Sh.back m1 hv), trivial⟩, bool_ne BB BC (by omega), ?_⟩)
      rcases B7 with ⟨rfl, B7⟩ | ⟨rfl, B7⟩
      · rcases B8 with ⟨rfl, B8⟩ | ⟨rfl, B8⟩
        · exact .inr (.inr ⟨rfl, rfl, back_all m1 (fy.mid B7 B8) hmx hmn hux hun e1, trivial⟩)
        · exact .inr (.inl ⟨rfl, rfl⟩)
      · exact .inl rfl
    · refine .inr (.inl ⟨rfl, rfl, ?_⟩)
      have hxM : x = M := by omega
      obtain rfl : bd = true := BD.elim (·.1) fun h => (h.2 hxM).elim
      rcases BE with ⟨rfl, BE⟩ | ⟨rfl, BE⟩
      · cases bb <;> cases bc <;> simp
      · have := fx.hi hxM BE ht
        exact .inl (bool_ne BB BC ⟨fun h => (BE (by omega)).elim, fun h => (this h).elim⟩)
  · refine .inl ⟨rfl, ?_⟩
    have hx0 : x = 0 := by omega
    obtain rfl : bf = true := BF.elim (·.1) fun h => (h.2 hx0).elim
    obtain rfl : bd = false := BD.elim (fun h => absurd h.2 (by omega)) (·.1)
    rcases BG with ⟨rfl, BG⟩ | ⟨rfl, BG⟩
    · cases bb <;> cases bc <;> simp
    · have := fx.lo hx0 BG h0
      exact .inl (bool_ne BB BC ⟨fun h => (BG (by omega)).elim, fun h => (this h).elim⟩)

set_option maxRecDepth 20000 in
set_option maxHeartbeats 3200000 in
theorem SatShifts_any (v u f t : Nat) (w : World) (hv : v < 18446744073709551616) (hu : u < 18446744073709551616) (hf : f < 18446744073709551616) (ht : t < 18446744073709551616) :
    Calls Try.prog 6 #[.int .u64 (v : Int), .int .u64 (u : Int), .int .u64 (f : Int), .int .u64 (t : Int)] w fun e w' => e = .returned (.bool true) ∧ Below w.heap.size w w' := by
  obtain ⟨M, hM⟩ : ∃ M, 18446744073709551615 = M := ⟨_, rfl⟩
  have hM0 : 0 < M := by omega
  have hMI : (18446744073709551615 : Int) = (M : Int) := by rw [← hM]; rfl
  have fx := sShift_is hM v f t
  have fy := sShift_is hM u f t
  obtain ⟨x, hx⟩ : ∃ x, sShift v f t = x := ⟨_, rfl⟩
  obtain ⟨y, hy⟩ : ∃ y, sShift u f t = y := ⟨_, rfl⟩
  rw [hx] at fx
  rw [hy] at fy
  have hx2 := fx.le (show t ≤ M by omega)
  have hy2 := fy.le (show t ≤ M by omega)
  obtain ⟨z, hz⟩ : ∃ z, sAdd t v = z := ⟨_, rfl⟩
  obtain ⟨z2, hz2⟩ : ∃ z, sSub t f = z := ⟨_, rfl⟩
  have hvM : v ≤ M := by omega
  have htM : t ≤ M := by omega
  have huM : u ≤ M := by omega
  have hfM : f ≤ M := by omega
  have k1 : sShift v f f = v := sShift_eq hM (by unfold Sh; omega)
  have k2 : sShift f f t = t := sShift_eq hM (by unfold Sh; omega)
  have k3 : sShift v 0 t = z := sShift_eq hM (by have := sAdd_is hM t v; unfold Sh; omega)
  have k4 : sShift 0 f t = z2 := sShift_eq hM (by have : sSub t f = t - f := rfl; unfold Sh; omega)
  obtain ⟨mx, hmx⟩ : ∃ m, (x < y ∧ m = y) ∨ (y ≤ x ∧ m = x) := by by_cases h : x < y; exact ⟨y, .inl ⟨h, rfl⟩⟩; exact ⟨x, .inr ⟨by omega, rfl⟩⟩
  obtain ⟨mn, hmn⟩ : ∃ m, (y < x ∧ m = y) ∨ (x ≤ y ∧ m = x) := by by_cases h : y < x; exact ⟨y, .inl ⟨h, rfl⟩⟩; exact ⟨x, .inr ⟨by omega, rfl⟩⟩
  obtain ⟨ux, hux⟩ : ∃ m, (u < v ∧ m = v) ∨ (v ≤ u ∧ m = u) := by by_cases h : u < v; exact ⟨v, .inl ⟨h, rfl⟩⟩; exact ⟨u, .inr ⟨by omega, rfl⟩⟩
  obtain ⟨un, hun⟩ : ∃ m, (v < u ∧ m = v) ∨ (u ≤ v ∧ m = u) := by by_cases h : v < u; exact ⟨v, .inl ⟨h, rfl⟩⟩; exact ⟨u, .inr ⟨by omega, rfl⟩⟩
  have m1 : (if (x : Int) < (y : Int) then (y : Int) else (x : Int)) = (mx : Int) := by split <;> omega
  have m1' : (if x < y then (y : Int) else (x : Int)) = (mx : Int) := by split <;> omega
  have m2 : (if (y : Int) < (x : Int) then (y : Int) else (x : Int)) = (mn : Int) := by split <;> omega
  have m2' : (if y < x then (y : Int) else (x : Int)) = (mn : Int) := by split <;> omega
  have m3 : (if (u : Int) < (v : Int) then (v : Int) else (u : Int)) = (ux : Int) := by split <;> omega
  have m3' : (if u < v then (v : Int) else (u : Int)) = (ux : Int) := by split <;> omega
  have m4 : (if (v : Int) < (u : Int) then (v : Int) else (u : Int)) = (un : Int) := by split <;> omega
  have m4' : (if v < u then (v : Int) else (u : Int)) = (un : Int) := by split <;> omega
  have D1 : ∃ d, sSub mx mn = d := ⟨_, rfl⟩
  obtain ⟨d1, e1⟩ := D1
  obtain ⟨d2, e2⟩ : ∃ d, sSub ux un = d := ⟨_, rfl⟩
  obtain ⟨b1, c1, c1', B1⟩ := tLe v u
  obtain ⟨b2, c2, c2', B2⟩ := tLt y x
  obtain ⟨b3, c3, c3', B3⟩ := tLe u v
  obtain ⟨b4, c4, c4', B4⟩ := tLt x y
  obtain ⟨b5, c5, c5', B5⟩ := tLt 0 x
  replace c5 : decide ((0 : Int) < (x : Int)) = b5 := c5
  obtain ⟨b6, c6, c6', B6⟩ := tLt x M
  rw [← hMI] at c6
  rw [← hM] at c6'
  obtain ⟨b7, c7, c7', B7⟩ := tLt 0 y
  replace c7 : decide ((0 : Int) < (y : Int)) = b7 := c7
  obtain ⟨b8, c8, c8', B8⟩ := tLt y M
  rw [← hMI] at c8
  rw [← hM] at c8'
  obtain ⟨bb, cb, cb', cb'', cb''', BB⟩ := tEq x t
  obtain ⟨bc, cc, cc', cc'', cc''', BC⟩ := tEq v f
  obtain ⟨bd, cd, cd', cd'', cd''', BD⟩ := tEq x M
  rw [← hMI] at cd cd'''
  rw [← hM] at cd' cd''
  obtain ⟨be, ce, ce', ce'', ce''', BE⟩ := tEq t M
  rw [← hMI] at ce ce'''
  rw [← hM] at ce' ce''
  obtain ⟨bf, cf, cf', cf'', cf''', BF⟩ := tEq x 0
  replace cf : ((x : Int) == 0) = bf := cf
  replace cf''' : decide ((x : Int) = 0) = bf := cf'''
  obtain ⟨bg, cg, cg', cg'', cg''', BG⟩ := tEq t 0
  replace cg : ((t : Int) == 0) = bg := cg
  replace cg''' : decide ((t : Int) = 0) = bg := cg'''
  have e1' : d1 = mx - mn := e1.symm
  have e2' : d2 = ux - un := e2.symm
  have F := Lib.hid (And.intro fx (And.intro fy (And.intro hmx (And.intro hmn (And.intro hux (And.intro hun (And.intro e1' e2')))))))
  have HH := Lib.hid (And.intro hvM (And.intro huM (And.intro hfM (And.intro htM (And.intro hx2 hy2)))))
  have L1 : mx < 18446744073709551616 ∧ mn < 18446744073709551616 ∧ ux < 18446744073709551616 ∧ un < 18446744073709551616 ∧ x < 18446744073709551616 := by omega
  have HL := Lib.hid L1
  have HX := Lib.hid hx
  have HY := Lib.hid hy
  have HZ := Lib.hid hz
  have HZ2 := Lib.hid hz2
  have K1 := Lib.hid k1
  have K2 := Lib.hid k2
  have K3 := Lib.hid k3
  have K4 := Lib.hid k4
  have E1 := Lib.hid e1
  have hV := Lib.hid hv
  have hU := Lib.hid hu
  have hF := Lib.hid hf
  have hT := Lib.hid ht
  clear c6' c8' cd' cd'' ce' ce''
  clear hx hy hz hz2 k1 k2 k3 k4 fx fy hmx hmn hux hun e1 e2 e1' e2' L1 hvM huM hfM htM hx2 hy2 hv hu hf ht hMI
  have hcase : (b1 = true ∧ b3 = false ∧ b2 = false) ∨ (b1 = false ∧ b3 = true ∧ b4 = false) ∨ (b1 = true ∧ b3 = true ∧ b2 = false ∧ b4 = false) := by
    obtain ⟨fx, fy, -⟩ := F.out
    have q1 := B1.out
    have q2 := B2.out
    have q3 := B3.out
    have q4 := B4.out
    exact shift_order fx fy HH.out.2.2.2.1 q1 q2 q3 q4
  have hc2 : ((b5 = false ∧ (bb = bc ∨ bb = true ∧ bc = false ∧ bd = false ∧ bf = true ∧ bg = true ∨ bb = false ∧ bc = true ∧ bd = false ∧ bf = true ∧ bg = true)) ∨ (b5 = true ∧ b6 = false ∧ (bb = bc ∨ bb = true ∧ bc = false ∧ bd = true ∧ be = true ∨ bb = false ∧ bc = true ∧ bd = true ∧ be = true)) ∨
      (b5 = true ∧ b6 = true ∧ (sShift x t f = v ∧ True) ∧ bb = bc ∧ (b7 = false ∨ b7 = true ∧ b8 = false ∨ b7 = true ∧ b8 = true ∧ (sSub ux un = d1 ∧ True)))) := by
    obtain ⟨fx, fy, hmx, hmn, hux, hun, e1, e2⟩ := F.out
    obtain ⟨hvM, huM, hfM, htM, hx2, hy2⟩ := HH.out
    exact shift_all hM hM0 fx fy hvM htM hx2 hmx hmn hux hun e1 B5.out B6.out B7.out B8.out BB.out BC.out BD.out BE.out BF.out BG.out
  have HC2 := Lib.hid hc2
  clear hc2 hM hM0
  rcases hcase with ⟨rfl, rfl, rfl⟩ | ⟨rfl, rfl, rfl⟩ | ⟨rfl, rfl, rfl, rfl⟩
  all_goals go_enter Try.func6, Try.ntmps6
  all_goals go_wp2_with (first
    | (go_at_call 13; refine (awake_any _).mono ?_; rintro e w1 ⟨rfl, hb1⟩)
    | (go_at_call 18; refine (Shift_any _ _ _ _ (by first | exact hV.out | exact hU.out | exact hF.out | exact HL.out.2.2.2.2) (by first | exact hF.out | exact hT.out) (by first | exact hF.out | exact hT.out)).mono ?_; (first | rw [HX.out] | rw [HY.out] | rw [K1.out] | rw [K2.out] | rw [HI.out.1]); rintro e w2 ⟨rfl, rfl⟩))
  all_goals rcases HC2.out with ⟨rfl, rfl | ⟨rfl, rfl, rfl, rfl, rfl⟩ | ⟨rfl, rfl, rfl, rfl, rfl⟩⟩ | ⟨rfl, rfl, rfl | ⟨rfl, rfl, rfl, rfl⟩ | ⟨rfl, rfl, rfl, rfl⟩⟩ | ⟨rfl, rfl, hi, rfl, rfl | ⟨rfl, rfl⟩ | ⟨rfl, rfl, hj⟩⟩
  all_goals clear HC2
  all_goals try have HI := Lib.hid hi
  all_goals try clear hi
  all_goals try have HJ := Lib.hid hj
  all_goals try clear hj
  all_goals go_wp2_with (first
    | (go_at_call 18; refine (Shift_lit v 0 t z (by rfl) (by rfl) (by rfl) hV.out (by decide) hT.out K3.out rfl _).mono ?_; rintro e w2 ⟨rfl, rfl⟩)
    | (go_at_call 18; refine (Shift_lit 0 f t z2 (by rfl) (by rfl) (by rfl) (by decide) hF.out hT.out K4.out rfl _).mono ?_; rintro e w2 ⟨rfl, rfl⟩)
    | (go_at_call 18; refine (Shift_any _ _ _ _ (by first | exact hV.out | exact hU.out | exact hF.out | exact HL.out.2.2.2.2) (by first | exact hF.out | exact hT.out) (by first | exact hF.out | exact hT.out)).mono ?_; (first | rw [HX.out] | rw [HY.out] | rw [K1.out] | rw [K2.out] | rw [HI.out.1]); rintro e w2 ⟨rfl, rfl⟩)
    | (go_at_call 19; refine (Add_any _ _ _ (by exact hT.out) (by exact hV.out)).mono ?_; rw [HZ.out]; rintro e w2 ⟨rfl, rfl⟩)
    | (go_at_call 20; refine (Sub_any _ _ _ (by first | exact hT.out | exact HL.out.1 | exact HL.out.2.2.1) (by first | exact hF.out | exact HL.out.2.1 | exact HL.out.2.2.2.1)).mono ?_; (first | rw [HZ2.out] | rw [E1.out] | rw [HJ.out.1]); rintro e w2 ⟨rfl, rfl⟩))
  all_goals (first | (go_ret; exact ⟨by simp, hb1⟩) | (trace "STUCK"; trace_state; sorry))
end Go.Proofs.Ytoglolhjfbpnpaa
