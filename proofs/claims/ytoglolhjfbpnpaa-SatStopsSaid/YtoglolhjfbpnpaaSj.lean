/- Walks: SatStops. -/
import Derived.Test.YtoglolhjfbpnpaaProg
import Derived.Test.YtoglolhjfbpnpaaTd
import Derived.Test.YtoglolhjfbpnpaaSe
namespace Go.Proofs.Ytoglolhjfbpnpaa
open Go.RowKit
set_option linter.unusedVariables false

theorem sAdd_M {M : Nat} (hM : 18446744073709551615 = M) (a b : Nat) : (a + b ≤ M ∧ sAdd a b = a + b) ∨ (M < a + b ∧ sAdd a b = M) := by
  subst hM; unfold sAdd; split <;> omega
theorem sMul_M {M : Nat} (hM : 18446744073709551615 = M) (a b : Nat) : (a * b ≤ M ∧ sMul a b = a * b) ∨ (M < a * b ∧ sMul a b = M) := by
  subst hM; unfold sMul; split <;> omega
theorem sAdd_comm (a b : Nat) : sAdd b a = sAdd a b := by unfold sAdd; rw [Nat.add_comm]
theorem sMul_comm (a b : Nat) : sMul b a = sMul a b := by unfold sMul; rw [Nat.mul_comm]
theorem sAdd_assoc {M : Nat} (hM : 18446744073709551615 = M) (a b c : Nat) : sAdd a (sAdd b c) = sAdd (sAdd a b) c := by
  have h1 := sAdd_M hM b c
  have h2 := sAdd_M hM a (sAdd b c)
  have h3 := sAdd_M hM a b
  have h4 := sAdd_M hM (sAdd a b) c
  omega
theorem sAdd_zero (a : Nat) (h : a < 18446744073709551616) : sAdd 0 a = a := by unfold sAdd; rw [Nat.zero_add, if_pos h]
theorem sSum3 (a b c : Nat) (h : a < 18446744073709551616) : sSum [a, b, c] = sAdd (sAdd a b) c := by
  show sAdd (sAdd (sAdd 0 a) b) c = _
  rw [sAdd_zero a h]
theorem sSum3' {M : Nat} (hM : 18446744073709551615 = M) (a b c : Nat) (h : c < 18446744073709551616) : sSum [c, a, b] = sAdd (sAdd a b) c := by
  rw [sSum3 c a b h]
  have h1 := sAdd_M hM c a
  have h2 := sAdd_M hM (sAdd c a) b
  have h3 := sAdd_M hM a b
  have h4 := sAdd_M hM (sAdd a b) c
  omega
theorem sSub_sub {M : Nat} (hM : 18446744073709551615 = M) (a b c : Nat) (ha : a ≤ M) : sSub a (sAdd b c) = sSub (sSub a b) c := by
  have h1 := sAdd_M hM b c
  unfold sSub
  omega
theorem sAdd_max (c : Nat) : sAdd 18446744073709551615 c = 18446744073709551615 := by unfold sAdd; split <;> omega
theorem sMul_one (c : Nat) (h : c < 18446744073709551616) : sMul 1 c = c := by unfold sMul; rw [Nat.one_mul, if_pos h]
theorem sMul_zero (c : Nat) : sMul 0 c = 0 := by unfold sMul; rw [Nat.zero_mul]; rfl
theorem mul_ge {a b : Nat} (h : 0 < a) : b ≤ a * b := Nat.le_mul_of_pos_left b h
theorem mul_ge' {a b : Nat} (h : 0 < b) : a ≤ a * b := Nat.le_mul_of_pos_right a h

theorem sees3 (w : World) (a b c : Nat) : Sees (w.alloc (.cells #[.int .u64 (a : Int), .int .u64 (b : Int), .int .u64 (c : Int)] 22)) 1 (some ⟨w.heap.size, 0, none⟩) 3 3 (([a, b, c].map Int.ofNat).map (Value.int .u64)) :=
  sees_block (heap_alloc_new _ _) rfl (by decide) (by decide) ⟨[], rfl⟩
theorem sees3g (w : World) (g a b c : Nat) (hg : g = w.heap.size) : Sees (w.alloc (.cells #[.int .u64 (a : Int), .int .u64 (b : Int), .int .u64 (c : Int)] 22)) 1 (some ⟨g, 0, none⟩) 3 3 (([a, b, c].map Int.ofNat).map (Value.int .u64)) := by
  subst hg; exact sees3 w a b c
theorem lt3 {a b c : Nat} (ha : a < 18446744073709551616) (hb : b < 18446744073709551616) (hc : c < 18446744073709551616) : ∀ x ∈ [a, b, c], x < 18446744073709551616 := by
  intro x hx; simp only [List.mem_cons, List.not_mem_nil, or_false] at hx; rcases hx with rfl | rfl | rfl <;> assumption

set_option maxRecDepth 20000 in
set_option maxHeartbeats 6400000 in
theorem SatStops_any (a b c : Nat) (w : World) (ha0 : a < 18446744073709551616) (hb0 : b < 18446744073709551616) (hc0 : c < 18446744073709551616) :
    Calls Try.prog 11 #[.int .u64 (a : Int), .int .u64 (b : Int), .int .u64 (c : Int)] w fun e w' => e = .returned (.bool true) ∧ Below w.heap.size w w' := by
  obtain ⟨M, hM⟩ : ∃ M, 18446744073709551615 = M := ⟨_, rfl⟩
  have hMI : (18446744073709551615 : Int) = (M : Int) := by rw [← hM]; rfl
  have haM : a ≤ M := by omega
  have hbM : b ≤ M := by omega
  have hcM : c ≤ M := by omega
  have k1 := sAdd_comm a b
  have k2 := sMul_comm a b
  have k3 := sAdd_assoc hM a b c
  have k4 := sSum3 a b c ha0
  have k5 := sSum3' hM a b c hc0
  have k6 := sSub_sub hM a b c haM
  have f1 := sAdd_M hM a b
  have f2 := sMul_M hM a b
  have f3 : a > 0 → b ≤ a * b := mul_ge
  have f4 : b > 0 → a ≤ a * b := mul_ge'
  have hpI : ((a * b : Nat) : Int) = (a : Int) * (b : Int) := Int.natCast_mul a b
  obtain ⟨s, es⟩ : ∃ s, sAdd a b = s := ⟨_, rfl⟩
  obtain ⟨p, ep⟩ : ∃ s, sMul a b = s := ⟨_, rfl⟩
  obtain ⟨z, ez⟩ : ∃ s, sSub a b = s := ⟨_, rfl⟩
  obtain ⟨u, eu⟩ : ∃ s, sAdd b c = s := ⟨_, rfl⟩
  rw [es] at k1 k3 k4 k5 f1
  rw [ep] at k2 f2
  rw [ez] at k6
  rw [eu] at k3 k6
  obtain ⟨t, et⟩ : ∃ x, sAdd s c = x := ⟨_, rfl⟩
  rw [et] at k3 k4 k5
  obtain ⟨x, ex⟩ : ∃ x, sSub z c = x := ⟨_, rfl⟩
  rw [ex] at k6
  obtain ⟨mx, hmx⟩ : ∃ m, (a < b ∧ m = b) ∨ (b ≤ a ∧ m = a) := by by_cases h : a < b; exact ⟨b, .inl ⟨h, rfl⟩⟩; exact ⟨a, .inr ⟨by omega, rfl⟩⟩
  have m1 : (if (a : Int) < (b : Int) then (b : Int) else (a : Int)) = (mx : Int) := by split <;> omega
  have m1' : (if a < b then (b : Int) else (a : Int)) = (mx : Int) := by split <;> omega
  have z0 : z = a - b := ez.symm
  have t1 : decide ((s : Int) < (mx : Int)) = false := by simp; omega
  have t1' : decide (s < mx) = false := by simp; omega
  have t2 : decide ((a : Int) < (z : Int)) = false := by simp; omega
  have t2' : decide (a < z) = false := by simp; omega
  have g1 : 0 < a → b ≤ p := by omega
  have g2 : 0 < b → a ≤ p := by omega
  have q1 : (decide ((0 : Int) < (a : Int)) = false ∧ decide (0 < a) = false ∧ a = 0) ∨ (decide ((0 : Int) < (a : Int)) = true ∧ decide (0 < a) = true ∧ decide ((p : Int) < (b : Int)) = false ∧ decide (p < b) = false ∧ 0 < a) := by simp; omega
  have q2 : (decide ((0 : Int) < (b : Int)) = false ∧ decide (0 < b) = false ∧ b = 0) ∨ (decide ((0 : Int) < (b : Int)) = true ∧ decide (0 < b) = true ∧ decide ((p : Int) < (a : Int)) = false ∧ decide (p < a) = false ∧ 0 < b) := by simp; omega
  have q3 : (decide ((s : Int) < (M : Int)) = false ∧ M ≤ s) ∨ (decide ((s : Int) < (M : Int)) = true ∧ IntKind.u64.wrap ((a : Int) + (b : Int)) = (s : Int) ∧ Hid (sSub s b = a) ∧ s < M) := by
    by_cases h : s < M
    · exact .inr ⟨by simp; omega, by rw [IntWalk.u64_in _ (by omega)]; omega, Lib.hid (by unfold sSub; omega), h⟩
    · exact .inl ⟨by simp; omega, by omega⟩
  have q4 : (decide ((p : Int) < (M : Int)) = false ∧ M ≤ p) ∨ (decide ((p : Int) < (M : Int)) = true ∧ IntKind.u64.wrap ((a : Int) * (b : Int)) = (p : Int) ∧ p < M) := by
    by_cases h : p < M
    · exact .inr ⟨by simp; omega, by rw [← hpI, IntWalk.u64_in _ (by omega)]; omega, h⟩
    · exact .inl ⟨by simp; omega, by omega⟩
  rw [← hMI] at q3 q4
  have q5 : (((z : Int) == 0) = true ∧ decide ((a : Int) ≤ (b : Int)) = true ∧ decide (a ≤ b) = true ∧ decide ((a : Int) < (b : Int)) = true ∧ decide (a < b) = true ∧ a < b) ∨
      (((z : Int) == 0) = true ∧ decide ((a : Int) ≤ (b : Int)) = true ∧ decide (a ≤ b) = true ∧ decide ((a : Int) < (b : Int)) = false ∧ decide (a < b) = false ∧ IntKind.u64.wrap ((a : Int) - (b : Int)) = (z : Int) ∧ a = b) ∨
      (((z : Int) == 0) = false ∧ decide ((a : Int) ≤ (b : Int)) = false ∧ decide (a ≤ b) = false ∧ decide ((a : Int) < (b : Int)) = false ∧ decide (a < b) = false ∧ IntKind.u64.wrap ((a : Int) - (b : Int)) = (z : Int) ∧ b < a) := by
    by_cases h1 : a < b
    · exact .inl ⟨by simp; omega, by simp; omega, by simp; omega, by simp; omega, by simp; omega, h1⟩
    · by_cases h2 : a = b
      · exact .inr (.inl ⟨by simp; omega, by simp; omega, by simp; omega, by simp; omega, by simp; omega, by rw [IntWalk.u64_in _ (by omega)]; omega, h2⟩)
      · exact .inr (.inr ⟨by simp; omega, by simp; omega, by simp; omega, by simp; omega, by simp; omega, by rw [IntWalk.u64_in _ (by omega)]; omega, by omega⟩)
  have hA := Lib.hid ha0
  have hB := Lib.hid hb0
  have hC := Lib.hid hc0
  have hS : Hid (s < 18446744073709551616) := Lib.hid (by omega)
  have hZ : Hid (z < 18446744073709551616) := Lib.hid (by omega)
  have hU : Hid (u < 18446744073709551616) := Lib.hid (by rw [← eu]; exact sAdd_lt b c)
  have K1 := Lib.hid (And.intro es k1)
  have K2 := Lib.hid (And.intro ep k2)
  have K3 := Lib.hid (And.intro et k3)
  have K4 := Lib.hid (And.intro k4 k5)
  have K6 := Lib.hid (And.intro ex k6)
  have EU := Lib.hid eu
  have EZ := Lib.hid ez
  have f5 : a = 0 → a * b = 0 := fun h => by rw [h, Nat.zero_mul]
  have f6 : b = 0 → a * b = 0 := fun h => by rw [h, Nat.mul_zero]
  clear k1 k2 k3 k4 k5 k6 es ep ez eu et ex hmx z0 ha0 hb0 hc0 hMI hpI
  have QQ := Lib.hid (And.intro q3 (And.intro q4 (And.intro q5 (And.intro f1 (And.intro f2 (And.intro f3 (And.intro f4 (And.intro f5 (And.intro f6 (And.intro haM hbM))))))))))
  have QM := Lib.hid hM
  clear f1 f2 f3 f4 f5 f6 haM hbM hcM hM g1 g2 q3 q4 q5
  have Q12 := Lib.hid (And.intro q1 q2)
  clear q1 q2
  go_enter Try.func11, Try.ntmps11
  go_wp2_with (first
    | (go_at_call 13; refine (awake_any _).mono ?_; rintro e w1 ⟨rfl, hb1⟩; have bC := hb1)
    | (go_at_call_of 19 s; refine (Add_any s c _ hS.out hC.out).mono ?_; rw [K3.out.1]; rintro e w2 ⟨rfl, rfl⟩)
    | (go_at_call_of 19 u; refine (Add_any a u _ hA.out hU.out).mono ?_; rw [K3.out.2]; rintro e w2 ⟨rfl, rfl⟩)
    | (go_at_call_of 19 a; refine (Add_any _ _ _ (by first | exact hA.out | exact hB.out) (by first | exact hA.out | exact hB.out)).mono ?_; (first | rw [K1.out.1] | rw [K1.out.2]); rintro e w2 ⟨rfl, rfl⟩)
    | (go_at_call_of 19 b; refine (Add_any b c _ hB.out hC.out).mono ?_; rw [EU.out]; rintro e w2 ⟨rfl, rfl⟩)
    | (go_at_call 19; refine (Add_lit (C := 18446744073709551615) 18446744073709551615 c 18446744073709551615 (by rfl) (by rfl) (by decide) hC.out (sAdd_max c) rfl _).mono ?_; rintro e w2 ⟨rfl, rfl⟩)
    | (go_at_call_of 23 a; refine (Mul_any _ _ _ (by first | exact hA.out | exact hB.out) (by first | exact hA.out | exact hB.out)).mono ?_; (first | rw [K2.out.1] | rw [K2.out.2]); rintro e w3 ⟨rfl, hb3⟩; have bC := below_step bC hb3)
    | (go_at_call 23; refine (Mul_lit (C := 0) 0 c 0 (by rfl) (by rfl) (by decide) hC.out (sMul_zero c) rfl _).mono ?_; rintro e w3 ⟨rfl, hb3⟩; have bC := below_step bC hb3)
    | (go_at_call 23; refine (Mul_lit (C := (c : Int)) 1 c c (by rfl) (by rfl) (by decide) hC.out (sMul_one c hC.out) rfl _).mono ?_; rintro e w3 ⟨rfl, hb3⟩; have bC := below_step bC hb3)
    | (go_at_call_of 20 s; refine (Sub_any s b _ hS.out hB.out).mono ?_; rw [HS.out]; rintro e w2 ⟨rfl, rfl⟩)
    | (go_at_call_of 20 z; refine (Sub_any z c _ hZ.out hC.out).mono ?_; rw [K6.out.1]; rintro e w2 ⟨rfl, rfl⟩)
    | (go_at_call_of 20 u; refine (Sub_any a u _ hA.out hU.out).mono ?_; rw [K6.out.2]; rintro e w2 ⟨rfl, rfl⟩)
    | (go_at_call_of 20 a; refine (Sub_any a b _ hA.out hB.out).mono ?_; rw [EZ.out]; rintro e w2 ⟨rfl, rfl⟩)
    | (go_at_call 20; refine (Sub_lit (C := 0) 0 c 0 (by rfl) (by rfl) (by decide) hC.out (Nat.zero_sub c) rfl _).mono ?_; rintro e w2 ⟨rfl, rfl⟩)
    | (go_at_call 22; refine (Sum_any _ _ _ [a, b, c] _ (by exact sees3g _ _ a b c (by rfl)) (lt3 hA.out hB.out hC.out)).mono ?_; rw [K4.out.1]; rintro e w2 ⟨rfl, rfl⟩; have bC := bC.alloc bC.size (.cells #[.int .u64 (a : Int), .int .u64 (b : Int), .int .u64 (c : Int)] 22))
    | (go_at_call 22; refine (Sum_any _ _ _ [c, a, b] _ (by exact sees3g _ _ c a b (by simp)) (lt3 hC.out hA.out hB.out)).mono ?_; rw [K4.out.2]; rintro e w2 ⟨rfl, rfl⟩; have bC := bC.alloc bC.size (.cells #[.int .u64 (c : Int), .int .u64 (a : Int), .int .u64 (b : Int)] 22)))
  obtain ⟨q1, q2⟩ := Q12.out
  rcases q1 with ⟨a1, a1', aa⟩ | ⟨a1, a1', a2, a2', aa⟩
  all_goals rcases q2 with ⟨b1, b1', bb⟩ | ⟨b1, b1', b2, b2', bb⟩
  all_goals have QA := Lib.hid aa
  all_goals have QB := Lib.hid bb
  all_goals clear aa bb Q12
  all_goals go_wp2_with (first
    | (go_at_call_of 19 s; refine (Add_any s c _ hS.out hC.out).mono ?_; rw [K3.out.1]; rintro e w2 ⟨rfl, rfl⟩)
    | (go_at_call_of 19 u; refine (Add_any a u _ hA.out hU.out).mono ?_; rw [K3.out.2]; rintro e w2 ⟨rfl, rfl⟩)
    | (go_at_call_of 19 a; refine (Add_any _ _ _ (by first | exact hA.out | exact hB.out) (by first | exact hA.out | exact hB.out)).mono ?_; (first | rw [K1.out.1] | rw [K1.out.2]); rintro e w2 ⟨rfl, rfl⟩)
    | (go_at_call_of 19 b; refine (Add_any b c _ hB.out hC.out).mono ?_; rw [EU.out]; rintro e w2 ⟨rfl, rfl⟩)
    | (go_at_call 19; refine (Add_lit (C := 18446744073709551615) 18446744073709551615 c 18446744073709551615 (by rfl) (by rfl) (by decide) hC.out (sAdd_max c) rfl _).mono ?_; rintro e w2 ⟨rfl, rfl⟩)
    | (go_at_call_of 23 a; refine (Mul_any _ _ _ (by first | exact hA.out | exact hB.out) (by first | exact hA.out | exact hB.out)).mono ?_; (first | rw [K2.out.1] | rw [K2.out.2]); rintro e w3 ⟨rfl, hb3⟩; have bC := below_step bC hb3)
    | (go_at_call 23; refine (Mul_lit (C := 0) 0 c 0 (by rfl) (by rfl) (by decide) hC.out (sMul_zero c) rfl _).mono ?_; rintro e w3 ⟨rfl, hb3⟩; have bC := below_step bC hb3)
    | (go_at_call_of 20 s; refine (Sub_any s b _ hS.out hB.out).mono ?_; rw [HS.out]; rintro e w2 ⟨rfl, rfl⟩)
    | (go_at_call_of 20 z; refine (Sub_any z c _ hZ.out hC.out).mono ?_; rw [K6.out.1]; rintro e w2 ⟨rfl, rfl⟩)
    | (go_at_call_of 20 u; refine (Sub_any a u _ hA.out hU.out).mono ?_; rw [K6.out.2]; rintro e w2 ⟨rfl, rfl⟩)
    | (go_at_call_of 20 a; refine (Sub_any a b _ hA.out hB.out).mono ?_; rw [EZ.out]; rintro e w2 ⟨rfl, rfl⟩)
    | (go_at_call 20; refine (Sub_lit (C := 0) 0 c 0 (by rfl) (by rfl) (by decide) hC.out (Nat.zero_sub c) rfl _).mono ?_; rintro e w2 ⟨rfl, rfl⟩)
    | (go_at_call 22; refine (Sum_any _ _ _ [a, b, c] _ (by exact sees3g _ _ a b c (by simp)) (lt3 hA.out hB.out hC.out)).mono ?_; rw [K4.out.1]; rintro e w2 ⟨rfl, rfl⟩; have bC := bC.alloc bC.size (.cells #[.int .u64 (a : Int), .int .u64 (b : Int), .int .u64 (c : Int)] 22))
    | (go_at_call 22; refine (Sum_any _ _ _ [c, a, b] _ (by exact sees3g _ _ c a b (by simp)) (lt3 hC.out hA.out hB.out)).mono ?_; rw [K4.out.2]; rintro e w2 ⟨rfl, rfl⟩; have bC := bC.alloc bC.size (.cells #[.int .u64 (c : Int), .int .u64 (a : Int), .int .u64 (b : Int)] 22)))
  all_goals obtain ⟨q3, q4, q5, f1, f2, f3, f4, f5, f6, haM, hbM⟩ := QQ.out
  all_goals rcases q3 with ⟨c1, cc⟩ | ⟨c1, c2, HS, cc⟩
  all_goals rcases q4 with ⟨d1, dd⟩ | ⟨d1, d2, dd⟩
  all_goals rcases q5 with ⟨e1, e2, e3, e4, e5, ee⟩ | ⟨e1, e2, e3, e4, e5, e6, ee⟩ | ⟨e1, e2, e3, e4, e5, e6, ee⟩
  all_goals have aa := QA.out
  all_goals have bb := QB.out
  all_goals try (exfalso; clear QQ; have := QM.out; omega)
  all_goals clear f1 f2 f3 f4 f5 f6 haM hbM cc dd ee aa bb QQ QA QB
  all_goals go_wp2_with (first
    | (go_at_call_of 19 s; refine (Add_any s c _ hS.out hC.out).mono ?_; rw [K3.out.1]; rintro e w2 ⟨rfl, rfl⟩)
    | (go_at_call_of 19 u; refine (Add_any a u _ hA.out hU.out).mono ?_; rw [K3.out.2]; rintro e w2 ⟨rfl, rfl⟩)
    | (go_at_call_of 19 a; refine (Add_any _ _ _ (by first | exact hA.out | exact hB.out) (by first | exact hA.out | exact hB.out)).mono ?_; (first | rw [K1.out.1] | rw [K1.out.2]); rintro e w2 ⟨rfl, rfl⟩)
    | (go_at_call_of 19 b; refine (Add_any b c _ hB.out hC.out).mono ?_; rw [EU.out]; rintro e w2 ⟨rfl, rfl⟩)
    | (go_at_call 19; refine (Add_lit (C := 18446744073709551615) 18446744073709551615 c 18446744073709551615 (by rfl) (by rfl) (by decide) hC.out (sAdd_max c) rfl _).mono ?_; rintro e w2 ⟨rfl, rfl⟩)
    | (go_at_call 23; refine (Mul_lit (C := (c : Int)) 1 c c (by rfl) (by rfl) (by decide) hC.out (sMul_one c hC.out) rfl _).mono ?_; rintro e w3 ⟨rfl, hb3⟩; have bC := below_step bC hb3)
    | (go_at_call_of 20 s; refine (Sub_any s b _ hS.out hB.out).mono ?_; rw [HS.out]; rintro e w2 ⟨rfl, rfl⟩)
    | (go_at_call_of 20 z; refine (Sub_any z c _ hZ.out hC.out).mono ?_; rw [K6.out.1]; rintro e w2 ⟨rfl, rfl⟩)
    | (go_at_call_of 20 u; refine (Sub_any a u _ hA.out hU.out).mono ?_; rw [K6.out.2]; rintro e w2 ⟨rfl, rfl⟩)
    | (go_at_call_of 20 a; refine (Sub_any a b _ hA.out hB.out).mono ?_; rw [EZ.out]; rintro e w2 ⟨rfl, rfl⟩)
    | (go_at_call 20; refine (Sub_lit (C := 0) 0 c 0 (by rfl) (by rfl) (by decide) hC.out (Nat.zero_sub c) rfl _).mono ?_; rintro e w2 ⟨rfl, rfl⟩))
  all_goals go_ret
  all_goals exact ⟨rfl, bC⟩
end Go.Proofs.Ytoglolhjfbpnpaa
