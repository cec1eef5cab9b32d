/- Walks: made; the ticks of made differences. -/
import Derived.Test.YtllbcohfelgamaaProg
import Derived.Test.YtllbcohfelgamaaCg
import Derived.Test.YtllbcohfelgamaaQ6
namespace Go.Proofs.Ytllbcohfelgamaa
open Go.RowKit
set_option linter.unusedVariables false

theorem E_u32 : Elem Try.prog 22 23 (.int .u32 0) 1 4 := elem_of Try.underlying22 (by kernel_rfl) rfl (by decide)

/-- What made makes: CPUs and differences. -/
def mC (n : Int) (l : List Int) : List Int := l.map fun x => x % 64 % n
def mD (l : List Int) : List Int := l.map fun x => x / 64 % 5 * (x / 512)
def U32 (l : List Int) : Prop := ∀ x ∈ l, 0 ≤ x ∧ x ≤ 4294967295
theorem U32.at_ {l : List Int} (h : U32 l) {k : Nat} (hk : k < l.length) : 0 ≤ l.getD k 0 ∧ l.getD k 0 ≤ 4294967295 := by
  have : l.getD k 0 ∈ l := by rw [List.getD_eq_getElem?_getD, List.getElem?_eq_getElem hk]; exact List.getElem_mem hk
  exact h _ this
theorem U32.take {l : List Int} (h : U32 l) (k : Nat) : U32 (l.take k) := fun x hx => h x (List.mem_of_mem_take hx)
theorem mC_step (n : Int) {l : List Int} {k : Nat} (h : k < l.length) : mC n (l.take (k + 1)) = mC n (l.take k) ++ [l.getD k 0 % 64 % n] := by
  unfold mC; rw [take_one h, List.map_append]; rfl
theorem mD_step {l : List Int} {k : Nat} (h : k < l.length) : mD (l.take (k + 1)) = mD (l.take k) ++ [l.getD k 0 / 64 % 5 * (l.getD k 0 / 512)] := by
  unfold mD; rw [take_one h, List.map_append]; rfl
theorem mul_u (a b : Int) (ha : 0 ≤ a ∧ a ≤ 4) (hb : 0 ≤ b ∧ b ≤ 8388607) : 0 ≤ a * b ∧ a * b ≤ 33554428 := by
  refine ⟨Int.mul_nonneg ha.1 hb.1, ?_⟩
  have h1 : a * b ≤ 4 * b := Int.mul_le_mul_of_nonneg_right ha.2 hb.1
  omega

set_option maxRecDepth 20000 in
set_option maxHeartbeats 1600000 in
theorem made_any (N : Nat) (A : Option Addr) (m c : Nat) (l : List Int) (w : World) (h : Sees w 1 A m c (l.map (Value.int .u32))) (hl : U32 l) (hN : 1 ≤ N ∧ N ≤ 64) :
    Calls Try.prog 13 #[.int .i64 (N : Int), .slice A m c] w fun e w' => ∃ A1 c1 A2 c2 k, e = .returned (.tuple #[.slice A1 k c1, .slice A2 k c2]) ∧ w'.ownsRow w.heap.size 3 1 (.slice A1 k c1) k ((mC N (l.take k)).map (Value.int .i64)) ∧ w'.ownsRow w.heap.size 3 1 (.slice A2 k c2) k ((mD (l.take k)).map (Value.int .i64)) ∧ k ≤ 100 ∧ k ≤ m ∧ l.length = m ∧ Below w.heap.size w w' := by
  have hlen := h.length
  obtain ⟨K, hK1, hK2, _, hK3⟩ := min_is m 100
  have hmin : (if 100 < (m : Int) then (100 : Int) else (m : Int)) = (K : Int) := by split <;> omega
  have hcap := h.cap
  have hcut := fun w => run_cutr E_u32 A m c K (by omega) w
  have hp := h.pre hK1
  rw [Nat.mul_one, ← List.map_take] at hp
  have HL := Lib.hid (And.intro hlen (And.intro hK1 (And.intro hK2 hN)))
  have hK4 : (K : Int) ≤ 100 := by omega
  have hN1 : (N : Int) ≠ 0 := by omega
  have hN2 : (0 : Int) < (N : Int) := by omega
  have hN3 : (N : Int) ≤ 64 := by omega
  have hul := hl.take K
  have hpl := hp.length
  have HPL := Lib.hid hpl
  clear hlen hK1 hK2 hK3 hcap hpl hN
  go_enter Try.func13, Try.ntmps13
  go_wp2
  go_loopw [6, 7, 16] (fun v1 v2 i wr => ∃ (k c1 c2 : Nat) (A1 A2 : Option Addr), Hid (k ≤ K) ∧ i = .int .i64 (k : Int) ∧ v1 = .slice A1 k c1 ∧ v2 = .slice A2 k c2 ∧ wr.ownsRow w.heap.size 3 1 (.slice A1 k c1) k ((mC N ((l.take K).take k)).map (Value.int .i64)) ∧ wr.ownsRow w.heap.size 3 1 (.slice A2 k c2) k ((mD ((l.take K).take k)).map (Value.int .i64)) ∧ Hid (∀ q, (Value.slice A1 k c1).ownBlock = some q → (Value.slice A2 k c2).ownBlock ≠ some q) ∧ Below w.heap.size w wr) (fun _ _ i _ => K - (intOf i).toNat)
  case atStart => exact ⟨0, 0, 0, none, none, Lib.hid (Nat.zero_le _), rfl, rfl, rfl, World.ownsRow_nil _ _ _ _, World.ownsRow_nil _ _ _ _, Lib.hid (fun q h => by cases h), Below.refl _ _⟩
  case round =>
    obtain ⟨k, c1, c2, A1, A2, HK, rfl, rfl, rfl, o1, o2, HNE, hbl⟩ := hrel
    by_cases hlt : k < K
    · obtain ⟨ba, oa, hA1, g1⟩ := (hp.below hbl (Nat.le_refl _)).int hlt
      cases hA1
      have hx := hul.at_ (k := k) (by have := HPL.out; omega)
      obtain ⟨x, ex⟩ : ∃ x, (l.take K).getD k 0 = x := ⟨_, rfl⟩
      rw [ex] at g1 hx
      have s1 := mC_step (N : Int) (l := l.take K) (k := k) (by have := HPL.out; omega)
      have s2 := mD_step (l := l.take K) (k := k) (by have := HPL.out; omega)
      rw [ex] at s1 s2
      have hm1 : 0 ≤ x % 64 ∧ x % 64 ≤ 63 := by omega
      have hm2 : 0 ≤ x % 64 % (N : Int) ∧ x % 64 % (N : Int) ≤ 63 := by
        have h1 := Int.emod_nonneg (x % 64) hN1
        have h2 := Int.emod_lt_of_pos (x % 64) hN2
        omega
      have hq1 : 0 ≤ x / 64 % 5 ∧ x / 64 % 5 ≤ 4 := by omega
      have hq2 : 0 ≤ x / 512 ∧ x / 512 ≤ 8388607 := by omega
      have hq3 := mul_u _ _ hq1 hq2
      have d3 : decide ((k : Int) < (K : Int)) = true := by simp; omega
      have hk2 : (k : Int) ≤ 99 := by omega
      have HLT := Lib.hid hlt
      have HS := Lib.hid (And.intro s1 s2)
      clear hlt ex s1 s2
      go_wp2_with (first
        | (at_builtin; refine wpList_app2 E_int rfl _ _ rfl rfl (o24.alloc _) rfl (Sees.one _ _ _) (one1 rfl) (by decide) (by simp [maxLen]; omega) (by omega) (by have := hB4.size; simp; omega) ?_; intro A7 c7 w7 hown7 hg7 hb7 hl7; have o17 := own_kept_as (hown4.alloc _) hg7 (ne_row (ne_swap hne4.out)); have hl8 := lies_mono (w := w4) hl7 (by simp); have hne7 := Lib.hid (ne_swap (lies_ne hl8 (ne_swap hne4.out) (fun q hq => (own_blk hown4 q hq).2))); have hB7 : Below w.heap.size w w7 := (hB4.alloc hB4.size _).trans hb7; clear hg7 hl7 hb7 hl8)
        | (at_builtin; refine wpList_app2 E_int rfl _ _ rfl rfl (o1.alloc _) rfl (Sees.one _ _ _) (one1 rfl) (by decide) (by simp [maxLen]; omega) (by omega) (by have := hbl.size; simp; omega) ?_; intro A4 c4 w4 hown4 hg4 hb4 hl4; have o24 := own_kept_as (o2.alloc _) hg4 (ne_row HNE.out); have hl5 := lies_mono (w := wr) hl4 (by simp); have hne4 := Lib.hid (lies_ne hl5 HNE.out (fun q hq => (own_blk o2 q hq).2)); have hB4 := (hbl.alloc hbl.size _).trans hb4; clear hg4 hl4 hb4 hl5))
      go_roundw
      case rel => exact ⟨k + 1, c4, c7, A4, A7, Lib.hid HLT.out, by go_num, rfl, rfl, by rw [HS.out.1, List.map_append]; exact o17, by rw [HS.out.2, List.map_append]; exact hown7, hne7, hB7⟩
      case measure => have := HLT.out; simp [intOf]; omega
    · have hkm : k = K := by have := HK.out; omega
      have d3 : decide ((k : Int) < (K : Int)) = false := by simp; omega
      have d3' : decide (k < K) = false := by simp; omega
      have e1 : (l.take K).take k = l.take k := by rw [hkm, List.take_take, Nat.min_self]
      rw [e1] at o1 o2
      have HKM := Lib.hid hkm
      clear hlt hkm e1
      go_wp2
      go_ret2
      exact ⟨A1, c1, A2, c2, k, rfl, o1, o2, by have := HL.out; have := HKM.out; omega, by have := HL.out; have := HKM.out; omega, HL.out.1, hbl⟩

/-- Ticks by made differences stay within all times. -/
def Upto (b : Int) (xs : List Int) : Prop := ∀ x ∈ xs, 0 ≤ x ∧ x ≤ b
theorem Upto.at_ {b : Int} {l : List Int} (h : Upto b l) {k : Nat} (hk : k < l.length) : 0 ≤ l.getD k 0 ∧ l.getD k 0 ≤ b := by
  have : l.getD k 0 ∈ l := by rw [List.getD_eq_getElem?_getD, List.getElem?_eq_getElem hk]; exact List.getElem_mem hk
  exact h _ this
theorem Upto.okT {b : Int} {l : List Int} (h : Upto b l) (hb : b ≤ 281474976710656) : OkT l := fun x hx => by have := h x hx; omega
theorem tick_small {xs : List Int} {cpu d b : Int} (hc : 0 ≤ cpu ∧ cpu < (xs.length : Int)) (hd : 0 ≤ d ∧ d ≤ 33554428) (hx : Upto b xs) (hb : b ≤ 10000000000) :
    ∃ xs' v, tickF xs cpu d = (xs', v, 0) ∧ xs'.length = xs.length ∧ Upto (b + 33554428) xs' := by
  obtain ⟨k, rfl⟩ : ∃ k : Nat, cpu = (k : Int) := ⟨cpu.toNat, by omega⟩
  have h1 := hx.at_ (k := k) (by omega)
  refine ⟨xs.set k (xs.getD k 0 + d), xs.getD k 0 + d, ?_, by simp, fun y hy => ?_⟩
  · unfold tickF
    rw [if_neg (by omega), if_neg (by omega), Int.toNat_natCast, if_neg (by omega)]
  · rcases List.mem_or_eq_of_mem_set hy with h | h
    · have := hx y h; omega
    · subst h; omega
theorem mC_at {N : Nat} {l : List Int} (hN : 1 ≤ N) (k : Nat) (hk : k < l.length) : 0 ≤ (mC N l).getD k 0 ∧ (mC N l).getD k 0 < (N : Int) := by
  have e : (mC N l).getD k 0 = l.getD k 0 % 64 % (N : Int) := by simp [mC, List.getD_eq_getElem?_getD, hk]
  rw [e]
  exact ⟨Int.emod_nonneg _ (by omega), Int.emod_lt_of_pos _ (by omega)⟩
theorem mD_at {l : List Int} (hl : U32 l) (k : Nat) (hk : k < l.length) : 0 ≤ (mD l).getD k 0 ∧ (mD l).getD k 0 ≤ 33554428 := by
  have e : (mD l).getD k 0 = l.getD k 0 / 64 % 5 * (l.getD k 0 / 512) := by simp [mD, List.getD_eq_getElem?_getD, hk]
  rw [e]
  have := hl.at_ hk
  exact mul_u _ _ (by omega) (by omega)
end Go.Proofs.Ytllbcohfelgamaa
