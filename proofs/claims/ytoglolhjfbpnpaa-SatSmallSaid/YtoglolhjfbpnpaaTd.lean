/- Walks: Sum, the law's sums. -/
import Derived.Test.YtoglolhjfbpnpaaProg
import Derived.Test.YtoglolhjfbpnpaaTa
namespace Go.Proofs.Ytoglolhjfbpnpaa
open Go.RowKit
set_option linter.unusedVariables false

theorem E_u64 : Elem Try.prog 34 22 (.int .u64 0) 1 8 := elem_of Try.underlying34 (by kernel_rfl) rfl (by decide)

def sSum (l : List Nat) : Nat := l.foldl sAdd 0
def tot (l : List Nat) : Nat := l.foldl (· + ·) 0
theorem sSum_snoc (l : List Nat) (x : Nat) : sSum (l ++ [x]) = sAdd (sSum l) x := by simp [sSum]
theorem tot_snoc (l : List Nat) (x : Nat) : tot (l ++ [x]) = tot l + x := by simp [tot]
theorem take_nat {l : List Nat} {k : Nat} (h : k < l.length) : l.take (k + 1) = l.take k ++ [l.getD k 0] := by
  rw [List.take_add_one, List.getElem?_eq_getElem h, List.getD_eq_getElem?_getD, List.getElem?_eq_getElem h]; rfl
theorem nat_getD (l : List Nat) (k : Nat) : (l.map Int.ofNat).getD k 0 = ((l.getD k 0 : Nat) : Int) := by
  simp [List.getD_eq_getElem?_getD]
  cases l[k]? <;> simp
theorem nat_at {l : List Nat} (hl : ∀ x ∈ l, x < 18446744073709551616) (k : Nat) : l.getD k 0 < 18446744073709551616 := by
  by_cases hk : k < l.length
  · have : l.getD k 0 ∈ l := by rw [List.getD_eq_getElem?_getD, List.getElem?_eq_getElem hk]; exact List.getElem_mem hk
    exact hl _ this
  · rw [List.getD_eq_getElem?_getD, List.getElem?_eq_none (by omega)]; decide
theorem foldl_sAdd (l : List Nat) : ∀ s t : Nat, s = (if t < 18446744073709551616 then t else 18446744073709551615) → l.foldl sAdd s = if l.foldl (· + ·) t < 18446744073709551616 then l.foldl (· + ·) t else 18446744073709551615 := by
  induction l with
  | nil => intro s t h; exact h
  | cons x l ih =>
    intro s t h
    rw [List.foldl_cons, List.foldl_cons]
    refine ih _ _ ?_
    subst h
    unfold sAdd
    split <;> split <;> (try split) <;> omega
theorem sSum_tot (l : List Nat) : sSum l = if tot l < 18446744073709551616 then tot l else 18446744073709551615 := foldl_sAdd l 0 0 rfl
theorem sSum_lt (l : List Nat) : sSum l < 18446744073709551616 := by rw [sSum_tot]; split <;> omega

set_option maxRecDepth 20000 in
theorem Sum_any (A : Option Addr) (n c : Nat) (l : List Nat) (w : World) (h : Sees w 1 A n c ((l.map Int.ofNat).map (Value.int .u64))) (hl : ∀ x ∈ l, x < 18446744073709551616) :
    Calls Try.prog 22 #[.slice A n c] w fun e w' => e = .returned (.int .u64 ((sSum l : Nat) : Int)) ∧ w = w' := by
  have hlen : l.length = n := by have := h.length; simpa using this
  have HLEN := Lib.hid hlen
  have HMX : Hid (n ≤ 9223372036854775807) := Lib.hid (Nat.le_trans h.cap h.capm)
  have hmx : (n : Int) ≤ 9223372036854775807 := by have := HMX.out; omega
  clear hlen
  go_enter Try.func22, Try.ntmps22
  go_wp2
  go_loopw [3, 8] (fun s i wr => ∃ (k x : Nat), Hid (k ≤ n) ∧ i = .int .i64 (k : Int) ∧ s = .int .u64 (x : Int) ∧ Hid (x = sSum (l.take k)) ∧ w = wr) (fun _ i _ => n - (intOf i).toNat)
  case atStart => exact ⟨0, 0, Lib.hid (Nat.zero_le _), rfl, rfl, Lib.hid rfl, rfl⟩
  case round =>
    obtain ⟨k, x, HK, rfl, rfl, HX, rfl⟩ := hrel
    by_cases hlt : k < n
    · obtain ⟨b1, o1, hA1, g1⟩ := h.int hlt
      cases hA1
      rw [nat_getD] at g1
      have hy := nat_at hl k
      have htk := take_nat (l := l) (k := k) (by rw [HLEN.out]; exact hlt)
      obtain ⟨y, ey⟩ : ∃ y, l.getD k 0 = y := ⟨_, rfl⟩
      rw [ey] at g1 hy htk
      have HY := Lib.hid hy
      have HX2 : Hid (x < 18446744073709551616) := Lib.hid (by rw [HX.out]; exact sSum_lt _)
      have HT := Lib.hid htk
      have HL := Lib.hid hlt
      have d1 : decide ((k : Int) < (n : Int)) = true := by simp; omega
      have hk2 : (k : Int) ≤ 9223372036854775806 := by omega
      clear hlt hy htk ey
      go_wp2_with (go_at_call 19; refine (Add_any x y _ HX2.out HY.out).mono ?_; rintro e w2 ⟨rfl, rfl⟩)
      go_roundw
      case rel => exact ⟨k + 1, sAdd x y, Lib.hid HL.out, by go_num, rfl, Lib.hid (by rw [HT.out, sSum_snoc, ← HX.out]), trivial⟩
      case measure => have := HL.out; simp [intOf]; omega
    · have hkn : k = n := by have := HK.out; omega
      have d1 : decide ((k : Int) < (n : Int)) = false := by simp; omega
      have d1' : decide (k < n) = false := by simp; omega
      have HKN := Lib.hid hkn
      clear hkn hlt
      go_wp2
      go_ret
      refine ⟨?_, rfl⟩
      have e1 := HX.out
      rw [HKN.out, List.take_of_length_le (by rw [HLEN.out]; exact Nat.le_refl _)] at e1
      rw [e1]; rfl

set_option maxRecDepth 20000 in
set_option maxHeartbeats 1600000 in
theorem sums_any (A : Option Addr) (n c : Nat) (l : List Nat) (w : World) (h : Sees w 1 A n c ((l.map Int.ofNat).map (Value.int .u64))) (hl : ∀ x ∈ l, x < 18446744073709551616) :
    Calls Try.prog 21 #[.slice A n c] w fun e w' => e = .returned (.bool true) ∧ Below w.heap.size w w' := by
  have hlen : l.length = n := by have := h.length; simpa using this
  have HLEN := Lib.hid hlen
  clear hlen
  by_cases hbig : 100 < n
  · have d0 : decide ((100 : Int) < (n : Int)) = true := by simp; omega
    clear hbig
    go_enter Try.func21, Try.ntmps21
    go_wp2
    go_ret
    exact ⟨rfl, Below.refl _ _⟩
  · have d0 : decide ((100 : Int) < (n : Int)) = false := by simp; omega
    have HN : Hid (n ≤ 100) := Lib.hid (by omega)
    have hn2 : (n : Int) ≤ 100 := by omega
    clear hbig
    go_enter Try.func21, Try.ntmps21
    go_wp2_with (at_builtin; refine wpList_appV E_u64 rfl _ _ rfl rfl (Sees.nil _ 1 0 _ (Nat.zero_le _) (fun h => by cases h)) rfl (h.below ((Below.refl _ _).alloc (Nat.le_refl _) _) (Nat.le_refl _)) (ints1 _ _) (by simp [maxLen]; omega) (by omega) ?_; intro A1 c1 w1 hS1 hb1)
    rw [Nat.zero_add, List.nil_append] at hS1
    have hB1 : Below w.heap.size w w1 := ((Below.refl _ _).alloc (Nat.le_refl _) _).trans (hb1.mono (by simp))
    have hl1 := h.below hB1 (Nat.le_refl _)
    clear hb1
    go_loopw [4, 16] (fun v i wr => ∃ (k m c' : Nat) (A' : Option Addr) (ys : List Int), Hid (k ≤ n ∧ m ≤ 64 + k) ∧ i = .int .i64 (k : Int) ∧ v = .slice A' m c' ∧ Sees wr 1 A' m c' (ys.map (Value.int .i64)) ∧ Hid (Bits ys ∧ val ys = ((tot (l.take k) : Nat) : Int)) ∧ Below w1.heap.size w1 wr) (fun _ i _ => n - (intOf i).toNat)
    case atStart => exact ⟨0, 0, 0, none, [], Lib.hid ⟨Nat.zero_le _, Nat.zero_le _⟩, rfl, rfl, Sees.nil _ _ _ _ (Nat.zero_le _) (fun _ => rfl), Lib.hid ⟨Bits.nil, rfl⟩, Below.refl _ _⟩
    case round =>
      obtain ⟨k, m, c', A', ys, HK, rfl, rfl, hs, HY, hb⟩ := hrel
      by_cases hlt : k < n
      · have hl2 := hl1.below hb (Nat.le_refl _)
        obtain ⟨b1, o1, hA1, g1⟩ := hl2.int hlt
        cases hA1
        rw [nat_getD] at g1
        have hy := nat_at hl k
        have htk := take_nat (l := l) (k := k) (by rw [HLEN.out]; exact hlt)
        obtain ⟨y, ey⟩ : ∃ y, l.getD k 0 = y := ⟨_, rfl⟩
        rw [ey] at g1 hy htk
        have HYY := Lib.hid hy
        have HT := Lib.hid htk
        have HL := Lib.hid hlt
        have d1 : decide ((k : Int) < (n : Int)) = true := by simp; omega
        have hk2 : (k : Int) ≤ 99 := by omega
        obtain ⟨mm, hmm⟩ : ∃ mm, m ≤ mm ∧ 64 ≤ mm ∧ (mm = m ∨ mm = 64) := by
          by_cases h : m ≤ 64
          · exact ⟨64, h, by omega, .inr rfl⟩
          · exact ⟨m, by omega, by omega, .inl rfl⟩
        have HMM := Lib.hid hmm
        clear hlt hy htk ey hmm
        go_wp2_with (first
          | (go_at_call 24; refine (Bits_any y _ HYY.out).mono ?_; rintro e w2 ⟨A2, c2, xs, rfl, o2, bx, vx, b2⟩; have HVX := Lib.hid vx; clear vx)
          | (go_at_call 30; refine (Plus_any _ _ _ _ _ _ mm ys xs _ (by exact hs.below b2 (Nat.le_refl _)) (by exact sees_own o2) HY.out.1 bx HMM.out (by have := HMM.out; have := HK.out; have := HN.out; omega)).mono ?_; rintro e w3 ⟨A3, c3, us, rfl, o3, bu, vu, b3⟩; rw [HVX.out, HY.out.2] at vu; have HVU := Lib.hid vu; clear vu))
        go_roundw
        case rel => exact ⟨k + 1, mm + 1, c3, A3, us, Lib.hid (by have := HL.out; have := HMM.out; have := HK.out; omega), by go_num, rfl, sees_own o3, Lib.hid ⟨bu, by rw [HT.out, tot_snoc, HVU.out]; simp⟩, hb.trans ((below_step b2 b3).mono hb.size)⟩
        case measure => have := HL.out; simp [intOf]; omega
      · have hkn : k = n := by have := HK.out; omega
        have d1 : decide ((k : Int) < (n : Int)) = false := by simp; omega
        have d1' : decide (k < n) = false := by simp; omega
        have HTO : Hid (val ys = ((tot l : Nat) : Int)) := Lib.hid (by have := HY.out.2; rwa [hkn, List.take_of_length_le (by rw [HLEN.out]; exact Nat.le_refl _)] at this)
        have hst : stopI (val ys) = ((sSum l : Nat) : Int) := by rw [stop_nat (tot l) HTO.out, sSum_tot]
        have HST := Lib.hid hst
        have HM : Hid (m ≤ 100000) := Lib.hid (by have := HK.out; have := HN.out; omega)
        have hl2 := hl1.below hb (Nat.le_refl _)
        have ho2 := hS1.below hb (Nat.le_refl _)
        clear hkn hlt hst
        go_wp2_with (first
          | (go_at_call 22; refine (Sum_any _ _ _ l _ (by exact ho2) hl).mono ?_; rintro e w2 ⟨rfl, rfl⟩)
          | (go_at_call 28; refine (Stopped_any _ _ _ ys _ (by exact hs) HY.out.1 HM.out).mono ?_; rw [HST.out]; rintro e w3 ⟨rfl, rfl⟩))
        have hB2 := hB1.trans (hb.mono hB1.size)
        clear hs hb hS1 hl1 hB1
        go_loopw [32] (fun i wx => ∃ j : Nat, Hid (j ≤ n) ∧ i = .int .i64 (j : Int) ∧ Below wr.heap.size wr wx) (fun i _ => n - (intOf i).toNat)
        case atStart => exact ⟨0, Lib.hid (Nat.zero_le _), rfl, Below.refl _ _⟩
        case round =>
          obtain ⟨j, HJ, rfl, hb⟩ := hrel
          by_cases hlt : j < n
          · obtain ⟨b1, o1, hA1, g1⟩ := (ho2.below hb (Nat.le_refl _)).int hlt
            obtain ⟨b2, o2, hA2, g2⟩ := (hl2.below hb (Nat.le_refl _)).int hlt
            cases hA1
            cases hA2
            have HL := Lib.hid hlt
            generalize (l.map Int.ofNat).getD j 0 = y at g1 g2
            have d2 : decide ((j : Int) < (n : Int)) = true := by simp; omega
            have hj2 : (j : Int) ≤ 99 := by omega
            clear hlt
            go_wp2_with fail
            go_quiet (fail)
            go_wp2
            go_roundw
            case rel => exact ⟨j + 1, Lib.hid HL.out, by go_num, below_drewN hb _⟩
            case measure => have := HL.out; simp [intOf]; omega
          · have d2 : decide ((j : Int) < (n : Int)) = false := by simp; omega
            have d2' : decide (j < n) = false := by simp; omega
            clear hlt
            go_wp2
            go_ret
            exact ⟨rfl, hB2.trans (hb.mono hB2.size)⟩

set_option maxRecDepth 20000 in
theorem SatSums_any (A : Option Addr) (n c : Nat) (l : List Nat) (w : World) (h : Sees w 1 A n c ((l.map Int.ofNat).map (Value.int .u64))) (hl : ∀ x ∈ l, x < 18446744073709551616) :
    Calls Try.prog 9 #[.slice A n c] w fun e w' => e = .returned (.bool true) ∧ Below w.heap.size w w' := by
  go_enter Try.func9, Try.ntmps9
  go_wp2_with (first
    | (go_at_call 21; refine (sums_any _ _ _ l _ h hl).mono ?_; rintro e w1 ⟨rfl, b1⟩)
    | (go_at_call 13; refine (awake_any _).mono ?_; rintro e w2 ⟨rfl, b2⟩))
  go_ret
  exact ⟨rfl, below_step b1 b2⟩
end Go.Proofs.Ytoglolhjfbpnpaa
