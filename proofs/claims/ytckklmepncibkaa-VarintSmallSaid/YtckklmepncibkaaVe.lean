/- Walks: the reference's Write and WriteAll, varint.WriteAll. -/
import Derived.Test.YtckklmepncibkaaProg
import Derived.Test.YtckklmepncibkaaVb
import Derived.Test.YtckklmepncibkaaVd
namespace Go.Proofs.Ytckklmepncibkaa
open Go.RowKit
set_option linter.unusedVariables false

theorem wrap_u8_low (y : Nat) (h : y < 256) : IntKind.u8.wrap (y : Int) = (y : Int) := IntWalk.u8_in _ (by omega)

set_option maxRecDepth 20000 in
set_option maxHeartbeats 400000 in
theorem refWrite_any (x : Nat) (hx : x < 18446744073709551616) (w : World) :
    Calls Try.prog 32 #[.int .u64 (x : Int)] w fun e w' => ∃ v', e = .returned v' ∧ w'.ownsRow w.heap.size 5 1 v' (enc x).length ((enc x).map (Value.int .u8)) ∧ Below w.heap.size w w' := by
  go_enter Try.func32, Try.ntmps32
  go_wp2
  go_loopw [0, 3] (fun a v wr => ∃ (f y n c : Nat) (A : Option Addr) (ys : List Int), a = .int .u64 (y : Int) ∧ v = .slice A n c ∧ y < 18446744073709551616 ∧ Hid (y < 128 ^ (f + 1)) ∧ f ≤ 9 ∧ n ≤ 10 ∧ Hid (n = ys.length) ∧
      Hid (ys ++ encF (f + 1) y = enc x) ∧ wr.ownsRow w.heap.size 5 1 (.slice A n c) n (ys.map (Value.int .u8)) ∧ Below w.heap.size w wr) (fun a _ _ => (intOf a).toNat)
  case atStart => exact ⟨9, x, 0, 0, none, [], rfl, rfl, hx, lt_pow10 hx, by omega, by omega, rfl, rfl, World.ownsRow_nil _ _ _ _, Below.refl _ _⟩
  case round =>
    obtain ⟨f, y, n, c, A, ys, rfl, rfl, hy64, HY, hf, hn, HL, HE, ho, hb⟩ := hrel
    by_cases hlt : y < 128
    · have hfin : enc x = ys ++ [(y : Int)] := by rw [← HE.out, encF_lt hlt]
      have HF := Lib.hid hfin
      have hw8 := wrap_u8_low y (by omega)
      clear hfin
      go_wp2_with (at_builtin; refine wpList_app E_u8 rfl _ _ rfl rfl (ho.alloc _) rfl (Sees.one _ _ _) (ints1 _ [(y : Int)]) (by simp [maxLen]; omega) (by omega) (by have := hb.size; simp; omega) ?_; intro A4 c4 w4 hown4 hg4 hb4)
      go_ret
      refine ⟨_, rfl, ?_, (hb.alloc hb.size _).trans hb4⟩
      rw [HF.out]
      have := HL.out
      subst this
      simpa using hown4
    · have hp := pow_step HY.out hlt
      have hf1 := hp.2
      have HP := Lib.hid hp.1
      have hle : n + 2 ≤ 11 := by
        have h1 := congrArg List.length HE.out
        have h2 := enc_len x
        have h3 := HL.out
        have h4 := encF_pos f y
        obtain ⟨f', rfl⟩ : ∃ f', f = f' + 1 := ⟨f - 1, by omega⟩
        rw [encF_ge hlt] at h1
        have h5 := encF_pos f' (y / 128)
        simp at h1
        omega
      clear hp HY
      obtain ⟨f', rfl⟩ : ∃ f', f = f' + 1 := ⟨f - 1, by omega⟩
      have hnew : (ys ++ [((y % 128 + 128 : Nat) : Int)]) ++ encF (f' + 1) (y / 128) = enc x := by rw [← HE.out, encF_ge hlt]; simp
      have HN := Lib.hid hnew
      clear hnew HE
      have hsame : ((y % 128 + 128 : Nat) : Int) = 128 + (y : Int) % 128 := by omega
      rw [hsame] at HN
      clear hsame
      go_wp2_with (at_builtin; refine wpList_app E_u8 rfl _ _ rfl rfl (ho.alloc _) rfl (Sees.one _ _ _) (one1 rfl) (by simp [maxLen]; omega) (by omega) (by have := hb.size; simp; omega) ?_; intro A4 c4 w4 hown4 hg4 hb4)
      go_roundw
      case rel =>
        have hL := HL.out
        exact ⟨f', y / 128, n + 1, c4, A4, ys ++ [128 + (y : Int) % 128], by go_num, rfl, by omega, HP.out, by omega, by omega, by simp [Hid, hL], HN.out, by simpa using hown4, (hb.alloc hb.size _).trans hb4⟩
      case measure => simp [intOf]; omega

/-- The forms of several numbers, one after the other. -/
def encAll (l : List Nat) : List Int := (l.map enc).flatten
theorem encAll_snoc (l : List Nat) (x : Nat) : encAll (l ++ [x]) = encAll l ++ enc x := by simp [encAll]
theorem encAll_len (l : List Nat) : (encAll l).length ≤ 10 * l.length := by
  induction l with
  | nil => simp [encAll]
  | cons x l ih =>
    have := enc_len x
    have e : encAll (x :: l) = enc x ++ encAll l := by simp [encAll]
    rw [e]
    simp
    omega

theorem cast_getD (l : List Nat) (k : Nat) : (l.map Int.ofNat).getD k 0 = ((l.getD k 0 : Nat) : Int) := by
  simp only [List.getD, List.getElem?_map]
  cases l[k]? <;> rfl

theorem take_one_nat {a : List Nat} {k : Nat} (h : k < a.length) : a.take (k + 1) = a.take k ++ [a.getD k 0] := by
  rw [List.take_succ_eq_append_getElem h]; simp [List.getD, h]

set_option maxRecDepth 20000 in
set_option maxHeartbeats 400000 in
theorem refWriteAll_any (A : Option Addr) (n c : Nat) (l : List Nat) (w : World) (h : Sees w 1 A n c ((l.map Int.ofNat).map (Value.int .u64))) (hl : ∀ x ∈ l, x < 18446744073709551616) (hn : n ≤ 1000) :
    Calls Try.prog 28 #[.slice A n c] w fun e w' => ∃ v', e = .returned v' ∧ w'.ownsRow w.heap.size 5 1 v' (encAll l).length ((encAll l).map (Value.int .u8)) ∧ Below w.heap.size w w' := by
  have hlen := h.length
  have HLEN := Lib.hid hlen
  clear hlen
  go_enter Try.func28, Try.ntmps28
  go_wp2
  go_loopw [3, 4] (fun v i wr => ∃ (k m c' : Nat) (A' : Option Addr) (ys : List Int), i = .int .i64 k ∧ k ≤ n ∧ v = .slice A' m c' ∧ m ≤ 10 * k ∧ Hid (m = ys.length) ∧
      Hid (ys = encAll (l.take k)) ∧ wr.ownsRow w.heap.size 5 1 (.slice A' m c') m (ys.map (Value.int .u8)) ∧ Below w.heap.size w wr) (fun _ i _ => n - (intOf i).toNat)
  case atStart => exact ⟨0, 0, 0, none, [], rfl, by omega, rfl, by omega, rfl, rfl, World.ownsRow_nil _ _ _ _, Below.refl _ _⟩
  case round =>
    obtain ⟨k, m, c', A', ys, rfl, hk, rfl, hm, HM, HY, ho, hb⟩ := hrel
    by_cases hlt : k < n
    · obtain ⟨b1, o1, rfl, g1⟩ := (h.below hb (Nat.le_refl _)).int hlt
      rw [cast_getD] at g1
      have hkl : k < l.length := by have := HLEN.out; simp at this; omega
      have hx64 : l.getD k 0 < 18446744073709551616 := hl _ (by rw [List.getD, List.getElem?_eq_getElem hkl]; exact List.getElem_mem _)
      have hnew : ys ++ enc (l.getD k 0) = encAll (l.take (k + 1)) := by rw [take_one_nat hkl, encAll_snoc, HY.out]
      generalize l.getD k 0 = x at g1 hx64 hnew
      have HN := Lib.hid hnew
      have hex := enc_len x
      generalize hez : enc x = ez at hex HN
      have HEZ := Lib.hid hez
      clear hnew hkl hez
      go_wp2_with (first
        | (go_at_call 32; refine (refWrite_any x hx64 _).mono ?_; rintro e w1 ⟨v1, rfl, hown1, hb1⟩; rw [HEZ.out] at hown1; obtain ⟨A1, c1, rfl⟩ := own_form hown1)
        | (at_builtin; refine wpList_app E_u8 rfl _ _ rfl rfl (own_below ho hb1 (Nat.le_refl _)) rfl (sees_own hown1) (ints1 _ _) (by simp [maxLen]; omega) (by omega) (Nat.le_trans hb.size hb1.size) ?_; intro A4 c4 w4 hown4 hg4 hb4))
      go_roundw
      case rel =>
        have hM := HM.out
        exact ⟨k + 1, m + ez.length, c4, A4, ys ++ ez, by go_num, by omega, rfl, by omega, by simp [Hid, hM], HN.out, by simpa using hown4, (below_step hb hb1).trans hb4⟩
      case measure => simp [intOf]; omega
    · obtain rfl : k = n := by omega
      go_wp2
      go_ret
      refine ⟨_, rfl, ?_, hb⟩
      have h1 := HY.out
      rw [List.take_of_length_le (by have := HLEN.out; simp at this; omega)] at h1
      have h2 := HM.out
      subst h1 h2
      exact ho
end Go.Proofs.Ytckklmepncibkaa
