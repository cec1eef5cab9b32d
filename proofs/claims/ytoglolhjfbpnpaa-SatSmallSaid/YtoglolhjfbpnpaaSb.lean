/- Walks: the closure in Wide. -/
import Derived.Test.YtoglolhjfbpnpaaProg
import Derived.Test.YtoglolhjfbpnpaaSa
namespace Go.Proofs.Ytoglolhjfbpnpaa
open Go.RowKit
set_option linter.unusedVariables false

theorem cell1 {w : World} {b : Nat} {u : Value} {t : TypeId} (h : w.heap[b]? = some (.cells #[u] t (0, 0))) : w.cell? ⟨b, 0, none⟩ = some u ∧ w.frozen? ⟨b, 0, none⟩ = false := ⟨by simp [World.cell?, h], by simp [World.frozen?, h]⟩

theorem set1 {w : World} {b : Nat} {u : Value} {t : TypeId} (h : w.heap[b]? = some (.cells #[u] t (0, 0))) (v : Value) : (w.setCell ⟨b, 0, none⟩ v).heap[b]? = some (.cells #[v] t (0, 0)) := heap_setCell_same w b 0 #[u] t v h
theorem set1_other {w : World} {b c : Nat} {o : Obj} (h : w.heap[c]? = some o) (hne : c ≠ b) (v : Value) : (w.setCell ⟨b, 0, none⟩ v).heap[c]? = some o := (heap_setCell_other w ⟨b, 0, none⟩ c v (by simpa using hne)).trans h

set_option maxRecDepth 20000 in
theorem add_any (bl bh hi lo h l : Nat) (w : World) (hne : bl ≠ bh) (hl : w.heap[bl]? = some (.cells #[.int .u64 (lo : Int)] 22 (0, 0))) (hh : w.heap[bh]? = some (.cells #[.int .u64 (hi : Int)] 22 (0, 0)))
    (q1 : lo < 18446744073709551616) (q2 : l < 18446744073709551616) (q3 : hi + h + (lo + l) / 18446744073709551616 < 18446744073709551616) :
    Calls Try.prog 34 #[.int .u64 (h : Int), .int .u64 (l : Int), .pointer (some ⟨bl, 0, none⟩), .pointer (some ⟨bh, 0, none⟩)] w fun e w' => e = .returned (.tuple #[]) ∧
      w'.heap[bl]? = some (.cells #[.int .u64 (((lo + l) % 18446744073709551616 : Nat) : Int)] 22 (0, 0)) ∧ w'.heap[bh]? = some (.cells #[.int .u64 ((hi + h + (lo + l) / 18446744073709551616 : Nat) : Int)] 22 (0, 0)) ∧ Below (min bl bh) w w' := by
  obtain ⟨c1, f1⟩ := cell1 hl
  obtain ⟨c2, f2⟩ := cell1 hh
  have HL := Lib.hid hl
  have HH := Lib.hid hh
  clear hl hh
  have hne' : ¬ bh = bl := fun e => hne e.symm
  have m1 : min bl bh ≤ bl := Nat.min_le_left _ _
  have m2 : min bl bh ≤ bh := Nat.min_le_right _ _
  have fin : ∀ v1 v2 : Int, v1 = ((hi + h + (lo + l) / 18446744073709551616 : Nat) : Int) → v2 = (((lo + l) % 18446744073709551616 : Nat) : Int) → ∀ w1 : World, w1.heap[bl]? = some (.cells #[.int .u64 (lo : Int)] 22 (0, 0)) → (∃ u, w1.heap[bh]? = some (.cells #[u] 22 (0, 0))) → Below (min bl bh) w w1 →
      (((w1.setCell ⟨bh, 0, none⟩ (.int .u64 v1)).setCell ⟨bl, 0, none⟩ (.int .u64 v2)).drew).heap[bl]? = some (.cells #[.int .u64 (((lo + l) % 18446744073709551616 : Nat) : Int)] 22 (0, 0)) ∧
      (((w1.setCell ⟨bh, 0, none⟩ (.int .u64 v1)).setCell ⟨bl, 0, none⟩ (.int .u64 v2)).drew).heap[bh]? = some (.cells #[.int .u64 ((hi + h + (lo + l) / 18446744073709551616 : Nat) : Int)] 22 (0, 0)) ∧
      Below (min bl bh) w (((w1.setCell ⟨bh, 0, none⟩ (.int .u64 v1)).setCell ⟨bl, 0, none⟩ (.int .u64 v2)).drew) := by
    rintro v1 v2 rfl rfl w1 h1 ⟨u, h2⟩ hb
    exact ⟨set1 (set1_other h1 hne _) _, set1_other (set1 h2 _) hne' _, ((hb.setCell m2 _).setCell m1 _).drew⟩
  have FIN := Lib.hid fin
  clear fin
  by_cases hc : lo + l < 18446744073709551616
  · go_enter Try.func34, Try.ntmps34
    go_wp2
    go_region
    go_end0
    refine ⟨rfl, FIN.out _ _ (by omega) (by omega) w HL.out ⟨_, HH.out⟩ (Below.refl _ _)⟩
  · have hwr : IntKind.u64.wrap ((lo : Int) + (l : Int)) = (lo : Int) + (l : Int) - 18446744073709551616 := by simp [IntKind.wrap, IntKind.signed, IntKind.bits]; omega
    have hl1 : (lo : Int) + (l : Int) - 18446744073709551616 < (lo : Int) := by omega
    go_enter Try.func34, Try.ntmps34
    go_wp2
    go_region
    go_end0
    refine ⟨rfl, FIN.out _ _ (by omega) (by omega) _ (set1_other HL.out hne _) ⟨_, set1 HH.out _⟩ ((Below.refl _ _).setCell m2 _)⟩
end Go.Proofs.Ytoglolhjfbpnpaa
