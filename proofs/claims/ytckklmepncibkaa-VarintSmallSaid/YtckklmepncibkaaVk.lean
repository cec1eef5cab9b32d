/- Walks: the law's awake. -/
import Derived.Test.YtckklmepncibkaaProg
import Derived.Test.YtckklmepncibkaaVj
import Derived.Test.YtckklmepncibkaaQ2
namespace Go.Proofs.Ytckklmepncibkaa
open Go.RowKit
set_option linter.unusedVariables false

def numsA : List Nat := [0, 127, 128, 300, 18446744073709551615]
def formsA : List (List Int) := numsA.map enc
theorem formsA_at (k : Nat) (h : k < 5) : formsA.getD k [] = enc (numsA.getD k 0) ∧ numsA.getD k 0 < 18446744073709551616 := by
  have : ∀ k : Fin 5, formsA.getD k.1 [] = enc (numsA.getD k.1 0) ∧ numsA.getD k.1 0 < 18446744073709551616 := by decide
  exact this ⟨k, h⟩
theorem numsA_cell (w : World) (t : TypeId) (k : Nat) (h : k < 5) :
    (w.alloc (.cells #[.int .u64 0, .int .u64 127, .int .u64 128, .int .u64 300, .int .u64 18446744073709551615] t)).cell? ⟨w.heap.size, k, none⟩ = some (.int .u64 ((numsA.getD k 0 : Nat) : Int)) := by
  rw [cell_of_row _ _ _ _ _ _ (heap_alloc_new w _)]
  match k, h with
  | 0, _ => rfl
  | 1, _ => rfl
  | 2, _ => rfl
  | 3, _ => rfl
  | 4, _ => rfl

def nines : Array Value := #[.int .u8 255, .int .u8 255, .int .u8 255, .int .u8 255, .int .u8 255, .int .u8 255, .int .u8 255, .int .u8 255, .int .u8 255]

theorem rows_A (w w6 w7 : World) (A6 : Option Addr) (c6 : Nat)
    (hg6 : (objs w [.cells nines 5, .cells #[.int .u8 0] 5, .cells #[.int .u8 127] 5, .cells #[.int .u8 128, .int .u8 1] 5, .cells #[.int .u8 172, .int .u8 2] 5, .cells #[.int .u8 1] 5]).grownBy w6 none)
    (base6 : Nat) (hown6 : w6.ownsRow base6 5 1 (.slice A6 10 c6) 10 (nines.toList ++ [.int .u8 1]))
    (h7 : w7 = w6.alloc (.cells #[.slice (some ⟨w.heap.size + 1, 0, none⟩) 1 1, .slice (some ⟨w.heap.size + 1 + 1, 0, none⟩) 1 1, .slice (some ⟨w.heap.size + 1 + 1 + 1, 0, none⟩) 2 2, .slice (some ⟨w.heap.size + 1 + 1 + 1 + 1, 0, none⟩) 2 2, .slice A6 10 c6] 24)) :
    Rows2 w7 w6.heap.size formsA := by
  subst h7
  have hl := hg6.size
  rw [objs_size] at hl
  have hb7 : Below w6.heap.size w6 (w6.alloc (.cells #[.slice (some ⟨w.heap.size + 1, 0, none⟩) 1 1, .slice (some ⟨w.heap.size + 1 + 1, 0, none⟩) 1 1, .slice (some ⟨w.heap.size + 1 + 1 + 1, 0, none⟩) 2 2, .slice (some ⟨w.heap.size + 1 + 1 + 1 + 1, 0, none⟩) 2 2, .slice A6 10 c6] 24)) := (Below.refl _ _).alloc (Nat.le_refl _) _
  have H : ∀ j o, 1 ≤ j → [Obj.cells nines 5, .cells #[.int .u8 0] 5, .cells #[.int .u8 127] 5, .cells #[.int .u8 128, .int .u8 1] 5, .cells #[.int .u8 172, .int .u8 2] 5, .cells #[.int .u8 1] 5][j]? = some o → w6.heap[w.heap.size + j]? = some o := fun j o hj ho =>
    (hg6.block _ (lt_of_block (objs_at _ w j o ho)) (by simp)).trans (objs_at _ w j o ho)
  have hc := heap_alloc_new w6 (.cells #[.slice (some ⟨w.heap.size + 1, 0, none⟩) 1 1, .slice (some ⟨w.heap.size + 1 + 1, 0, none⟩) 1 1, .slice (some ⟨w.heap.size + 1 + 1 + 1, 0, none⟩) 2 2, .slice (some ⟨w.heap.size + 1 + 1 + 1 + 1, 0, none⟩) 2 2, .slice A6 10 c6] 24)
  have S : ∀ (j g n : Nat) (cs : Array Value) (l : List Int), 1 ≤ j → g = w.heap.size + j → cs = (l.map (Value.int .u8)).toArray → l.length = n → n ≤ maxLen → [Obj.cells nines 5, .cells #[.int .u8 0] 5, .cells #[.int .u8 127] 5, .cells #[.int .u8 128, .int .u8 1] 5, .cells #[.int .u8 172, .int .u8 2] 5, .cells #[.int .u8 1] 5][j]? = some (.cells cs 5) →
      Sees (w6.alloc (.cells #[.slice (some ⟨w.heap.size + 1, 0, none⟩) 1 1, .slice (some ⟨w.heap.size + 1 + 1, 0, none⟩) 1 1, .slice (some ⟨w.heap.size + 1 + 1 + 1, 0, none⟩) 2 2, .slice (some ⟨w.heap.size + 1 + 1 + 1 + 1, 0, none⟩) 2 2, .slice A6 10 c6] 24)) 1 (some ⟨g, 0, none⟩) n n (l.map (Value.int .u8)) := by
    intro j g n cs l hj hg hcs hn hm ho
    subst hg hcs
    exact (sees_block (H j _ hj ho) (by simpa using hn) (Nat.le_refl _) hm ⟨[], by simp⟩).below hb7 (Nat.le_refl _)
  intro k hk
  match k, hk with
  | 0, _ => exact ⟨_, _, _, cell_of_row _ _ 0 _ _ _ hc, S 1 _ 1 _ [0] (by decide) rfl rfl rfl (by decide) rfl⟩
  | 1, _ => exact ⟨_, _, _, cell_of_row _ _ 1 _ _ _ hc, S 2 _ 1 _ [127] (by decide) rfl rfl rfl (by decide) rfl⟩
  | 2, _ => exact ⟨_, _, _, cell_of_row _ _ 2 _ _ _ hc, S 3 _ 2 _ [128, 1] (by decide) rfl rfl rfl (by decide) rfl⟩
  | 3, _ => exact ⟨_, _, _, cell_of_row _ _ 3 _ _ _ hc, S 4 _ 2 _ [172, 2] (by decide) rfl rfl rfl (by decide) rfl⟩
  | 4, _ => exact ⟨_, _, _, cell_of_row _ _ 4 _ _ _ hc, (sees_own hown6).below hb7 (Nat.le_refl _)⟩

theorem nines_own {w : World} {g : Nat} (h : w.heap[g]? = some (.cells nines 5 (0, 0))) : w.ownsRow g 5 1 (.slice (some ⟨g, 0, none⟩) 9 9) 9 nines.toList :=
  ⟨rfl, .inr ⟨g, 9, nines, rfl, Nat.le_refl _, h, Nat.le_refl _, by decide, rfl, rfl⟩⟩

def formsB : List (List Int) := [[], [128], [255, 255, 255, 255, 255, 255, 255, 255, 255, 2], [128, 0]]
def errsB : List Int := [10, 10, 11, 12]
theorem formsB_at (k : Nat) (h : k < 4) : Bytes (formsB.getD k []) ∧ (rd (formsB.getD k [])).2.2 = errsB.getD k 0 := by
  have : ∀ k : Fin 4, (∀ x ∈ formsB.getD k.1 [], 0 ≤ x ∧ x ≤ 255) ∧ (rd (formsB.getD k.1 [])).2.2 = errsB.getD k.1 0 := by decide
  exact this ⟨k, h⟩
theorem errsB_cell (w : World) (t : TypeId) (k : Nat) (h : k < 4) :
    (w.alloc (.cells #[.int .i64 10, .int .i64 10, .int .i64 11, .int .i64 12] t)).cell? ⟨w.heap.size, k, none⟩ = some (.int .i64 (errsB.getD k 0)) := by
  rw [cell_of_row _ _ _ _ _ _ (heap_alloc_new w _)]
  match k, h with
  | 0, _ => rfl
  | 1, _ => rfl
  | 2, _ => rfl
  | 3, _ => rfl

theorem rows_B (w w6 : World) (A6 : Option Addr) (c6 : Nat)
    (hg6 : (objs w [.cells #[.int .u8 128] 5, .cells #[.int .u8 2] 5]).grownBy w6 none)
    (base6 : Nat) (hown6 : w6.ownsRow base6 5 1 (.slice A6 10 c6) 10 (nines.toList ++ [.int .u8 2])) :
    Rows2 (objs w6 [.cells #[.int .u8 128, .int .u8 0] 5, .cells #[.slice none 0 0, .slice (some ⟨w.heap.size, 0, none⟩) 1 1, .slice A6 10 c6, .slice (some ⟨w6.heap.size, 0, none⟩) 2 2] 24]) (w6.heap.size + 1) formsB := by
  have hb7 := objs_below [.cells #[.int .u8 128, .int .u8 0] 5, .cells #[.slice none 0 0, .slice (some ⟨w.heap.size, 0, none⟩) 1 1, .slice A6 10 c6, .slice (some ⟨w6.heap.size, 0, none⟩) 2 2] 24] w6
  have hc := objs_at [.cells #[.int .u8 128, .int .u8 0] 5, .cells #[.slice none 0 0, .slice (some ⟨w.heap.size, 0, none⟩) 1 1, .slice A6 10 c6, .slice (some ⟨w6.heap.size, 0, none⟩) 2 2] 24] w6 1 _ rfl
  have h58 := objs_at [.cells #[.int .u8 128, .int .u8 0] 5, .cells #[.slice none 0 0, .slice (some ⟨w.heap.size, 0, none⟩) 1 1, .slice A6 10 c6, .slice (some ⟨w6.heap.size, 0, none⟩) 2 2] 24] w6 0 _ rfl
  have h53 := objs_at [.cells #[.int .u8 128] 5, .cells #[.int .u8 2] 5] w 0 _ rfl
  have h53' := (hg6.block _ (lt_of_block h53) (by simp)).trans h53
  intro k hk
  match k, hk with
  | 0, _ => exact ⟨_, _, _, cell_of_row _ _ 0 _ _ _ hc, Sees.nil _ _ _ _ (Nat.zero_le _) fun _ => rfl⟩
  | 1, _ => exact ⟨_, _, _, cell_of_row _ _ 1 _ _ _ hc, (sees_block (xs := [Value.int .u8 128]) h53' rfl (by decide) (by decide) ⟨[], rfl⟩).below hb7 (Nat.le_refl _)⟩
  | 2, _ => exact ⟨_, _, _, cell_of_row _ _ 2 _ _ _ hc, (sees_own hown6).below hb7 (Nat.le_refl _)⟩
  | 3, _ => exact ⟨_, _, _, cell_of_row _ _ 3 _ _ _ hc, sees_block (xs := [Value.int .u8 128, Value.int .u8 0]) h58 rfl (by decide) (by decide) ⟨[], rfl⟩⟩

theorem nines_row (w w5 : World) (hw : w5 = objs w [.cells nines 5, .cells #[.int .u8 0] 5, .cells #[.int .u8 127] 5, .cells #[.int .u8 128, .int .u8 1] 5, .cells #[.int .u8 172, .int .u8 2] 5, .cells #[.int .u8 1] 5]) :
    w5.ownsRow w.heap.size 5 1 (.slice (some ⟨w.heap.size, 0, none⟩) 9 9) 9 nines.toList := by
  subst hw
  refine own_below (World.ownsRow_lit (base := w.heap.size) (e := 5) (size := 1) w nines 9 (Nat.le_refl _) (by decide) rfl) (B := (w.alloc (.cells nines 5)).heap.size) ?_ (Nat.le_refl _)
  exact objs_below [.cells #[.int .u8 0] 5, .cells #[.int .u8 127] 5, .cells #[.int .u8 128, .int .u8 1] 5, .cells #[.int .u8 172, .int .u8 2] 5, .cells #[.int .u8 1] 5] _

set_option maxRecDepth 20000 in
set_option maxHeartbeats 800000 in
theorem awake_any (w : World) :
    Calls Try.prog 12 #[] w fun e w' => e = .returned (.bool true) ∧ Below w.heap.size w w' := by
  go_enter Try.func12, Try.ntmps12
  go_wp2_with (first
    | (at_builtin; (refine wpList_appG E_u8 rfl _ _ rfl rfl (sees_own (nines_row w _ rfl)) rfl (Sees.one_at (.int .u8 1) _ (by simp)) (one1 (u := .int .u8 1) rfl) (by decide) (by decide) (by decide) (by decide) ?_); intro A6 c6 w6 hown6 hg6))
  have hb6 := (Below.refl w.heap.size _).grown hg6 (by simp; omega) (fun k hk => by cases hk)
  have hR := rows_A w w6 _ A6 c6 hg6 _ hown6 rfl
  have hB7 : Below w.heap.size w (w6.alloc (.cells #[.slice (some ⟨w.heap.size + 1, 0, none⟩) 1 1, .slice (some ⟨w.heap.size + 1 + 1, 0, none⟩) 1 1, .slice (some ⟨w.heap.size + 1 + 1 + 1, 0, none⟩) 2 2, .slice (some ⟨w.heap.size + 1 + 1 + 1 + 1, 0, none⟩) 2 2, .slice A6 10 c6] 24)) :=
    ((objs_below [.cells nines 5, .cells #[.int .u8 0] 5, .cells #[.int .u8 127] 5, .cells #[.int .u8 128, .int .u8 1] 5, .cells #[.int .u8 172, .int .u8 2] 5, .cells #[.int .u8 1] 5] w).trans hb6).alloc (Nat.le_trans (by simp; omega) hg6.size) _
  have hN7 : (w6.alloc (.cells #[.slice (some ⟨w.heap.size + 1, 0, none⟩) 1 1, .slice (some ⟨w.heap.size + 1 + 1, 0, none⟩) 1 1, .slice (some ⟨w.heap.size + 1 + 1 + 1, 0, none⟩) 2 2, .slice (some ⟨w.heap.size + 1 + 1 + 1 + 1, 0, none⟩) 2 2, .slice A6 10 c6] 24)).heap[w.heap.size]? = some (.cells nines 5 (0, 0)) :=
    (Below.heap_alloc _ _ _ (Nat.lt_of_lt_of_le (by simp; omega) hg6.size)).trans ((hg6.block _ (by simp; omega) (by simp)).trans (objs_at [.cells nines 5, .cells #[.int .u8 0] 5, .cells #[.int .u8 127] 5, .cells #[.int .u8 128, .int .u8 1] 5, .cells #[.int .u8 172, .int .u8 2] 5, .cells #[.int .u8 1] 5] w 0 _ rfl))
  clear hg6 hown6 hb6
  revert hR hB7 hN7
  generalize w6.alloc (.cells #[.slice (some ⟨w.heap.size + 1, 0, none⟩) 1 1, .slice (some ⟨w.heap.size + 1 + 1, 0, none⟩) 1 1, .slice (some ⟨w.heap.size + 1 + 1 + 1, 0, none⟩) 2 2, .slice (some ⟨w.heap.size + 1 + 1 + 1 + 1, 0, none⟩) 2 2, .slice A6 10 c6] 24) = w7
  generalize w6.heap.size = g6
  intro hR hB7 hN7
  go_loopw [23] (fun i wr => ∃ k : Nat, k ≤ 5 ∧ i = .int .i64 k ∧ Below w7.heap.size w7 wr) (fun i _ => 5 - (intOf i).toNat)
  case atStart => exact ⟨0, by omega, rfl, Below.refl _ _⟩
  case round =>
    obtain ⟨k, hk, rfl, hb⟩ := hrel
    by_cases hlt : k < 5
    · obtain ⟨A, n, c, g1, hs1⟩ := (hR.below hb) k hlt
      obtain ⟨hx1, hx2⟩ := formsA_at k hlt
      rw [hx1] at hs1
      have hc := fun w t => numsA_cell w t k hlt
      generalize numsA.getD k 0 = x at hs1 hc hx2
      clear hx1
      go_wp2_with (first
        | (go_at_call 13; refine (Write_any x hx2 _).mono ?_; rintro e w3 ⟨v3, rfl, hown3, hb3⟩; obtain ⟨A3, c3, rfl⟩ := own_form hown3)
        | (go_at_call 15; refine (SameBytes_any _ _ _ _ _ _ _ _ _ (sees_own hown3) (hs1.below (((Below.refl _ _).alloc (Nat.le_refl _) _).trans (hb3.mono (by simp))) (Nat.le_refl _))).mono ?_; rw [eqL_self]; rintro e w5 ⟨rfl, hb5⟩))
      go_roundw
      case rel =>
        refine ⟨k + 1, by omega, by go_num, hb.trans ((((Below.refl _ _).alloc (Nat.le_refl _) _).trans ((below_step hb3 hb5).mono (by simp))).mono hb.size)⟩
      case measure => simp [intOf]; omega
    · obtain rfl : k = 5 := by omega
      have hB := hB7.trans (hb.mono hB7.size)
      have hN := (hb.block _ (lt_of_block hN7)).trans hN7
      have hgw := lt_of_block hN
      clear hb hB7 hN7 hR
      have hr : rd [172, 2, 7] = (300, 2, 0) := by decide
      have hby : Bytes [172, 2, 7] := by unfold Bytes; decide
      have hs172 : Sees (wr.alloc (.cells #[.int .u8 172, .int .u8 2, .int .u8 7] 5)) 1 (some ⟨wr.heap.size, 0, none⟩) 3 3 ([172, 2, 7].map (Value.int .u8)) := sees_block (heap_alloc_new _ _) rfl (by decide) (by decide) ⟨[], rfl⟩
      have HR := Lib.hid hr
      clear hr
      go_wp2_with (first
        | (go_at_call 14; refine (Read_any _ _ _ [172, 2, 7] _ hs172 hby).mono ?_; rw [HR.out]; rintro e w8 ⟨rfl, hb8⟩; have hb9 : Below wr.heap.size wr w8 := ((Below.refl _ _).alloc (Nat.le_refl _) _).trans (hb8.mono (by simp)); have hB8 := hB.trans (hb9.mono hB.size); have hN8 := (hb9.block _ hgw).trans hN; have hgw8 := lt_of_block hN8; clear hb9 hb8 hB hN hgw)
        | (at_builtin; refine wpList_appG E_u8 rfl _ _ rfl rfl (sees_own (own_below (nines_own hN8) (objs_below [.cells #[.int .u8 128] 5, .cells #[.int .u8 2] 5] w8) (Nat.le_refl _))) rfl (Sees.one_at (.int .u8 2) _ (by simp)) (one1 (u := .int .u8 2) rfl) (by decide) (by decide) (by decide) (by decide) ?_; intro A7 c7 w9 hown9 hg9; have hb9 := (Below.refl w.heap.size _).grown hg9 (by simp; omega) (fun k hk => by cases hk)))
      have hR := rows_B w8 w9 A7 c7 hg9 _ hown9
      have hB9 : Below w.heap.size w (objs w9 [.cells #[.int .u8 128, .int .u8 0] 5, .cells #[.slice none 0 0, .slice (some ⟨w8.heap.size, 0, none⟩) 1 1, .slice A7 10 c7, .slice (some ⟨w9.heap.size, 0, none⟩) 2 2] 24]) :=
        ((hB8.trans ((objs_below [.cells #[.int .u8 128] 5, .cells #[.int .u8 2] 5] w8).mono hB8.size)).trans hb9).trans ((objs_below [.cells #[.int .u8 128, .int .u8 0] 5, .cells #[.slice none 0 0, .slice (some ⟨w8.heap.size, 0, none⟩) 1 1, .slice A7 10 c7, .slice (some ⟨w9.heap.size, 0, none⟩) 2 2] 24] w9).mono (Nat.le_trans (Nat.le_trans (by omega) (objs_below [.cells #[.int .u8 128] 5, .cells #[.int .u8 2] 5] w8).size) hb9.size))
      clear hg9 hown9 hb9 hB8
      revert hR hB9
      simp only [objs, List.foldl_cons, List.foldl_nil]
      generalize ((w9.alloc (.cells #[.int .u8 128, .int .u8 0] 5)).alloc (.cells #[.slice none 0 0, .slice (some ⟨w8.heap.size, 0, none⟩) 1 1, .slice A7 10 c7, .slice (some ⟨w9.heap.size, 0, none⟩) 2 2] 24)) = w10
      intro hR hB9
      go_loopw [61] (fun i wr => ∃ k : Nat, k ≤ 4 ∧ i = .int .i64 k ∧ Below w10.heap.size w10 wr) (fun i _ => 4 - (intOf i).toNat)
      case atStart => exact ⟨0, by omega, rfl, Below.refl _ _⟩
      case round =>
        obtain ⟨k, hk, rfl, hb⟩ := hrel
        by_cases hlt : k < 4
        · obtain ⟨A, n, c, g1, hs1⟩ := (hR.below hb) k hlt
          obtain ⟨hx1, hx2⟩ := formsB_at k hlt
          have hc := fun w t => errsB_cell w t k hlt
          generalize formsB.getD k [] = l at hs1 hx1 hx2
          generalize errsB.getD k 0 = y at hc hx2
          have HX := Lib.hid hx2
          clear hx2
          go_wp2_with (go_at_call 14; refine (Read_any _ _ _ l _ hs1 hx1).mono ?_; rw [HX.out]; generalize (rd l).1 = r1; generalize (rd l).2.1 = r2; rintro e w11 ⟨rfl, hb11⟩)
          go_roundw
          case rel =>
            exact ⟨k + 1, by omega, by go_num, (hb.trans (hb11.mono hb.size)).trans (((Below.refl _ _).alloc (Nat.le_refl _) _).mono (Nat.le_trans hb.size hb11.size))⟩
          case measure => simp [intOf]; omega
        · obtain rfl : k = 4 := by omega
          have hB10 := hB9.trans (hb.mono hB9.size)
          clear hb hB9 hR
          have z0 : zz 0 = 0 := by decide
          have z1 : zz (-1) = 1 := by decide
          have z2 : zz 1 = 2 := by decide
          have z3 : zz (-2) = 3 := by decide
          have z4 : zz (-9223372036854775808) = 18446744073709551615 := by decide
          have HZ := Lib.hid (And.intro z0 (And.intro z1 (And.intro z2 (And.intro z3 z4))))
          clear z0 z1 z2 z3 z4
          go_wp2_with (go_at_call 16; refine (Zigzag_any _ _ (by decide) (by decide)).mono ?_; (first | rw [HZ.out.1] | rw [HZ.out.2.1] | rw [HZ.out.2.2.1] | rw [HZ.out.2.2.2.1] | rw [HZ.out.2.2.2.2]); rintro e w6 ⟨rfl, rfl⟩)
          go_ret
          exact ⟨rfl, hB10⟩
end Go.Proofs.Ytckklmepncibkaa
