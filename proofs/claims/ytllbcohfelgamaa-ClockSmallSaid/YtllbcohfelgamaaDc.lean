/- Walks: ClockSmall. -/
import Derived.Test.YtllbcohfelgamaaProg
import Derived.Test.YtllbcohfelgamaaDd
namespace Go.Proofs.Ytllbcohfelgamaa
open Go.RowKit
set_option linter.unusedVariables false

def small9 : List Int := [-9223372036854775808, -1, 0, 1, 2, 281474976710655, 281474976710656, 281474976710657, 9223372036854775807]

set_option maxRecDepth 20000 in
set_option maxHeartbeats 1600000 in
theorem ClockSmall_any (w : World) : Calls Try.prog 10 #[] w fun e w' => e = .returned (.bool true) ∧ Below w.heap.size w w' := by
  obtain ⟨gF, hgF⟩ : ∃ g, w.heap.size = g := ⟨_, rfl⟩
  obtain ⟨wF, hwF⟩ : ∃ wF, w.alloc (.cells #[.int .i64 (-9223372036854775808), .int .i64 (-1), .int .i64 0, .int .i64 1, .int .i64 2, .int .i64 281474976710655, .int .i64 281474976710656, .int .i64 281474976710657, .int .i64 9223372036854775807] 3) = wF := ⟨_, rfl⟩
  have hF : Sees wF 1 (some ⟨gF, 0, none⟩) 9 9 (small9.map (Value.int .i64)) := by
    rw [← hwF, ← hgF]; exact sees_block (heap_alloc_new _ _) rfl (by decide) (by decide) ⟨[], rfl⟩
  have hBF : Below gF w wF := by rw [← hwF, ← hgF]; exact (Below.refl _ _).alloc (Nat.le_refl _) _
  have HGF := Lib.hid hgF
  have HWF := Lib.hid hwF
  have HBF := Lib.hid hBF
  have HSF := Lib.hid (show gF ≤ wF.heap.size by rw [← hwF, ← hgF]; simp)
  clear hgF hwF hBF
  generalize small9 = L at hF
  have HFF := Lib.hid hF
  clear hF
  go_enter Try.func10, Try.ntmps10
  go_wp2
  rw [HGF.out, HWF.out]
  go_loopw [14] (fun i wr => ∃ i1 : Nat, Hid (i1 ≤ 9) ∧ i = .int .i64 (i1 : Int) ∧ Below wF.heap.size wF wr) (fun i _ => 9 - (intOf i).toNat)
  case atStart => exact ⟨0, Lib.hid (by omega), rfl, Below.refl _ _⟩
  case round =>
    obtain ⟨i1, HI, rfl, hb⟩ := hrel
    by_cases hlt : i1 < 9
    · obtain ⟨b1, o1, hA1, g1⟩ := (HFF.out.below hb (Nat.le_refl _)).int hlt
      cases hA1
      rw [Nat.zero_add] at g1
      generalize L.getD i1 0 = a at g1
      have HI1 := Lib.hid hlt
      have d1 : decide ((i1 : Int) < 9) = true := by simp; omega
      have hi1 : (i1 : Int) ≤ 8 := by omega
      clear hlt
      go_wp2
      clear g1 d1
      go_loopw [20] (fun i wr => ∃ i2 : Nat, Hid (i2 ≤ 9) ∧ i = .int .i64 (i2 : Int) ∧ Below wF.heap.size wF wr) (fun i _ => 9 - (intOf i).toNat)
      case atStart => exact ⟨0, Lib.hid (by omega), rfl, hb⟩
      case round =>
        clear hb
        obtain ⟨i2, HI', rfl, hb⟩ := hrel
        by_cases hlt : i2 < 9
        · obtain ⟨b2, o2, hA2, g2⟩ := (HFF.out.below hb (Nat.le_refl _)).int hlt
          cases hA2
          rw [Nat.zero_add] at g2
          generalize L.getD i2 0 = b at g2
          have HI2 := Lib.hid hlt
          have d1 : decide ((i2 : Int) < 9) = true := by simp; omega
          have hi2 : (i2 : Int) ≤ 8 := by omega
          clear hlt
          obtain ⟨W, hW⟩ : ∃ W, ((((((wr.alloc (.cells #[.int .i64 0] 3)).alloc (.cells #[.int .i64 1, .int .i64 281474976710656] 3)).alloc (.cells #[.int .i64 3, .int .i64 3, .int .i64 3] 3)).alloc (.cells #[.int .i64 a, .int .i64 b] 3)).alloc (.cells #[.int .i64 b] 3)).alloc (.cells #[.slice (some ⟨wr.heap.size, 0, none⟩) 1 1, .slice (some ⟨wr.heap.size + 1, 0, none⟩) 2 2, .slice (some ⟨wr.heap.size + 1 + 1, 0, none⟩) 3 3, .slice (some ⟨wr.heap.size + 1 + 1 + 1, 0, none⟩) 2 2, .slice (some ⟨wr.heap.size + 1 + 1 + 1 + 1, 0, none⟩) 1 1] 29)) = W := ⟨_, rfl⟩
          have H5 := Lib.hid (five wr W a b hW)
          have HW := Lib.hid hW
          clear hW
          go_wp2
          rw [HW.out]
          have hbW := hb.trans (H5.out.1.mono hb.size)
          have H6 := Lib.hid (And.intro H5.out.2.1 H5.out.2.2)
          clear HW H5 g2 d1 hb
          generalize wr.heap.size + 1 + 1 + 1 + 1 + 1 = G at H6 ⊢
          go_loopw [34] (fun i wq => ∃ i3 : Nat, Hid (i3 ≤ 5) ∧ i = .int .i64 (i3 : Int) ∧ Below W.heap.size W wq) (fun i _ => 5 - (intOf i).toNat)
          case atStart => exact ⟨0, Lib.hid (by omega), rfl, Below.refl _ _⟩
          case round =>
            obtain ⟨i3, HI'', rfl, hq⟩ := hrel
            by_cases hlt : i3 < 5
            · obtain ⟨A3, n3, c3, l3, hc3, hs3⟩ := H6.out.2 i3 hlt
              have g3 : wr.cell? ⟨G, i3, none⟩ = some (.slice A3 n3 c3) := by rw [hq.cell H6.out.1]; exact hc3
              have HS3 := Lib.hid hs3
              have HI3 := Lib.hid hlt
              have d1 : decide ((i3 : Int) < 5) = true := by simp; omega
              have hi3 : (i3 : Int) ≤ 4 := by omega
              clear hlt hc3 hs3
              go_wp2
              clear g3 d1
              go_loopw [8] (fun v wq => ∃ k : Int, Hid (-1 ≤ k ∧ k ≤ 3) ∧ v = .int .i64 k ∧ Below W.heap.size W wq) (fun v _ => (3 - intOf v).toNat)
              case atStart => exact ⟨-1, Lib.hid (by omega), rfl, hq⟩
              case round =>
                clear hq
                obtain ⟨k, HK, rfl, hq⟩ := hrel
                by_cases hlt : k < 3
                · have d1 : decide (k < 3) = true := by simp; omega
                  have hk1 : -1 ≤ k := HK.out.1
                  have hk2 : k ≤ 2 := by omega
                  have HK3 := Lib.hid hlt
                  clear hlt
                  have HQ := Lib.hid hq
                  clear hq
                  go_wp2_with (go_at_call 21; refine (does_any _ _ _ l3 _ 5 5 [(k, a, false), (k, b, true), (0, 1, false), (k, a, true), (k, b, false)] _ (by exact HS3.out.below (HQ.out.alloc HQ.out.size _) (Nat.le_refl _)) (by exact sees_block3 (heap_alloc_new _ _) rfl (by decide))).mono ?_; rintro e w4 ⟨rfl, hb4⟩)
                  have hq4 := below_step (HQ.out.alloc HQ.out.size _) hb4
                  go_roundw
                  case rel => exact ⟨k + 1, Lib.hid (by have := HK3.out; omega), by go_num, hq4⟩
                  case measure => have := HK3.out; simp [intOf]; omega
                · have d1 : decide (k < 3) = false := by simp; omega
                  clear hlt
                  go_wp2
                  go_roundw
                  case rel => exact ⟨i3 + 1, Lib.hid HI3.out, by go_num, hq⟩
                  case measure => have := HI3.out; simp [intOf]; omega
            · have d1 : decide ((i3 : Int) < 5) = false := by simp; omega
              clear hlt
              have hb := hbW.trans (hq.mono hbW.size)
              clear hbW hq
              have HB := Lib.hid hb
              clear hb
              go_wp2_with (first
                | (go_at_call 22; have _q := b6; refine (tells_any a none none _ 0 0 0 0 1 1 [] [] [b] _ (by exact Sees.nil _ _ _ _ (Nat.zero_le _) fun _ => rfl) (by exact Sees.nil _ _ _ _ (Nat.zero_le _) fun _ => rfl) (by exact sees_block (heap_alloc_new _ _) rfl (by decide) (by decide) ⟨[], rfl⟩)).mono ?_; rintro e w7 ⟨rfl, k7⟩; have b7 := below_step (b6.alloc b6.size _) k7)
                | (go_at_call 22; have _q := b5; refine (tells_any 2 _ _ _ 4 4 3 3 3 3 [(0, 2), (1, a), (0, b), (1, b)] [0, a, 0] [b, 1, b] _ (by exact sees31 _ [(0, 2), (1, a), (0, b), (1, b)] 4 _ _ _ rfl (by decide)) (by exact sees32 _ [0, a, 0] 3 _ _ _ _ (by simp) rfl (by decide)) (by exact sees33 _ [b, 1, b] 3 _ _ _ _ (by simp) rfl (by decide))).mono ?_; rintro e w6 ⟨rfl, k6⟩; have b6 := below_step (below3 b5 _ _ _) k6)
                | (go_at_call 22; refine (tells_any _ _ _ _ 3 3 3 3 3 3 [(1, a), (0, b), (1, b)] [1, 0, 1] [a, b, b] _ (by exact sees31 _ [(1, a), (0, b), (1, b)] 3 _ _ _ rfl (by decide)) (by exact sees32 _ [1, 0, 1] 3 _ _ _ _ (by simp) rfl (by decide)) (by exact sees33 _ [a, b, b] 3 _ _ _ _ (by simp) rfl (by decide))).mono ?_; rintro e w5 ⟨rfl, k5⟩; have b5 := below_step (below3 HB.out _ _ _) k5))
              go_roundw
              case rel => exact ⟨i2 + 1, Lib.hid HI2.out, by go_num, b7⟩
              case measure => have := HI2.out; simp [intOf]; omega
        · have d1 : decide ((i2 : Int) < 9) = false := by simp; omega
          clear hlt
          go_wp2
          go_roundw
          case rel => exact ⟨i1 + 1, Lib.hid HI1.out, by go_num, hb⟩
          case measure => have := HI1.out; simp [intOf]; omega
    · have d1 : decide ((i1 : Int) < 9) = false := by simp; omega
      clear hlt
      obtain ⟨W, hW⟩ : ∃ W, wr.alloc (.cells #[.int .i64 0, .int .i64 1, .int .i64 63, .int .i64 64, .int .i64 65, .int .i64 100] 3) = W := ⟨_, rfl⟩
      have H6 : Hid (Sees W 1 (some ⟨wr.heap.size, 0, none⟩) 6 6 (([0, 1, 63, 64, 65, 100] : List Int).map (Value.int .i64))) := Lib.hid (by
        rw [← hW]; exact sees_block (heap_alloc_new _ _) rfl (by decide) (by decide) ⟨[], rfl⟩)
      have hbW : Below wF.heap.size wF W := by rw [← hW]; exact hb.alloc hb.size _
      have HW := Lib.hid hW
      clear hW hb
      go_wp2
      rw [HW.out]
      clear HW d1
      go_loopw [106] (fun i wq => ∃ i3 : Nat, Hid (i3 ≤ 6) ∧ i = .int .i64 (i3 : Int) ∧ Below W.heap.size W wq) (fun i _ => 6 - (intOf i).toNat)
      case atStart => exact ⟨0, Lib.hid (by omega), rfl, Below.refl _ _⟩
      case round =>
        obtain ⟨i3, HI'', rfl, hq⟩ := hrel
        by_cases hlt : i3 < 6
        · obtain ⟨b3, o3, hA3, g3⟩ := (H6.out.below hq (Nat.le_refl _)).int hlt
          cases hA3
          rw [Nat.zero_add] at g3
          obtain ⟨n, hn, he⟩ := six_at i3 hlt
          rw [he] at g3
          have HI3 := Lib.hid hlt
          have d1 : decide ((i3 : Int) < 6) = true := by simp; omega
          have hi3 : (i3 : Int) ≤ 5 := by omega
          have hn1 : (n : Int) ≤ 100 := by omega
          have HN := Lib.hid hn
          have HQ := Lib.hid hq
          clear hlt he hn hq
          go_wp2_with (first
            | (go_at_call 22; refine (tells_any (n : Int) _ _ _ 2 2 1 1 1 1 [((n : Int) - 1, 0), ((n : Int), 0)] [(n : Int)] [1] _ (by exact sees31 _ [((n : Int) - 1, 0), ((n : Int), 0)] 2 _ _ _ rfl (by decide)) (by exact sees32 _ [(n : Int)] 1 _ _ _ _ (by simp) rfl (by decide)) (by exact sees33 _ [1] 1 _ _ _ _ (by simp) rfl (by decide))).mono ?_; rintro e w6 ⟨rfl, k6⟩; have b6 := below_step (below3 b5 _ _ _) k6)
            | (go_at_call 21; refine (does_any _ _ _ (List.replicate n 0) _ 2 2 [((n : Int) - 1, 5, false), ((n : Int), 1, false)] _ (by exact (sees_own HO.out).below (below_new _ _) (Nat.le_refl _)) (by exact sees_block3 (heap_alloc_new _ _) rfl (by decide))).mono ?_; rintro e w5 ⟨rfl, k5⟩; have b5 := below_step (b4.alloc b4.size _) k5)
            | (at_make; refine wpList_mkF E_int rfl _ _ rfl n rfl rfl (by rfl) (by rfl) (by have := HN.out; omega) (by have := HN.out; simp [maxLen]; omega) ?_; intro w4 hown1 hg1 hb1; have HO := Lib.hid hown1; have b4 := below_step HQ.out hb1; clear hown1 hg1 hb1))
          go_roundw
          case rel => exact ⟨i3 + 1, Lib.hid HI3.out, by go_num, b6⟩
          case measure => have := HI3.out; simp [intOf]; omega
        · have d1 : decide ((i3 : Int) < 6) = false := by simp; omega
          clear hlt
          have hb := hbW.trans (hq.mono hbW.size)
          clear hbW hq
          go_wp2_with (first
            | (go_at_call 11; refine (awake_any _).mono ?_; rintro e w2 ⟨rfl, k2⟩; have b2 := below_step k1 k2)
            | (go_at_call 27; refine (nobody_any _).mono ?_; rintro e w1 ⟨rfl, k1⟩))
          go_ret
          have b9 := below_step hb (b2)
          exact ⟨rfl, by rw [HGF.out]; exact HBF.out.trans (b9.mono HSF.out)⟩
end Go.Proofs.Ytllbcohfelgamaa
