/- Walks: VarintSmall. -/
import Derived.Test.YtckklmepncibkaaProg
import Derived.Test.YtckklmepncibkaaVl
import Derived.Test.YtckklmepncibkaaQ3
namespace Go.Proofs.Ytckklmepncibkaa
open Go.RowKit
set_option linter.unusedVariables false

theorem tells_int (x n : Int) (w : World) (hx : 0 ≤ x ∧ x ≤ 18446744073709551615) (hn : -9223372036854775808 ≤ n ∧ n ≤ 9223372036854775807) :
    Calls Try.prog 20 #[.int .u64 x, .int .i64 n] w fun e w' => e = .returned (.bool true) ∧ Below w.heap.size w w' := by
  obtain ⟨m, rfl⟩ : ∃ m : Nat, x = (m : Int) := ⟨x.toNat, by omega⟩
  exact tells_any m n w (by omega) hn.1 hn.2
theorem lists_int (A : Option Addr) (n c : Nat) (l : List Int) (w : World) (h : Sees w 1 A n c (l.map (Value.int .u64))) (hl : ∀ x ∈ l, 0 ≤ x ∧ x ≤ 18446744073709551615) :
    Calls Try.prog 18 #[.slice A n c] w fun e w' => e = .returned (.bool true) ∧ Below w.heap.size w w' := by
  have e : l = (l.map Int.toNat).map Int.ofNat := by
    rw [List.map_map]
    refine List.ext_getElem (by simp) fun i h1 h2 => ?_
    have := hl _ (List.getElem_mem h1)
    simp only [List.getElem_map, Function.comp]
    have e : (Int.ofNat (l[i]).toNat) = ((l[i].toNat : Nat) : Int) := rfl
    rw [e]; omega
  rw [e] at h
  exact lists_any A n c _ w h fun x hx => by
    obtain ⟨y, hy, rfl⟩ := List.mem_map.1 hx
    have := hl y hy
    omega
theorem in_u64 (v : Int) : 0 ≤ IntKind.u64.wrap v ∧ IntKind.u64.wrap v ≤ 18446744073709551615 := by simp [IntKind.wrap, IntKind.signed, IntKind.bits]; omega
theorem in_i64 (v : Int) : -9223372036854775808 ≤ IntKind.i64.wrap v ∧ IntKind.i64.wrap v ≤ 9223372036854775807 := by
  simp [IntKind.wrap, IntKind.signed, IntKind.bits]; split <;> omega

theorem xor_max (X : Int) (h0 : 0 ≤ X) (h1 : X ≤ 18446744073709551615) : bits .xor .u64 IntKind.u64.max X = 18446744073709551615 - X := by
  obtain ⟨m, rfl⟩ : ∃ m : Nat, X = (m : Int) := ⟨X.toNat, by omega⟩
  have h := u64_xor_nat 18446744073709551615 m (by omega) (by omega)
  rw [Nat.xor_comm, xor_ones m (by omega)] at h
  have e : IntKind.u64.max = ((18446744073709551615 : Nat) : Int) := by decide
  rw [e, h]
  omega

set_option maxRecDepth 20000 in
set_option maxHeartbeats 3200000 in
theorem VarintSmall_any (w : World) : Calls Try.prog 11 #[] w fun e w' => e = .returned (.bool true) ∧ Below w.heap.size w w' := by
  go_enter Try.func11, Try.ntmps11
  go_wp2
  go_loopw [14] (fun i wr => ∃ k : Nat, k ≤ 20001 ∧ i = .int .u64 (k : Int) ∧ Below w.heap.size w wr) (fun i _ => 20001 - (intOf i).toNat)
  case atStart => exact ⟨0, by omega, rfl, Below.refl _ _⟩
  case round =>
    obtain ⟨k, hk, rfl, hb⟩ := hrel
    by_cases hlt : k < 20001
    · have HK := Lib.hid hlt
      have d1 : decide ((k : Int) < 20001) = true := by simp; omega
      have hs : (k : Int) ≤ 9223372036854775807 := by omega
      have hs2 : -9223372036854775808 ≤ (k : Int) - 10000 := by omega
      have hs3 : (k : Int) - 10000 ≤ 9223372036854775807 := by omega
      clear hlt hk
      go_wp2_with (go_at_call 20; refine (tells_int _ _ _ (by omega) (by omega)).mono ?_; rintro e w1 ⟨rfl, hb1⟩)
      go_roundw
      case rel => exact ⟨k + 1, HK.out, by go_num, below_step hb hb1⟩
      case measure => have := HK.out; simp [intOf]; omega
    · have d1 : decide ((k : Int) < 20001) = false := by simp; omega
      have hB1 := hb
      clear hb hk hlt
      go_wp2
      go_loopw [24] (fun i wr => ∃ k : Nat, k ≤ 64 ∧ i = .int .i64 (k : Int) ∧ Below w.heap.size w wr) (fun i _ => 64 - (intOf i).toNat)
      case atStart => exact ⟨0, by omega, rfl, hB1⟩
      case round =>
        obtain ⟨k, hk, rfl, hb⟩ := hrel
        by_cases hlt : k < 64
        · have HK := Lib.hid hlt
          have d1 : decide ((k : Int) < 64) = true := by simp; omega
          have hk2 : (k : Int) ≤ 63 := by omega
          clear hlt hk
          go_wp2
          go_loopw [27] (fun i wr => ∃ d : Nat, d ≤ 3 ∧ i = .int .u64 (d : Int) ∧ Below w.heap.size w wr) (fun i _ => 3 - (intOf i).toNat)
          case atStart => exact ⟨0, by omega, rfl, hb⟩
          case round =>
            obtain ⟨d, hd, rfl, hb2⟩ := hrel
            by_cases hlt2 : d < 3
            · have HD := Lib.hid hlt2
              have hd2 : decide ((d : Int) < 3) = true := by simp; omega
              have hs : (d : Int) ≤ 3 := by omega
              clear hlt2 hd
              obtain ⟨X, hX⟩ : ∃ X : Int, IntKind.u64.wrap (IntKind.u64.wrap (IntKind.u64.wrap (2 ^ k) + (d : Int)) - 1) = X := ⟨_, rfl⟩
              have hX1 := in_u64 (IntKind.u64.wrap (IntKind.u64.wrap (2 ^ k) + (d : Int)) - 1)
              rw [hX] at hX1
              obtain ⟨hX1, hX2⟩ := hX1
              obtain ⟨Y, hY⟩ : ∃ Y : Int, wrap64 X = Y := ⟨_, rfl⟩
              have hY1 : -9223372036854775808 ≤ Y ∧ Y ≤ 9223372036854775807 := by rw [← hY]; unfold wrap64; omega
              obtain ⟨hY1, hY2⟩ := hY1
              have hx1 := xor_max X hX1 hX2
              obtain ⟨Z, hZ⟩ : ∃ Z : Int, 18446744073709551615 - X = Z := ⟨_, rfl⟩
              rw [hZ] at hx1
              have hx2 : bits .xor .u64 (if IntKind.u64.signed = true then -1 else IntKind.u64.max) X = Z := hx1
              have hZ1 : 0 ≤ Z := by omega
              have hZ2 : Z ≤ 18446744073709551615 := by omega
              obtain ⟨V, hV⟩ : ∃ V : Int, wrap64 (-Y) = V := ⟨_, rfl⟩
              have hV1 : -9223372036854775808 ≤ V := by rw [← hV]; unfold wrap64; omega
              have hV2 : V ≤ 9223372036854775807 := by rw [← hV]; unfold wrap64; omega
              clear hZ
              have hall : ∀ x ∈ [X, Z, (d : Int)], 0 ≤ x ∧ x ≤ 18446744073709551615 := by intro x hx; simp at hx; omega
              go_wp2_with (first
                | (go_at_call 20; refine (tells_int _ _ _ (by exact ⟨hZ1, hZ2⟩) (by exact ⟨hV1, hV2⟩)).mono ?_; rintro e w2 ⟨rfl, hb3⟩)
                | (go_at_call 18; refine (lists_int _ _ _ [X, Z, (d : Int)] _ (by exact sees_block (heap_alloc_new _ _) rfl (by decide) (by decide) ⟨[], rfl⟩) (by exact hall)).mono ?_; rintro e w3 ⟨rfl, hb4⟩)
                | (go_at_call 20; refine (tells_int _ _ _ (by exact ⟨hX1, hX2⟩) (by exact ⟨hY1, hY2⟩)).mono ?_; rintro e w1 ⟨rfl, hb1⟩))
              go_roundw
              case rel =>
                exact ⟨d + 1, HD.out, by go_num, (below_step (below_step hb2 hb1) hb3).trans ((((Below.refl _ _).alloc (Nat.le_refl _) _).trans (hb4.mono (by simp))).mono (below_step (below_step hb2 hb1) hb3).size)⟩
              case measure => have := HD.out; simp [intOf]; omega
            · have d2 : decide ((d : Int) < 3) = false := by simp; omega
              clear hlt2 hd
              go_wp2
              go_roundw
              case rel => exact ⟨k + 1, HK.out, by go_num, hb2⟩
              case measure => have := HK.out; simp [intOf]; omega
        · have d2 : decide ((k : Int) < 64) = false := by simp; omega
          clear hlt hk
          go_wp2
          have hB2 := hb
          clear hb
          go_loopw [60] (fun i wr => ∃ n : Nat, n ≤ 65536 ∧ i = .int .i64 (n : Int) ∧ Below w.heap.size w wr) (fun i _ => 65536 - (intOf i).toNat)
          case atStart => exact ⟨0, by omega, rfl, hB2⟩
          case round =>
            obtain ⟨n, hn, rfl, hb⟩ := hrel
            by_cases hlt : n < 65536
            · have HN := Lib.hid hlt
              have d3 : decide ((n : Int) < 65536) = true := by simp; omega
              have hn2 : (n : Int) ≤ 65535 := by omega
              clear hlt hn
              have hs : ∀ w : World, Sees (w.alloc (.cells #[.int .u8 ((n : Int) % 256), .int .u8 ((n : Int) / 256)] 5)) 1 (some ⟨w.heap.size, 0, none⟩) (2 - n % 257 / 256) 2 ((([(n : Int) % 256, (n : Int) / 256] : List Int).take (2 - n % 257 / 256)).map (Value.int .u8)) := fun w => by
                have := (sees_block (xs := ([(n : Int) % 256, (n : Int) / 256] : List Int).map (Value.int .u8)) (n := 2) (c := 2) (heap_alloc_new w (.cells #[.int .u8 ((n : Int) % 256), .int .u8 ((n : Int) / 256)] 5)) rfl (by decide) (by decide) ⟨[], rfl⟩).pre (k := 2 - n % 257 / 256) (by omega)
                rwa [Nat.mul_one, ← List.map_take] at this
              have hby : Bytes (([(n : Int) % 256, (n : Int) / 256] : List Int).take (2 - n % 257 / 256)) := fun b hb => by
                have := List.mem_of_mem_take hb
                simp at this
                omega
              go_wp2_with (go_at_call 21; refine (reads_any _ _ _ _ _ (by exact hs _) hby).mono ?_; rintro e w5 ⟨rfl, hb5⟩)
              go_roundw
              case rel => exact ⟨n + 1, HN.out, by go_num, hb.trans ((((Below.refl _ _).alloc (Nat.le_refl _) _).trans (hb5.mono (by simp))).mono hb.size)⟩
              case measure => have := HN.out; simp [intOf]; omega
            · have d3 : decide ((n : Int) < 65536) = false := by simp; omega
              clear hlt hn
              go_wp2
              have hB3 := hb
              clear hb
              go_loopw [77] (fun i wr => ∃ z : Nat, z ≤ 12 ∧ i = .int .i64 (z : Int) ∧ Below w.heap.size w wr) (fun i _ => 12 - (intOf i).toNat)
              case atStart => exact ⟨0, by omega, rfl, hB3⟩
              case round =>
                obtain ⟨z, hz, rfl, hb⟩ := hrel
                by_cases hlt : z < 12
                · have HZ := Lib.hid hlt
                  have d4 : decide ((z : Int) < 12) = true := by simp; omega
                  have hz2 : (z : Int) ≤ 11 := by omega
                  clear hlt hz
                  go_wp2
                  have hF : Sees (wr.alloc (.cells #[.int .u8 128, .int .u8 129, .int .u8 255] 5)) 1 (some ⟨wr.heap.size, 0, none⟩) 3 3 (([128, 129, 255] : List Int).map (Value.int .u8)) := sees_block (heap_alloc_new _ _) rfl (by decide) (by decide) ⟨[], rfl⟩
                  have hFb : Bytes [128, 129, 255] := by unfold Bytes; decide
                  have hBF : Below w.heap.size w (wr.alloc (.cells #[.int .u8 128, .int .u8 129, .int .u8 255] 5)) := hb.alloc hb.size _
                  clear hb
                  revert hF hBF
                  generalize wr.alloc (.cells #[.int .u8 128, .int .u8 129, .int .u8 255] 5) = wF
                  generalize wr.heap.size = gF
                  generalize ([128, 129, 255] : List Int) = lF at hFb
                  intro hF hBF
                  go_loopw [82] (fun i wr => ∃ i1 : Nat, i1 ≤ 3 ∧ i = .int .i64 (i1 : Int) ∧ Below wF.heap.size wF wr) (fun i _ => 3 - (intOf i).toNat)
                  case atStart => exact ⟨0, by omega, rfl, Below.refl _ _⟩
                  case round =>
                    obtain ⟨i1, hi1, rfl, hb⟩ := hrel
                    by_cases hlt : i1 < 3
                    · obtain ⟨b1, o1, hA1, g1⟩ := (hF.below hb (Nat.le_refl _)).int hlt
                      cases hA1
                      rw [Nat.zero_add] at g1
                      have hf := hFb.at_ (k := i1) (by have := hF.length; omega)
                      generalize lF.getD i1 0 = f at g1 hf
                      have HFB := Lib.hid hf
                      have HI1 := Lib.hid hlt
                      have d5 : decide ((i1 : Int) < 3) = true := by simp; omega
                      have hi1' : (i1 : Int) ≤ 2 := by omega
                      clear hf hlt hi1
                      go_wp2
                      have hF2 : Sees (wr.alloc (.cells #[.int .u8 0, .int .u8 1, .int .u8 2, .int .u8 3, .int .u8 64, .int .u8 127, .int .u8 128, .int .u8 129, .int .u8 255] 5)) 1 (some ⟨wr.heap.size, 0, none⟩) 9 9 (([0, 1, 2, 3, 64, 127, 128, 129, 255] : List Int).map (Value.int .u8)) := sees_block (heap_alloc_new _ _) rfl (by decide) (by decide) ⟨[], rfl⟩
                      have hF2b : Bytes [0, 1, 2, 3, 64, 127, 128, 129, 255] := by unfold Bytes; decide
                      have hBF2 : Below wF.heap.size wF (wr.alloc (.cells #[.int .u8 0, .int .u8 1, .int .u8 2, .int .u8 3, .int .u8 64, .int .u8 127, .int .u8 128, .int .u8 129, .int .u8 255] 5)) := hb.alloc hb.size _
                      clear hb g1
                      revert hF2 hBF2
                      generalize wr.alloc (.cells #[.int .u8 0, .int .u8 1, .int .u8 2, .int .u8 3, .int .u8 64, .int .u8 127, .int .u8 128, .int .u8 129, .int .u8 255] 5) = wG
                      generalize wr.heap.size = gG
                      generalize ([0, 1, 2, 3, 64, 127, 128, 129, 255] : List Int) = lG at hF2b
                      intro hF2 hBF2
                      go_loopw [88] (fun i wr => ∃ i2 : Nat, i2 ≤ 9 ∧ i = .int .i64 (i2 : Int) ∧ Below wG.heap.size wG wr) (fun i _ => 9 - (intOf i).toNat)
                      case atStart => exact ⟨0, by omega, rfl, Below.refl _ _⟩
                      case round =>
                        obtain ⟨i2, hi2, rfl, hb⟩ := hrel
                        by_cases hlt : i2 < 9
                        · obtain ⟨b2, o2, hA2, g2⟩ := (hF2.below hb (Nat.le_refl _)).int hlt
                          cases hA2
                          rw [Nat.zero_add] at g2
                          have hl := hF2b.at_ (k := i2) (by have := hF2.length; omega)
                          generalize lG.getD i2 0 = la at g2 hl
                          have HLB := Lib.hid hl
                          have HI2 := Lib.hid hlt
                          have d6 : decide ((i2 : Int) < 9) = true := by simp; omega
                          have hi2' : (i2 : Int) ≤ 8 := by omega
                          clear hl hlt hi2
                          go_wp2
                          have hF3 : Sees (wr.alloc (.cells #[.int .u8 0, .int .u8 1, .int .u8 127, .int .u8 128, .int .u8 129, .int .u8 255] 5)) 1 (some ⟨wr.heap.size, 0, none⟩) 6 6 (([0, 1, 127, 128, 129, 255] : List Int).map (Value.int .u8)) := sees_block (heap_alloc_new _ _) rfl (by decide) (by decide) ⟨[], rfl⟩
                          have hF3b : Bytes [0, 1, 127, 128, 129, 255] := by unfold Bytes; decide
                          have hBF3 : Below wG.heap.size wG (wr.alloc (.cells #[.int .u8 0, .int .u8 1, .int .u8 127, .int .u8 128, .int .u8 129, .int .u8 255] 5)) := hb.alloc hb.size _
                          clear hb g2
                          revert hF3 hBF3
                          generalize wr.alloc (.cells #[.int .u8 0, .int .u8 1, .int .u8 127, .int .u8 128, .int .u8 129, .int .u8 255] 5) = wH
                          generalize wr.heap.size = gH
                          generalize ([0, 1, 127, 128, 129, 255] : List Int) = lH at hF3b
                          intro hF3 hBF3
                          go_loopw [94] (fun i wr => ∃ i3 : Nat, i3 ≤ 6 ∧ i = .int .i64 (i3 : Int) ∧ Below wH.heap.size wH wr) (fun i _ => 6 - (intOf i).toNat)
                          case atStart => exact ⟨0, by omega, rfl, Below.refl _ _⟩
                          case round =>
                            obtain ⟨i3, hi3, rfl, hb⟩ := hrel
                            by_cases hlt : i3 < 6
                            · obtain ⟨b3, o3, hA3, g3⟩ := (hF3.below hb (Nat.le_refl _)).int hlt
                              cases hA3
                              rw [Nat.zero_add] at g3
                              have hl := hF3b.at_ (k := i3) (by have := hF3.length; omega)
                              generalize lH.getD i3 0 = be at g3 hl
                              have HBE := Lib.hid hl
                              have HI3 := Lib.hid hlt
                              have d7 : decide ((i3 : Int) < 6) = true := by simp; omega
                              have hi3' : (i3 : Int) ≤ 5 := by omega
                              clear hl hlt hi3
                              go_wp2
                              clear g3
                              go_loopw [13, 99] (fun v i w2 => ∃ (j c' : Nat) (A' : Option Addr) (ys : List Int), i = .int .i64 (j : Int) ∧ Hid (j ≤ z) ∧ v = .slice A' j c' ∧ w2.ownsRow wr.heap.size 5 1 (.slice A' j c') j (ys.map (Value.int .u8)) ∧ Hid (Bytes ys) ∧ Below wr.heap.size wr w2) (fun _ i _ => z - (intOf i).toNat)
                              case atStart => exact ⟨0, 0, none, [], rfl, Lib.hid (Nat.zero_le _), rfl, World.ownsRow_nil _ _ _ _, Lib.hid (by intro b hb; simp at hb), Below.refl _ _⟩
                              case round =>
                                obtain ⟨j, c', A', ys, rfl, HJ, rfl, ho, HY, hb2⟩ := hrel
                                by_cases hlt : j < z
                                · have HL := Lib.hid hlt
                                  have d8 : decide ((j : Int) < (z : Int)) = true := by simp; omega
                                  have hj2 : (j : Int) ≤ 11 := by omega
                                  clear hlt
                                  clear d1 d2 d3 d4 d5 d6 d7 hz2 hi1' hi2' hi3' hF hF2 hF3 hFb hF2b hF3b
                                  go_wp2_with (at_builtin; refine wpList_app E_u8 rfl _ _ rfl rfl (ho.alloc _) rfl (Sees.one _ _ _) (one1 rfl) (by simp [maxLen]; omega) (by omega) (by have := hb2.size; simp; omega) ?_; intro A4 c4 w4 hown4 hg4 hb4)
                                  go_roundw
                                  case rel => exact ⟨j + 1, c4, A4, ys ++ [f], by go_num, HL.out, rfl, by rw [List.map_append]; exact hown4, Lib.hid (fun b hb => by
                                    rcases List.mem_append.1 hb with h | h
                                    · exact HY.out b h
                                    · rw [List.mem_singleton.1 h]; exact HFB.out), (hb2.alloc hb2.size _).trans hb4⟩
                                  case measure => have := HL.out; simp [intOf]; omega
                                · obtain rfl : z = j := by have := HJ.out; omega
                                  have d8 : decide ((z : Int) < (z : Int)) = false := by simp
                                  clear hlt
                                  have hby2 : Bytes (ys ++ [be, la]) := fun b hb => by
                                    rcases List.mem_append.1 hb with h | h
                                    · exact HY.out b h
                                    · simp at h; rcases h with rfl | rfl
                                      · exact HBE.out
                                      · exact HLB.out
                                  have hby5 : Bytes ([5] ++ (ys ++ [be, la])) := fun b hb => by
                                    rcases List.mem_append.1 hb with h | h
                                    · simp at h; subst h; decide
                                    · exact hby2 b h
                                  have hbyt : Bytes ((ys ++ [be, la]).take z) := fun b hb => hby2 b (List.mem_of_mem_take hb)
                                  have HB2 := Lib.hid hby2
                                  have HB5 := Lib.hid hby5
                                  have HBT := Lib.hid hbyt
                                  clear hby2 hby5 hbyt
                                  have HB0 := Lib.hid hb
                                  clear d1 d2 d3 d4 d5 d6 d7 hi1' hi2' hF hF2 hF3 hFb hF2b hF3b hBF hBF2 hBF3 hb HZ
                                  go_wp2_with (first
                                    | (at_builtin; refine wpList_app E_u8 rfl _ _ rfl rfl (ho.alloc _) rfl (sees_block (xs := [be, la].map (Value.int .u8)) (n := 2) (c := 2) (heap_alloc_new _ _) rfl (by decide) (by decide) ⟨[], rfl⟩) (ints1 _ _) (by simp [maxLen]; omega) (by omega) (by have := hb2.size; simp; omega) ?_; intro A4 c4 w4 hown4 hg4 hb4; rw [← List.map_append] at hown4; have hS4 := sees_own hown4; have hcut := fun w => run_cutr E_u8 A4 (z + 2) c4 z (Nat.le_trans (by omega) hS4.cap) w; have hST := hS4.pre (k := z) (by omega); rw [Nat.mul_one, ← List.map_take] at hST; have hB4 := (hb2.alloc hb2.size _).trans hb4)
                                    | (at_builtin; refine wpList_appVg E_u8 (by rfl) _ _ rfl rfl (Sees.one_at (.int .u8 5) _ rfl) rfl ((hS4.below (below_step hb5 hb6) (Nat.le_refl _)).below ((Below.refl _ _).alloc (Nat.le_refl _) _) (Nat.le_refl _)) (ints1 _ _) (by simp [maxLen]; omega) (by omega) ?_; intro A7 c7 w7 hS7 hb7; have hS8 : Sees w7 1 A7 (1 + (z + 2)) c7 (([5] ++ (ys ++ [be, la])).map (Value.int .u8)) := (by rw [List.map_append]; exact hS7))
                                    | (go_at_call 21; refine (reads_any _ _ _ _ _ (by exact hS4) HB2.out).mono ?_; rintro e w5 ⟨rfl, hb5⟩)
                                    | (go_at_call 21; refine (reads_any _ _ _ _ _ (by exact hST.below hb5 (Nat.le_refl _)) HBT.out).mono ?_; rintro e w6 ⟨rfl, hb6⟩)
                                    | (go_at_call 21; refine (reads_any _ _ _ _ _ (by exact hS8) HB5.out).mono ?_; rintro e w8 ⟨rfl, hb8⟩))
                                  go_roundw
                                  case rel => exact ⟨i3 + 1, HI3.out, by go_num, HB0.out.trans ((below_step (below_step (below_step (below_step hB4 hb5) hb6) (((Below.refl _ _).alloc (Nat.le_refl _) _).trans (hb7.mono (by simp)))) hb8).mono HB0.out.size)⟩
                                  case measure => have := HI3.out; simp [intOf]; omega
                            · obtain rfl : i3 = 6 := by omega
                              go_wp2
                              go_roundw
                              case rel => exact ⟨i2 + 1, HI2.out, by go_num, hBF3.trans (hb.mono hBF3.size)⟩
                              case measure => have := HI2.out; simp [intOf]; omega
                        · obtain rfl : i2 = 9 := by omega
                          go_wp2
                          go_roundw
                          case rel => exact ⟨i1 + 1, HI1.out, by go_num, hBF2.trans (hb.mono hBF2.size)⟩
                          case measure => have := HI1.out; simp [intOf]; omega
                    · obtain rfl : i1 = 3 := by omega
                      go_wp2
                      go_roundw
                      case rel => exact ⟨z + 1, HZ.out, by go_num, hBF.trans (hb.mono hBF.size)⟩
                      case measure => have := HZ.out; simp [intOf]; omega
                · have d4 : decide ((z : Int) < 12) = false := by simp; omega
                  clear hlt hz
                  go_wp2_with (first
                    | (go_at_call 21; refine (reads_any none 0 0 [] _ (Sees.nil _ _ _ _ (Nat.zero_le _) fun _ => rfl) (by intro b hb; simp at hb)).mono ?_; rintro e w5 ⟨rfl, hb5⟩)
                    | (go_at_call 18; refine (lists_any none 0 0 [] _ (Sees.nil _ _ _ _ (Nat.zero_le _) fun _ => rfl) (by intro b hb; simp at hb)).mono ?_; rintro e w6 ⟨rfl, hb6⟩)
                    | (go_at_call 12; refine (awake_any _).mono ?_; rintro e w7 ⟨rfl, hb7⟩))
                  go_ret
                  exact ⟨rfl, below_step (below_step (below_step hb hb5) hb6) hb7⟩
end Go.Proofs.Ytckklmepncibkaa
