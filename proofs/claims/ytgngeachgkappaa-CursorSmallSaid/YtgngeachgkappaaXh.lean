/- Walks: CursorSmall. -/
import Derived.Test.YtgngeachgkappaaProg
import Derived.Test.YtgngeachgkappaaXg
import Derived.Deep.RegionLaw
namespace Go.Proofs.Ytgngeachgkappaa
open Go.RowKit Go.Shelf
set_option linter.unusedVariables false

/-- b[:k], the bound of 64 bits without sign. -/
theorem run_cutu {P : Program} {t e : TypeId} {z : Value} {s bytes : Nat} (E : Elem P t e z s bytes) (A : Option Addr) (n c k : Nat) (hk : k ≤ c) (w : World) :
    (Instr.slice t (.slice A n c) none (some (.int .u64 (k : Int))) none).run P w = .ok (.slice A k c) w := by
  obtain ⟨ht, hz, hs, i, hi, hz0, hz1, hz2⟩ := E
  have hb : (Instr.sliceBound (.int .u64 (k : Int)) c .sliceAcap).run P w = .ok k w := by
    have := run_sliceBound (P := P) (w := w) .u64 (k : Int) c .sliceAcap (by omega) (by omega)
    simpa using this
  simp [Instr.slice, run_underlying ht, Instr.sliceBounds, hb, sizeOf, typeInfo, hi, hz1]
  intro hc
  cases A <;> simp [Addr.add]
theorem sees_blockW {w : World} {g n c s : Nat} {cs : Array Value} {e : TypeId} {fz : Nat × Nat} {xs : List Value} (h : w.heap[g]? = some (.cells cs e fz)) (hx : xs.length = n * s) (hn : n ≤ c) (hc : c ≤ maxLen) (hp : xs <+: cs.toList) : Sees w s (some ⟨g, 0, none⟩) n c xs :=
  ⟨hx, hn, hc, fun h => by (cases h), fun k u hu => ⟨g, 0, rfl, by
    rw [Nat.zero_add, cell_of_row w g k cs e fz h]
    obtain ⟨r, hr⟩ := hp
    have : cs.toList[k]? = some u := by rw [← hr, List.getElem?_append_left (List.getElem?_eq_some_iff.1 hu).1]; exact hu
    simpa using this⟩⟩
theorem actOk_mk {w : World} {kd : Nat} {N M X : Int} {Y : Option Addr} {ny cy : Nat} (h1 : kd < 256) (h2 : -9223372036854775808 ≤ N ∧ N ≤ 9223372036854775807) (h3 : -9223372036854775808 ≤ M ∧ M ≤ 9223372036854775807) (h4 : 0 ≤ X ∧ X ≤ 18446744073709551615) (h5 : ∃ l, Sees w 1 Y ny cy (l.map (Value.int .u8)) ∧ Bytes l) : ActOk w (kd, N, M, X, Y, ny, cy) :=
  ⟨h1, h2.1, h2.2, h3.1, h3.2, h4.1, h4.2, h5⟩
theorem nilB (w : World) : ∃ l, Sees w 1 none 0 0 (l.map (Value.int .u8)) ∧ Bytes l := ⟨[], Sees.nil _ _ _ _ (by decide) (fun _ => rfl), fun x hx => by cases hx⟩

def nums9 : List Int := [-9223372036854775808, -1, 0, 1, 2, 7, 8, 9, 9223372036854775807]
def bytes10 : List Int := [0, 1, 128, 1, 255, 3, 127, 128, 128, 0]
def xs9 : List Int := [0, 1, 127, 128, 255, 256, 72057594037927936, 72057594037927935, 18446744073709551615]
def ms4 : List Int := [0, 1, 3, 9223372036854775807]
theorem nums9_ok : ∀ x ∈ nums9, -9223372036854775808 ≤ x ∧ x ≤ 9223372036854775807 := by intro x hx; simp [nums9] at hx; omega
theorem ms4_ok : ∀ x ∈ ms4, -9223372036854775808 ≤ x ∧ x ≤ 9223372036854775807 := by intro x hx; simp [ms4] at hx; omega
theorem xs9_ok : ∀ x ∈ xs9, 0 ≤ x ∧ x ≤ 18446744073709551615 := by intro x hx; simp [xs9] at hx; omega
theorem bytes10_ok : Bytes bytes10 := by intro x hx; simp [bytes10] at hx; omega
theorem all_at {l : List Int} {p : Int → Prop} (h : ∀ x ∈ l, p x) {k : Nat} (hk : k < l.length) : p (l.getD k 0) := h _ (by rw [List.getD, List.getElem?_eq_getElem hk]; exact List.getElem_mem _)

theorem u64_wrap_ok (x : Int) : 0 ≤ IntKind.u64.wrap x ∧ IntKind.u64.wrap x ≤ 18446744073709551615 := by
  rw [IntKind.wrap_u64]
  have h1 := Int.emod_nonneg x (show (18446744073709551616 : Int) ≠ 0 by decide)
  have h2 := Int.emod_lt_of_pos x (show (0 : Int) < 18446744073709551616 by decide)
  exact ⟨h1, by omega⟩

set_option maxRecDepth 20000 in
set_option maxHeartbeats 6400000 in
theorem CursorSmall_any (w : World) : Calls Try.prog 9 #[] w fun e w' => e = .returned (.bool true) ∧ Below w.heap.size w w' := by
  obtain ⟨gF, hgF⟩ : ∃ g, w.heap.size = g := ⟨_, rfl⟩
  obtain ⟨wF, hwF⟩ : ∃ wF, (w.alloc (.cells #[.int .i64 (-9223372036854775808), .int .i64 (-1), .int .i64 0, .int .i64 1, .int .i64 2, .int .i64 7, .int .i64 8, .int .i64 9, .int .i64 9223372036854775807] 3)).alloc (.cells #[.int .u8 0, .int .u8 1, .int .u8 128, .int .u8 1, .int .u8 255, .int .u8 3, .int .u8 127, .int .u8 128, .int .u8 128, .int .u8 0] 5) = wF := ⟨_, rfl⟩
  have hB : Sees wF 1 (some ⟨gF + 1, 0, none⟩) 10 10 (bytes10.map (Value.int .u8)) := by
    rw [← hwF, ← hgF]; exact sees_blockW (lit_new (by simp)) rfl (by decide) (by decide) ⟨[], rfl⟩
  have hN : Sees wF 1 (some ⟨gF, 0, none⟩) 9 9 (nums9.map (Value.int .i64)) := by
    rw [← hwF, ← hgF]; exact sees_blockW (lit_skip (lit_new rfl)) rfl (by decide) (by decide) ⟨[], rfl⟩
  have hBF : Below gF w wF := by rw [← hwF, ← hgF]; exact ((Below.refl _ _).alloc (Nat.le_refl _) _).alloc (by simp) _
  have HGF := Lib.hid hgF
  have HWF := Lib.hid hwF
  have HBF := Lib.hid hBF
  have HSF := Lib.hid (show gF ≤ wF.heap.size by rw [← hwF, ← hgF]; simp; omega)
  have hn9 := nums9_ok
  have hb10 := bytes10_ok
  have hl9 : nums9.length = 9 := rfl
  have hl10 : bytes10.length = 10 := rfl
  generalize nums9 = LN at hN hn9 hl9
  generalize bytes10 = LB at hB hb10 hl10
  have HN := Lib.hid (And.intro hN (And.intro hn9 hl9))
  have HB := Lib.hid (And.intro hB (And.intro hb10 hl10))
  clear hgF hwF hBF hN hB hn9 hb10 hl9 hl10
  go_enter Try.func9, Try.ntmps9
  go_wp2
  rw [HGF.out, HWF.out]
  go_loopw [21] (fun i wr => ∃ a : Nat, Hid (a ≤ 11) ∧ i = .int .i64 (a : Int) ∧ Below wF.heap.size wF wr) (fun i _ => 11 - (intOf i).toNat)
  case atStart => exact ⟨0, Lib.hid (Nat.zero_le _), rfl, Below.refl _ _⟩
  case round =>
    obtain ⟨a, HA, rfl, hb1⟩ := hrel
    by_cases ha : a < 11
    · have d1 : decide ((a : Int) < 11) = true := by simp; omega
      have ha2 : (a : Int) ≤ 10 := by omega
      have HA1 := Lib.hid ha
      clear ha
      go_wp2
      go_loopw [4] (fun i wr => ∃ t : Nat, Hid (a ≤ t ∧ t ≤ 11) ∧ i = .int .i64 (t : Int) ∧ Below wF.heap.size wF wr) (fun i _ => 11 - (intOf i).toNat)
      case atStart => exact ⟨a, Lib.hid ⟨Nat.le_refl _, HA.out⟩, rfl, hb1⟩
      case round =>
        obtain ⟨t, HT, rfl, hb2⟩ := hrel
        by_cases ht : t < 11
        · have d2 : decide ((t : Int) ≤ 10) = true := by simp; omega
          have ht2 : (t : Int) ≤ 10 := by omega
          have hat : (a : Int) ≤ (t : Int) := by have := HT.out; omega
          have HT1 := Lib.hid ht
          clear ht
          go_wp2
          go_loopw [31] (fun i wr => ∃ kd : Nat, Hid (kd ≤ 5) ∧ i = .int .u8 (kd : Int) ∧ Below wF.heap.size wF wr) (fun i _ => 5 - (intOf i).toNat)
          case atStart => exact ⟨0, Lib.hid (Nat.zero_le _), rfl, hb2⟩
          case round =>
            obtain ⟨kd, HK, rfl, hb3⟩ := hrel
            by_cases hk : kd < 5
            · have d3 : decide ((kd : Int) < 5) = true := by simp; omega
              have hk2 : (kd : Int) ≤ 4 := by omega
              have HK1 := Lib.hid hk
              clear hk
              go_wp2
              go_loopw [36] (fun i wr => ∃ j : Nat, Hid (j ≤ 9) ∧ i = .int .i64 (j : Int) ∧ Below wF.heap.size wF wr) (fun i _ => 9 - (intOf i).toNat)
              case atStart => exact ⟨0, Lib.hid (Nat.zero_le _), rfl, hb3⟩
              case round =>
                obtain ⟨j, HJ, rfl, hb4⟩ := hrel
                by_cases hj : j < 9
                · have d4 : decide ((j : Int) < 9) = true := by simp; omega
                  have hj2 : (j : Int) ≤ 8 := by omega
                  obtain ⟨b1, o1, hA1, s1⟩ := (HN.out.1.below hb4 (Nat.le_refl _)).int hj
                  cases hA1
                  rw [Nat.zero_add] at s1
                  have HX := Lib.hid (all_at HN.out.2.1 (k := j) (by rw [HN.out.2.2]; exact hj))
                  generalize LN.getD j 0 = x at s1 HX
                  have HJ1 := Lib.hid hj
                  clear hj
                  have hb5 := hb4.alloc hb4.size (.cells #[.int .i64 0, .int .i64 1, .int .i64 3, .int .i64 9223372036854775807] 3)
                  have hM := sees_blockW (xs := ms4.map (Value.int .i64)) (n := 4) (c := 4) (s := 1) (heap_alloc_new wr (.cells #[.int .i64 0, .int .i64 1, .int .i64 3, .int .i64 9223372036854775807] 3)) rfl (by decide) (by decide) ⟨[], rfl⟩
                  obtain ⟨gM, hgM⟩ : ∃ g, wr.heap.size = g := ⟨_, rfl⟩
                  obtain ⟨wM, hwM⟩ : ∃ wM, wr.alloc (.cells #[.int .i64 0, .int .i64 1, .int .i64 3, .int .i64 9223372036854775807] 3) = wM := ⟨_, rfl⟩
                  rw [hwM] at hb5 hM
                  rw [hgM] at hM
                  have hm4 := ms4_ok
                  have hl4 : ms4.length = 4 := rfl
                  generalize ms4 = LM at hM hm4 hl4
                  have HM := Lib.hid (And.intro hM (And.intro hm4 hl4))
                  have HGM := Lib.hid hgM
                  have HWM := Lib.hid hwM
                  have HB5 := Lib.hid hb5
                  clear hM hm4 hl4 hgM hwM hb5
                  go_wp2
                  rw [HGM.out, HWM.out]
                  go_loopw [42] (fun i wr => ∃ v : Nat, Hid (v ≤ 4) ∧ i = .int .i64 (v : Int) ∧ Below wM.heap.size wM wr) (fun i _ => 4 - (intOf i).toNat)
                  case atStart => exact ⟨0, Lib.hid (Nat.zero_le _), rfl, Below.refl _ _⟩
                  case round =>
                    obtain ⟨v, HV, rfl, hb6⟩ := hrel
                    by_cases hv : v < 4
                    · have d5 : decide ((v : Int) < 4) = true := by simp; omega
                      have hv2 : (v : Int) ≤ 3 := by omega
                      obtain ⟨b2, o2, hA2, s2⟩ := (HM.out.1.below hb6 (Nat.le_refl _)).int hv
                      cases hA2
                      rw [Nat.zero_add] at s2
                      have HY := Lib.hid (all_at HM.out.2.1 (k := v) (by rw [HM.out.2.2]; exact hv))
                      generalize LM.getD v 0 = y at s2 HY
                      have HV1 := Lib.hid hv
                      clear hv
                      have hcut := fun w => run_cutm E_u8 (some ⟨gF + 1, 0, none⟩) 10 10 a t rfl (by omega) (by omega) w
                      go_wp2_with fail
                      obtain ⟨X, hX⟩ : ∃ X, IntKind.u64.wrap x = X := ⟨_, rfl⟩
                      have hXb := u64_wrap_ok x
                      rw [hX] at hXb
                      have hB7 := (hb6.alloc hb6.size (.cells #[.int .u8 (kd : Int), .int .i64 x, .int .i64 y, .int .u64 X, .slice none 0 0] 64))
                      have HA5 : Hid (∀ (w' : World) (g : Nat) (fz : Nat × Nat), w'.heap[g]? = some (.cells #[.int .u8 (kd : Int), .int .i64 x, .int .i64 y, .int .u64 X, .slice none 0 0, .int .u8 0, .int .i64 0, .int .i64 0, .int .u64 0, .slice none 0 0, .int .u8 (kd : Int), .int .i64 x, .int .i64 y, .int .u64 X, .slice none 0 0, .int .u8 3, .int .i64 0, .int .i64 0, .int .u64 1000, .slice none 0 0, .int .u8 (kd : Int), .int .i64 x, .int .i64 y, .int .u64 X, .slice none 0 0] 64 fz) → SeesAct w' (some ⟨g, 0, none⟩) 5 5 [(kd, x, y, X, none, 0, 0), (0, 0, 0, 0, none, 0, 0), (kd, x, y, X, none, 0, 0), (3, 0, 0, 1000, none, 0, 0), (kd, x, y, X, none, 0, 0)]) := Lib.hid (fun w' g fz h => ⟨sees_blockW h rfl (by decide) (by decide) ⟨[], rfl⟩, fun z hz => by
                        have o1 : ActOk w' (kd, x, y, X, none, 0, 0) := actOk_mk (by omega) HX.out HY.out hXb (nilB _)
                        have o2 : ActOk w' (0, 0, 0, 0, none, 0, 0) := actOk_mk (by decide) (by decide) (by decide) (by decide) (nilB _)
                        have o3 : ActOk w' (3, 0, 0, 1000, none, 0, 0) := actOk_mk (by decide) (by decide) (by decide) (by decide) (nilB _)
                        simp at hz
                        rcases hz with rfl | rfl | rfl | rfl | rfl <;> assumption⟩)
                      have HSB : Hid (∀ w', Below wr.heap.size wr w' → Sees w' 1 (cutA (some ⟨gF + 1, 0, none⟩) 10 a 1) (t - a) (10 - a) (((LB.drop a).take (t - a)).map (Value.int .u8))) := Lib.hid (fun w' hw' => by
                        have h1 := ((((HB.out.1.below HB5.out (Nat.le_refl _)).below hb6 (Nat.le_refl _)).below hw' (Nat.le_refl _)).cut (k := a) (by omega)).pre (k := t - a) (by omega)
                        rwa [Nat.mul_one, Nat.mul_one, ← List.map_drop, ← List.map_take] at h1)
                      have HBY : Hid (Bytes ((LB.drop a).take (t - a))) := Lib.hid (fun q hq => HB.out.2.1 q (List.mem_of_mem_drop (List.mem_of_mem_take hq)))
                      have HB7 := Lib.hid hB7
                      have HZ6 := Lib.hid hb6.size
                      have HBU := Lib.hid ((Below.refl wr.heap.size wr).alloc (Nat.le_refl _) (.cells #[.int .u8 (kd : Int), .int .i64 x, .int .i64 y, .int .u64 X, .slice none 0 0] 64))
                      clear hB7 hXb
                      go_region_law (refine step_wpX rfl ?_; go_simp; go_at_call 31; refine (reads_any _ _ _ _ _ _ _ _ _ (by exact HSB.out _ (by first | exact (HBU.out.alloc (by simp) _).drew | exact HBU.out.drew.alloc (by simp) _)) HBY.out (by exact HA5.out _ _ _ (lit_new (by simp)))).mono ?_; rintro e w7 ⟨rfl, b7⟩; have B8 : Below wM.heap.size wM w7 := (by first | exact ((HB7.out.alloc (by have := HZ6.out; simp; omega) _).drew).trans (b7.mono (by have := HZ6.out; simp; omega)) | exact (HB7.out.drew.alloc (by have := HZ6.out; simp; omega) _).trans (b7.mono (by have := HZ6.out; simp; omega))); dsimp only)
                      all_goals simp only [Act.put, List.getElem_toArray, List.getElem_cons_succ, List.getElem_cons_zero, List.setIfInBounds_toArray, List.set_cons_succ, List.set_cons_zero]
                      all_goals go_wp2
                      all_goals go_roundw
                      all_goals first
                        | exact ⟨v + 1, Lib.hid HV1.out, by go_num, B8⟩
                        | (have := HV1.out; simp [intOf]; omega)
                    · have d5 : decide ((v : Int) < 4) = false := by simp; omega
                      clear hv
                      go_wp2
                      go_roundw
                      case rel => exact ⟨j + 1, Lib.hid HJ1.out, by go_num, HB5.out.trans (hb6.mono HB5.out.size)⟩
                      case measure => have := HJ1.out; simp [intOf]; omega
                · have d4 : decide ((j : Int) < 9) = false := by simp; omega
                  clear hj
                  go_wp2
                  go_roundw
                  case rel => exact ⟨kd + 1, Lib.hid HK1.out, by go_num, hb4⟩
                  case measure => have := HK1.out; simp [intOf]; omega
            · have d3 : decide ((kd : Int) < 5) = false := by simp; omega
              clear hk
              go_wp2
              go_roundw
              case rel => exact ⟨t + 1, Lib.hid ⟨by have := HT.out; omega, HT1.out⟩, by go_num, hb3⟩
              case measure => have := HT1.out; simp [intOf]; omega
        · have d2 : decide ((t : Int) ≤ 10) = false := by simp; omega
          clear ht
          go_wp2
          go_roundw
          case rel => exact ⟨a + 1, Lib.hid HA1.out, by go_num, hb2⟩
          case measure => have := HA1.out; simp [intOf]; omega
    · have d1 : decide ((a : Int) < 11) = false := by simp; omega
      clear ha
      go_wp2
      go_loopw [11] (fun i wr => ∃ c : Int, Hid (-1 ≤ c ∧ c ≤ 12) ∧ i = .int .i64 c ∧ Below wF.heap.size wF wr) (fun i _ => (12 - intOf i).toNat)
      case atStart => exact ⟨-1, Lib.hid (by decide), rfl, hb1⟩
      case round =>
        obtain ⟨c, HC, rfl, hb2⟩ := hrel
        by_cases hc : c < 12
        · have d2 : decide (c < 12) = true := by simpa using hc
          have hc2 : c ≤ 11 := by omega
          have hc3 : -1 ≤ c := HC.out.1
          have HC1 := Lib.hid hc
          clear hc
          go_wp2
          go_loopw [74] (fun i wr => ∃ j : Nat, Hid (j ≤ 9) ∧ i = .int .i64 (j : Int) ∧ Below wF.heap.size wF wr) (fun i _ => 9 - (intOf i).toNat)
          case atStart => exact ⟨0, Lib.hid (Nat.zero_le _), rfl, hb2⟩
          case round =>
            obtain ⟨j, HJ, rfl, hb4⟩ := hrel
            by_cases hj : j < 9
            · have d4 : decide ((j : Int) < 9) = true := by simp; omega
              have hj2 : (j : Int) ≤ 8 := by omega
              obtain ⟨b1, o1, hA1, s1⟩ := (HN.out.1.below hb4 (Nat.le_refl _)).int hj
              cases hA1
              rw [Nat.zero_add] at s1
              have HX := Lib.hid (all_at HN.out.2.1 (k := j) (by rw [HN.out.2.2]; exact hj))
              generalize LN.getD j 0 = n at s1 HX
              have HJ1 := Lib.hid hj
              clear hj
              have hb5 := hb4.alloc hb4.size (.cells #[.int .u64 0, .int .u64 1, .int .u64 127, .int .u64 128, .int .u64 255, .int .u64 256, .int .u64 72057594037927936, .int .u64 72057594037927935, .int .u64 18446744073709551615] 30)
              have hM := sees_blockW (xs := xs9.map (Value.int .u64)) (n := 9) (c := 9) (s := 1) (heap_alloc_new wr (.cells #[.int .u64 0, .int .u64 1, .int .u64 127, .int .u64 128, .int .u64 255, .int .u64 256, .int .u64 72057594037927936, .int .u64 72057594037927935, .int .u64 18446744073709551615] 30)) rfl (by decide) (by decide) ⟨[], rfl⟩
              obtain ⟨gM, hgM⟩ : ∃ g, wr.heap.size = g := ⟨_, rfl⟩
              obtain ⟨wM, hwM⟩ : ∃ wM, wr.alloc (.cells #[.int .u64 0, .int .u64 1, .int .u64 127, .int .u64 128, .int .u64 255, .int .u64 256, .int .u64 72057594037927936, .int .u64 72057594037927935, .int .u64 18446744073709551615] 30) = wM := ⟨_, rfl⟩
              rw [hwM] at hb5 hM
              rw [hgM] at hM
              have hm4 := xs9_ok
              have hl4 : xs9.length = 9 := rfl
              generalize xs9 = LM at hM hm4 hl4
              have HM := Lib.hid (And.intro hM (And.intro hm4 hl4))
              have HGM := Lib.hid hgM
              have HWM := Lib.hid hwM
              have HB5 := Lib.hid hb5
              clear hM hm4 hl4 hgM hwM hb5
              go_wp2
              rw [HGM.out, HWM.out]
              go_loopw [80] (fun i wr => ∃ v : Nat, Hid (v ≤ 9) ∧ i = .int .i64 (v : Int) ∧ Below wM.heap.size wM wr) (fun i _ => 9 - (intOf i).toNat)
              case atStart => exact ⟨0, Lib.hid (Nat.zero_le _), rfl, Below.refl _ _⟩
              case round =>
                obtain ⟨v, HV, rfl, hb6⟩ := hrel
                by_cases hv : v < 9
                · have d5 : decide ((v : Int) < 9) = true := by simp; omega
                  have hv2 : (v : Int) ≤ 8 := by omega
                  obtain ⟨b2, o2, hA2, s2⟩ := (HM.out.1.below hb6 (Nat.le_refl _)).int hv
                  cases hA2
                  rw [Nat.zero_add] at s2
                  have hY := all_at HM.out.2.1 (k := v) (by rw [HM.out.2.2]; exact hv)
                  generalize LM.getD v 0 = x at s2 hY
                  have HV1 := Lib.hid hv
                  clear hv
                  obtain ⟨q, hq, hq8⟩ : ∃ q : Nat, x % 8 = (q : Int) ∧ q < 8 := ⟨(x % 8).toNat, by omega, by omega⟩
                  have hqt : x.tmod 8 = (q : Int) := by rw [Int.tmod_eq_emod_of_nonneg hY.1]; exact hq
                  have HY := Lib.hid hY
                  have hx0 : 0 ≤ x := hY.1
                  have hcut := fun w => run_cutu E_u8 (some ⟨gF + 1, 0, none⟩) 10 10 q (by omega) w
                  have HSB : Hid (∀ w', Below wr.heap.size wr w' → Sees w' 1 (some ⟨gF + 1, 0, none⟩) q 10 ((LB.take q).map (Value.int .u8))) := Lib.hid (fun w' hw' => by
                    have h1 := (((HB.out.1.below HB5.out (Nat.le_refl _)).below hb6 (Nat.le_refl _)).below hw' (Nat.le_refl _)).pre (k := q) (by omega)
                    rwa [Nat.mul_one, ← List.map_take] at h1)
                  have HBY : Hid (Bytes (LB.take q)) := Lib.hid (fun u hu => HB.out.2.1 u (List.mem_of_mem_take hu))
                  have HA5 : Hid (∀ (w' : World) (g : Nat) (fz : Nat × Nat), Below wr.heap.size wr w' → w'.heap[g]? = some (.cells #[.int .u8 2, .int .i64 n, .int .i64 0, .int .u64 x, .slice none 0 0, .int .u8 3, .int .i64 0, .int .i64 0, .int .u64 x, .slice none 0 0, .int .u8 0, .int .i64 0, .int .i64 0, .int .u64 x, .slice none 0 0, .int .u8 1, .int .i64 0, .int .i64 0, .int .u64 0, .slice (some ⟨gF + 1, 0, none⟩) q 10, .int .u8 2, .int .i64 1, .int .i64 0, .int .u64 x, .slice none 0 0] 64 fz) → SeesAct w' (some ⟨g, 0, none⟩) 5 5 [(2, n, 0, x, none, 0, 0), (3, 0, 0, x, none, 0, 0), (0, 0, 0, x, none, 0, 0), (1, 0, 0, 0, some ⟨gF + 1, 0, none⟩, q, 10), (2, 1, 0, x, none, 0, 0)]) := Lib.hid (fun w' g fz hbw h => ⟨sees_blockW h rfl (by decide) (by decide) ⟨[], rfl⟩, fun z hz => by
                    have o1 : ActOk w' (2, n, 0, x, none, 0, 0) := actOk_mk (by decide) HX.out (by decide) HY.out (nilB _)
                    have o2 : ActOk w' (3, 0, 0, x, none, 0, 0) := actOk_mk (by decide) (by decide) (by decide) HY.out (nilB _)
                    have o3 : ActOk w' (0, 0, 0, x, none, 0, 0) := actOk_mk (by decide) (by decide) (by decide) HY.out (nilB _)
                    have o4 : ActOk w' (1, 0, 0, 0, some ⟨gF + 1, 0, none⟩, q, 10) := actOk_mk (by decide) (by decide) (by decide) (by decide) ⟨_, HSB.out w' hbw, HBY.out⟩
                    have o5 : ActOk w' (2, 1, 0, x, none, 0, 0) := actOk_mk (by decide) (by decide) (by decide) HY.out (nilB _)
                    simp at hz
                    rcases hz with rfl | rfl | rfl | rfl | rfl <;> assumption⟩)
                  have HB6 := Lib.hid hb6
                  clear hY hb6 hq8
                  go_wp2_with (go_at_call 21; refine (writes_any c _ _ _ _ _ (by exact HA5.out _ _ _ ((Below.refl _ _).alloc (Nat.le_refl _) _) (heap_alloc_new _ _))).mono ?_; rintro e w7 ⟨rfl, b7⟩; have B8 := below_step (HB6.out.alloc HB6.out.size _) b7)
                  go_roundw
                  case rel => exact ⟨v + 1, Lib.hid HV1.out, by go_num, B8⟩
                  case measure => have := HV1.out; simp [intOf]; omega
                · have d5 : decide ((v : Int) < 9) = false := by simp; omega
                  clear hv
                  go_wp2
                  go_roundw
                  case rel => exact ⟨j + 1, Lib.hid HJ1.out, by go_num, HB5.out.trans (hb6.mono HB5.out.size)⟩
                  case measure => have := HJ1.out; simp [intOf]; omega
            · have d4 : decide ((j : Int) < 9) = false := by simp; omega
              clear hj
              go_wp2
              go_roundw
              case rel => exact ⟨c + 1, Lib.hid (by have := HC.out; have := HC1.out; omega), by go_num, hb4⟩
              case measure => have := HC1.out; simp [intOf]; omega
        · have d2 : decide (c < 12) = false := by simpa using hc
          clear hc
          have HBR : Hid (Below gF w wr) := Lib.hid (HBF.out.trans (hb2.mono HSF.out))
          have HGR : Hid (gF ≤ wr.heap.size) := Lib.hid (by have := hb2.size; have := HSF.out; omega)
          have HNA : ∀ w', SeesAct w' none 0 0 [] := fun w' => ⟨Sees.nil _ _ _ _ (by decide) (fun _ => rfl), fun z hz => by cases hz⟩
          have HNA := Lib.hid HNA
          clear hb2
          go_wp2_with (first
            | (go_at_call 11; have _q := K5; refine (awake_any _).mono ?_; rintro e w6 ⟨rfl, k6⟩; have K6 := Lib.hid (below_step K5.out k6); clear k6)
            | (go_at_call 33; have _q := K4; refine (nobody_any _).mono ?_; rintro e w5 ⟨rfl, k5⟩; have K5 := Lib.hid (below_step K4.out k5); clear k5)
            | (go_at_call 21; have _q := K3; refine (writes_any _ _ _ _ [] _ (HNA.out _)).mono ?_; rintro e w4 ⟨rfl, k4⟩; have K4 := Lib.hid (below_step K3.out k4); clear k4)
            | (go_at_call 21; have _q := K2; refine (writes_any _ _ _ _ [] _ (HNA.out _)).mono ?_; rintro e w3 ⟨rfl, k3⟩; have K3 := Lib.hid (below_step K2.out k3); clear k3)
            | (go_at_call 21; have _q := K1; refine (writes_any _ _ _ _ [] _ (HNA.out _)).mono ?_; rintro e w2 ⟨rfl, k2⟩; have K2 := Lib.hid (below_step K1.out k2); clear k2)
            | (go_at_call 21; refine (writes_any _ _ _ _ [] _ (HNA.out _)).mono ?_; rintro e w1 ⟨rfl, k1⟩; have K1 := Lib.hid k1; clear k1))
          go_ret
          exact ⟨rfl, by rw [HGF.out]; exact HBR.out.trans (K6.out.mono HGR.out)⟩
end Go.Proofs.Ytgngeachgkappaa
