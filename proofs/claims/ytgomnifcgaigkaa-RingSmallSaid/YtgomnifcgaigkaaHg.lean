/- Walks: RingSmall. -/
import Derived.Test.YtgomnifcgaigkaaProg
import Derived.Test.YtgomnifcgaigkaaHc
import Derived.Test.YtgomnifcgaigkaaHf
namespace Go.Proofs.Ytgomnifcgaigkaa
open Go.RowKit Go.Shelf
set_option linter.unusedVariables false

def small8 : List Int := [-9223372036854775808, -1, 0, 1, 65535, 65536, 65537, 9223372036854775807]
def kinds5 : List (Int × Int) := [(0, 5), (0, 6), (5, 2), (5, 3), (7, 0)]
def GoodA (zs : List (Int × Int)) : Prop := ∀ z ∈ zs, 0 ≤ z.1 ∧ z.1 < 256
theorem GoodA.nil : GoodA [] := fun z h => by cases h
theorem GoodA.app {zs : List (Int × Int)} {x : Int × Int} (h : GoodA zs) (hx : 0 ≤ x.1 ∧ x.1 < 256) : GoodA (zs ++ [x]) := fun z hz => by
  rcases List.mem_append.1 hz with hz | hz
  · exact h z hz
  · rw [List.mem_singleton.1 hz]; exact hx
theorem GoodA.get {zs : List (Int × Int)} {x : Int × Int} {k : Nat} (h : GoodA zs) (hx : zs[k]? = some x) : 0 ≤ x.1 ∧ x.1 < 256 := h _ (List.mem_of_getElem? hx)
theorem good_kinds : GoodA kinds5 := by intro z hz; simp [kinds5] at hz; rcases hz with rfl | rfl | rfl | rfl | rfl <;> simp
theorem ceA1 (x : Int × Int) : ∀ u ∈ [x].flatMap ceA, u.oneCell' = true := by intro u hu; simp [ceA] at hu; rcases hu with rfl | rfl <;> rfl
theorem sees_acts {w : World} {g n : Nat} {st : List (Int × Int)} {e : TypeId} {fz : Nat × Nat} (h : w.heap[g]? = some (.cells (st.flatMap ceA).toArray e fz)) (hn : st.length = n) (hc : n ≤ maxLen) : Sees w 2 (some ⟨g, 0, none⟩) n n (st.flatMap ceA) :=
  ⟨by rw [ceA_len, hn], Nat.le_refl _, hc, (fun h => by cases h), fun k u hu => ⟨g, 0, rfl, by simp [World.cell?, h, hu]⟩⟩

set_option maxRecDepth 20000 in
set_option maxHeartbeats 1600000 in
theorem RingSmall_any (w : World) : Calls Try.prog 10 #[] w fun e w' => e = .returned (.bool true) ∧ Below w.heap.size w w' := by
  obtain ⟨gF, hgF⟩ : ∃ g, w.heap.size = g := ⟨_, rfl⟩
  obtain ⟨wF, hwF⟩ : ∃ wF, w.alloc (.cells #[.int .i64 (-9223372036854775808), .int .i64 (-1), .int .i64 0, .int .i64 1, .int .i64 65535, .int .i64 65536, .int .i64 65537, .int .i64 9223372036854775807] 3) = wF := ⟨_, rfl⟩
  have hF : Sees wF 1 (some ⟨gF, 0, none⟩) 8 8 (small8.map (Value.int .i64)) := by
    rw [← hwF, ← hgF]; exact sees_block (heap_alloc_new _ _) rfl (by decide) (by decide) ⟨[], rfl⟩
  have hBF : Below gF w wF := by rw [← hwF, ← hgF]; exact (Below.refl _ _).alloc (Nat.le_refl _) _
  have HGF := Lib.hid hgF
  have HWF := Lib.hid hwF
  have HBF := Lib.hid hBF
  have HSF := Lib.hid (show gF ≤ wF.heap.size by rw [← hwF, ← hgF]; simp)
  clear hgF hwF hBF
  generalize small8 = L at hF
  have HFF := Lib.hid hF
  clear hF
  go_enter Try.func10, Try.ntmps10
  go_wp2
  rw [HGF.out, HWF.out]
  go_loopw [15] (fun i wr => ∃ i1 : Nat, Hid (i1 ≤ 8) ∧ i = .int .i64 (i1 : Int) ∧ Below wF.heap.size wF wr) (fun i _ => 8 - (intOf i).toNat)
  case atStart => exact ⟨0, Lib.hid (by omega), rfl, Below.refl _ _⟩
  case round =>
    obtain ⟨i1, HI, rfl, hb⟩ := hrel
    by_cases hlt : i1 < 8
    · obtain ⟨b1, o1, hA1, g1⟩ := (HFF.out.below hb (Nat.le_refl _)).int hlt
      cases hA1
      rw [Nat.zero_add] at g1
      generalize L.getD i1 0 = a at g1
      have HI1 := Lib.hid hlt
      have d1 : decide ((i1 : Int) < 8) = true := by simp; omega
      have hi1 : (i1 : Int) ≤ 7 := by omega
      clear hlt
      go_wp2_with (go_at_call 27; refine (tells_any a _ 2 2 [(0, 1), (7, 0)] _ (by exact sees_acts (heap_alloc_new _ _) rfl (by decide)) (by intro z hz; simp at hz; rcases hz with rfl | rfl <;> simp)).mono ?_; rintro e w4 ⟨rfl, b4⟩)
      go_roundw
      case rel => exact ⟨i1 + 1, Lib.hid HI1.out, by go_num, below_step (hb.alloc hb.size _) b4⟩
      case measure => have := HI1.out; simp [intOf]; omega
    · have d1 : decide ((i1 : Int) < 8) = false := by simp; omega
      clear hlt
      have hb0 := HBF.out.trans (hb.mono HSF.out)
      obtain ⟨gK, hgK⟩ : ∃ g, wr.heap.size = g := ⟨_, rfl⟩
      obtain ⟨wK, hwK⟩ : ∃ wK, wr.alloc (.cells #[.int .u8 0, .int .i64 5, .int .u8 0, .int .i64 6, .int .u8 5, .int .i64 2, .int .u8 5, .int .i64 3, .int .u8 7, .int .i64 0] 60) = wK := ⟨_, rfl⟩
      have hK : Sees wK 2 (some ⟨gK, 0, none⟩) 5 5 (kinds5.flatMap ceA) := by
        rw [← hwK, ← hgK]; exact sees_acts (heap_alloc_new _ _) rfl (by decide)
      have hBK : Below gF w wK := by rw [← hwK]; exact hb0.alloc (Nat.le_trans HSF.out hb.size) _
      have hl5 : kinds5.length = 5 := rfl
      have hgd := good_kinds
      have HGK := Lib.hid hgK
      have HWK := Lib.hid hwK
      generalize kinds5 = KL at hK hl5 hgd
      have HK := Lib.hid (And.intro hK (And.intro hl5 hgd))
      have HBK := Lib.hid hBK
      have HSK := Lib.hid (show gF ≤ wK.heap.size by rw [← HWK.out]; have := hb.size; have := HSF.out; simp; omega)
      clear hK hl5 hgd hBK hgK hwK hb0 hb
      go_wp2
      rw [HGK.out, HWK.out]
      go_loopw [4] (fun cv w2 => ∃ c : Nat, Hid (1 ≤ c ∧ c ≤ 4) ∧ cv = .int .i64 (c : Int) ∧ Below wK.heap.size wK w2) (fun cv _ => 4 - (intOf cv).toNat)
      case atStart => exact ⟨1, Lib.hid (by omega), rfl, Below.refl _ _⟩
      case round =>
        obtain ⟨c, HC, rfl, hb2⟩ := hrel
        by_cases hc : c < 4
        · have d1 : decide ((c : Int) ≤ 3) = true := by simp; omega
          have hc3 : (c : Int) ≤ 3 := by omega
          have HC1 := Lib.hid hc
          clear hc
          go_wp2
          go_loopw [36] (fun iv w3 => ∃ y : Nat, Hid (y ≤ 15625) ∧ iv = .int .i64 (y : Int) ∧ Below wK.heap.size wK w3) (fun iv _ => 15625 - (intOf iv).toNat)
          case atStart => exact ⟨0, Lib.hid (Nat.zero_le _), rfl, hb2⟩
          case round =>
            obtain ⟨y, HY, rfl, hb3⟩ := hrel
            by_cases hy : y < 15625
            · have d2 : decide ((y : Int) < 15625) = true := by simp; omega
              have hy2 : (y : Int) ≤ 15624 := by omega
              have HY1 := Lib.hid hy
              clear hy
              go_wp2
              go_loopw [6, 7, 8] (fun lv iv kv w4 => ∃ (n q c2 : Nat) (A : Option Addr) (L : List (Int × Int)), Hid (n ≤ 6 ∧ GoodA L) ∧ lv = .slice A n c2 ∧ iv = .int .i64 (n : Int) ∧ kv = .int .i64 (q : Int) ∧ Hid (q ≤ 15625) ∧ Hid (w4.ownsRow wr.heap.size 60 2 (.slice A n c2) n (L.flatMap ceA)) ∧ Below wr.heap.size wr w4) (fun _ iv _ _ => 6 - (intOf iv).toNat)
              case atStart => exact ⟨0, y, 0, none, [], Lib.hid ⟨by omega, GoodA.nil⟩, rfl, rfl, rfl, Lib.hid HY.out, Lib.hid (World.ownsRow_nil _ _ _ _), Below.refl _ _⟩
              case round =>
                obtain ⟨n, q, c2, A, L, HN, rfl, rfl, rfl, HQ, HO, hb4⟩ := hrel
                by_cases hn : n < 6
                · have d3 : decide ((n : Int) < 6) = true := by simp; omega
                  have hn2 : (n : Int) ≤ 5 := by omega
                  have HN1 := Lib.hid hn
                  obtain ⟨r, hr, hr5⟩ : ∃ r : Nat, (q : Int) % 5 = (r : Int) ∧ r < 5 := ⟨q % 5, by omega, Nat.mod_lt _ (by decide)⟩
                  have hq0 : (0 : Int) ≤ (q : Int) := by omega
                  have hq1 : (q : Int) ≤ 15625 := by have := HQ.out; omega
                  have hrt : (q : Int).tmod 5 = (r : Int) := by rw [Int.tmod_eq_emod_of_nonneg hq0]; exact hr
                  obtain ⟨x, hx⟩ : ∃ x, KL[r]? = some x := ⟨_, List.getElem?_eq_getElem (by have := HK.out.2.1; omega)⟩
                  have HX := Lib.hid (HK.out.2.2.get hx)
                  obtain ⟨b5, o5, hA5, s0, s1⟩ := ((HK.out.1.below hb3 (Nat.le_refl _)).below hb4 (Nat.le_refl _)).act hx
                  cases hA5
                  rw [Nat.zero_add] at s0 s1
                  have hr5' : (r : Int) ≤ 4 := by omega
                  obtain ⟨x1, x2⟩ := x
                  simp only [] at s0 s1 HX
                  clear hn hx hr5
                  go_wp2_with (at_builtin; refine wpList_app E_act rfl _ _ rfl rfl (HO.out.alloc _) rfl (sees_blockS (n := 1) (c := 1) (xs := [(x1, x2)].flatMap ceA) (heap_alloc_new _ _) rfl (by decide) (by decide) ⟨[], rfl⟩) (ceA1 (x1, x2)) (by have := HN.out; simp [maxLen]; omega) (by have := HN.out; omega) (by have := hb4.size; simp; omega) ?_; intro A6 c6 w6 hown6 hgrow6 hb6)
                  go_roundw
                  case rel => exact ⟨n + 1, q / 5, c6, A6, L ++ [(x1, x2)], Lib.hid ⟨HN1.out, HN.out.2.app HX.out⟩, rfl, by go_num, by congr 1 <;> omega, Lib.hid (by have := HQ.out; omega), Lib.hid (by rw [List.flatMap_append]; exact hown6), (hb4.alloc hb4.size _).trans hb6⟩
                  case measure => have := HN1.out; simp [intOf]; omega
                · have d3 : decide ((n : Int) < 6) = false := by simp; omega
                  clear hn
                  go_wp2_with (go_at_call 27; refine (tells_any _ _ _ _ L _ (sees_own HO.out) HN.out.2).mono ?_; rintro e w5 ⟨rfl, b5⟩)
                  go_roundw
                  case rel => exact ⟨y + 1, Lib.hid HY1.out, by go_num, hb3.trans ((below_step hb4 b5).mono hb3.size)⟩
                  case measure => have := HY1.out; simp [intOf]; omega
            · have d2 : decide ((y : Int) < 15625) = false := by simp; omega
              clear hy
              go_wp2
              go_roundw
              case rel => exact ⟨c + 1, Lib.hid (by have := HC.out; have := HC1.out; omega), by go_num, hb3⟩
              case measure => have := HC1.out; simp [intOf]; omega
        · have d1 : decide ((c : Int) ≤ 3) = false := by simp; omega
          clear hc
          have hw2 := HBK.out.trans (hb2.mono HSK.out)
          clear hb2
          go_wp2
          go_loopw [9] (fun cv w2 => ∃ c : Nat, Hid (1 ≤ c ∧ c ≤ 12) ∧ cv = .int .i64 (c : Int) ∧ Below gF w w2 ∧ gF ≤ w2.heap.size) (fun cv _ => 12 - (intOf cv).toNat)
          case atStart => exact ⟨1, Lib.hid (by omega), rfl, hw2, by have := hw2.size; rw [← HGF.out] at *; omega⟩
          case round =>
            obtain ⟨c, HC, rfl, hb2, hz2⟩ := hrel
            by_cases hc : c < 12
            · have d1 : decide ((c : Int) < 12) = true := by simp; omega
              have hc3 : (c : Int) ≤ 11 := by omega
              have hc4 : (1 : Int) ≤ (c : Int) := by have := HC.out; omega
              have HC1 := Lib.hid hc
              clear hc
              obtain ⟨h2, hh2⟩ : ∃ h2 : Int, ((c : Int) + 1) / 2 = h2 := ⟨_, rfl⟩
              go_wp2
              go_loopw [63, 10] (fun iv lv w3 => ∃ (n c2 : Nat) (A : Option Addr) (L : List (Int × Int)), Hid (n ≤ 140 ∧ GoodA L) ∧ lv = .slice A n c2 ∧ iv = .int .i64 (n : Int) ∧ Hid (w3.ownsRow wr.heap.size 60 2 (.slice A n c2) n (L.flatMap ceA)) ∧ Below wr.heap.size wr w3) (fun iv _ _ => 140 - (intOf iv).toNat)
              case atStart => exact ⟨0, 0, none, [], Lib.hid ⟨by omega, GoodA.nil⟩, rfl, rfl, Lib.hid (World.ownsRow_nil _ _ _ _), Below.refl _ _⟩
              case round =>
                obtain ⟨n, c2, A, L, HN, rfl, rfl, HO, hb4⟩ := hrel
                by_cases hn : n < 140
                · have d3 : decide ((n : Int) < 140) = true := by simp; omega
                  have hn2 : (n : Int) ≤ 139 := by omega
                  have hn0 : (0 : Int) ≤ (n : Int) := by omega
                  have HN1 := Lib.hid hn
                  obtain ⟨r, hr⟩ : ∃ r : Int, (n : Int) % ((c : Int) + 2) = r := ⟨_, rfl⟩
                  have z1 : ¬ ((c : Int) + 2 = 0) := by omega
                  clear hn
                  have hB7 := (hb4.alloc hb4.size (.cells #[.int .u8 0, .int .i64 (n : Int)] 60))
                  by_cases hrc : r = (c : Int)
                  · have d4 : (r == (c : Int)) = true := by simpa using hrc
                    clear hrc
                    go_wp2_with (at_builtin; refine wpList_app E_act rfl _ _ rfl rfl ((HO.out.alloc _).alloc _) rfl (sees_blockS (n := 1) (c := 1) (xs := [((6 : Int), h2)].flatMap ceA) (by exact lit_new (by simp)) rfl (by decide) (by decide) ⟨[], rfl⟩) (ceA1 (6, h2)) (by have := HN.out; simp [maxLen]; omega) (by have := HN.out; omega) (by have := hb4.size; simp; omega) ?_; intro A6 c6 w6 hown6 hgrow6 hb6)
                    go_roundw
                    case rel => exact ⟨n + 1, c6, A6, L ++ [((6 : Int), h2)], Lib.hid ⟨HN1.out, HN.out.2.app (by simp)⟩, rfl, by go_num, Lib.hid (by rw [List.flatMap_append]; exact hown6), ((hb4.alloc hb4.size _).alloc (by have := hb4.size; simp; omega) _).trans hb6⟩
                    case measure => have := HN1.out; simp [intOf]; omega
                  · have d4 : (r == (c : Int)) = false := by simpa using hrc
                    clear hrc
                    go_wp2_with (at_builtin; refine wpList_app E_act rfl _ _ rfl rfl ((HO.out.alloc _).alloc _) rfl (sees_blockS (n := 1) (c := 1) (xs := [((0 : Int), (n : Int))].flatMap ceA) (by exact lit_new (by simp)) rfl (by decide) (by decide) ⟨[], rfl⟩) (ceA1 (0, (n : Int))) (by have := HN.out; simp [maxLen]; omega) (by have := HN.out; omega) (by have := hb4.size; simp; omega) ?_; intro A6 c6 w6 hown6 hgrow6 hb6)
                    go_roundw
                    case rel => exact ⟨n + 1, c6, A6, L ++ [((0 : Int), (n : Int))], Lib.hid ⟨HN1.out, HN.out.2.app (by simp)⟩, rfl, by go_num, Lib.hid (by rw [List.flatMap_append]; exact hown6), (hB7.alloc (by have := hb4.size; simp; omega) _).trans hb6⟩
                    case measure => have := HN1.out; simp [intOf]; omega
                · have d3 : decide ((n : Int) < 140) = false := by simp; omega
                  clear hn
                  go_wp2_with (go_at_call 27; refine (tells_any _ _ _ _ L _ (sees_own HO.out) HN.out.2).mono ?_; rintro e w5 ⟨rfl, b5⟩)
                  go_roundw
                  case rel => exact ⟨c + 1, Lib.hid (by have := HC1.out; omega), by go_num, hb2.trans ((below_step hb4 b5).mono hz2), by have := (below_step hb4 b5).size; omega⟩
                  case measure => have := HC1.out; simp [intOf]; omega
            · have d1 : decide ((c : Int) < 12) = false := by simp; omega
              clear hc
              have HZ2 := Lib.hid hz2
              have HB2 := Lib.hid hb2
              go_wp2_with (first
                | (go_at_call 11; have _q := N1; refine (awake_any _).mono ?_; rintro e w9 ⟨rfl, b9⟩)
                | (go_at_call 28; refine (none_any _).mono ?_; rintro e w8 ⟨rfl, b8⟩; have N1 := Lib.hid b8))
              go_ret
              exact ⟨rfl, by rw [HGF.out]; exact HB2.out.trans ((below_step N1.out b9).mono HZ2.out)⟩
end Go.Proofs.Ytgomnifcgaigkaa
