/- Walks: the reference's Put, PutFixed; a writer's calls in one contract each. -/
import Derived.Test.YtgngeachgkappaaProg
import Derived.Test.YtgngeachgkappaaWj
import Derived.Test.YtgngeachgkappaaWt
import Derived.Deep.RegionLaw
namespace Go.Proofs.Ytgngeachgkappaa
open Go.RowKit
set_option linter.unusedVariables false

/-- What writing bytes does: the bytes after it, the error. -/
def putF (bs : List Int) (lim : Nat) (xs : List Int) : List Int × Int := if lim < bs.length + xs.length then (bs, 4) else (bs ++ xs, 0)
theorem putF_len {bs : List Int} {lim : Nat} (xs : List Int) (h : bs.length ≤ lim) : (putF bs lim xs).1.length ≤ lim := by
  unfold putF
  split
  · exact h
  · rw [List.length_append]; omega
def putFixedF (bs : List Int) (lim x : Nat) (k : Int) : List Int × Int := if k < 1 ∨ 8 < k ∨ 256 ^ k.toNat ≤ x then (bs, 2) else putF bs lim (leB k.toNat x)

/-- What a call of a writer leaves. -/
def WDid (base p lim : Nat) (A : Option Addr) (n c : Nat) (w : World) (bs' : List Int) (w' : World) : Prop := ∃ A' c', Wtr w' base p A' bs'.length c' bs' lim ∧ Both p (Value.slice A n c).ownBlock w w' ∧ Lies w (.slice A n c) (.slice A' bs'.length c')
theorem lies_refl (w : World) (v : Value) : Lies w v v := .inl rfl
theorem WDid.none {base p n c lim : Nat} {A : Option Addr} {bs : List Int} {w w' : World} (h : Wtr w base p A n c bs lim) (hb : Below w.heap.size w w') : WDid base p lim A n c w bs w' := by
  have hl := h.len
  subst hl
  exact ⟨A, c, h.below hb, Both.of_below hb, lies_refl _ _⟩

theorem BytesW_any (base p n c lim m cx : Nat) (A X : Option Addr) (bs xs : List Int) (w : World) (h : Wtr w base p A n c bs lim) (hx : Sees w 1 X m cx (xs.map (Value.int .u8))) (hB : base ≤ w.heap.size) :
    Calls Try.prog 26 #[.pointer (some ⟨p, 0, none⟩), .slice X m cx] w fun e w' => e = .returned (.int .i64 (putF bs lim xs).2) ∧ WDid base p lim A n c w (putF bs lim xs).1 w' := by
  have hl := h.len
  have hxl := hx.length
  unfold putF
  by_cases hm : lim < bs.length + xs.length
  · rw [if_pos hm]
    exact (BytesW_full base p n c lim m cx A X bs w h (by omega)).mono fun e w' ⟨he, hb⟩ => ⟨he, WDid.none h hb⟩
  · rw [if_neg hm]
    refine (BytesW_ok base p n c lim m cx A X bs xs w h hx (by omega) hB).mono fun e w' ⟨A', c', he, h2, k2, l2⟩ => ⟨he, A', c', ?_, k2, ?_⟩
    · rw [List.length_append, hl, hxl]; exact h2
    · rw [List.length_append, hl, hxl]; exact l2
theorem ByteW_any (base p n c lim : Nat) (x : Int) (A : Option Addr) (bs : List Int) (w : World) (h : Wtr w base p A n c bs lim) (hB : base ≤ w.heap.size) :
    Calls Try.prog 27 #[.pointer (some ⟨p, 0, none⟩), .int .u8 x] w fun e w' => e = .returned (.int .i64 (putF bs lim [x]).2) ∧ WDid base p lim A n c w (putF bs lim [x]).1 w' := by
  have hl := h.len
  unfold putF
  by_cases hm : lim < bs.length + [x].length
  · rw [if_pos hm]
    exact (ByteW_full base p n c lim x A bs w h (by simp at hm; omega)).mono fun e w' ⟨he, hb⟩ => ⟨he, WDid.none h hb⟩
  · rw [if_neg hm]
    refine (ByteW_ok base p n c lim x A bs w h (by simp at hm; omega) hB).mono fun e w' ⟨A', c', he, h2, k2, l2⟩ => ⟨he, A', c', ?_, k2, ?_⟩
    · rw [List.length_append, hl]; exact h2
    · rw [List.length_append, hl]; exact l2
theorem NumberW_any (base p n c lim x : Nat) (A : Option Addr) (bs : List Int) (w : World) (h : Wtr w base p A n c bs lim) (hx : x < 18446744073709551616) (hB : base ≤ w.heap.size) :
    Calls Try.prog 34 #[.pointer (some ⟨p, 0, none⟩), .int .u64 (x : Int)] w fun e w' => e = .returned (.int .i64 (putF bs lim (enc x)).2) ∧ WDid base p lim A n c w (putF bs lim (enc x)).1 w' := by
  have hl := h.len
  unfold putF
  by_cases hm : lim < bs.length + (enc x).length
  · rw [if_pos hm]
    exact (NumberW_full base p n c lim x A bs w h hx (by omega)).mono fun e w' ⟨he, hb⟩ => ⟨he, WDid.none h hb⟩
  · rw [if_neg hm]
    refine (NumberW_ok base p n c lim x A bs w h hx (by omega) hB).mono fun e w' ⟨A', c', he, h2, k2, l2⟩ => ⟨he, A', c', ?_, k2, ?_⟩
    · rw [List.length_append, hl]; exact h2
    · rw [List.length_append, hl]; exact l2
theorem FixedW_any (base p n c lim x : Nat) (k : Int) (A : Option Addr) (bs : List Int) (w : World) (h : Wtr w base p A n c bs lim) (hx : x < 18446744073709551616) (hB : base ≤ w.heap.size) :
    Calls Try.prog 25 #[.pointer (some ⟨p, 0, none⟩), .int .u64 (x : Int), .int .i64 k] w fun e w' => e = .returned (.int .i64 (putFixedF bs lim x k).2) ∧ WDid base p lim A n c w (putFixedF bs lim x k).1 w' := by
  have hl := h.len
  unfold putFixedF
  by_cases hk : k < 1 ∨ 8 < k ∨ 256 ^ k.toNat ≤ x
  · rw [if_pos hk]
    by_cases h1 : k < 1 ∨ 8 < k
    · exact (FixedW_bad base p n c lim k x A bs w h h1).mono fun e w' ⟨he, hb⟩ => ⟨he, WDid.none h (hb ▸ Below.refl _ _)⟩
    · obtain ⟨j, rfl⟩ : ∃ j : Nat, k = (j : Int) := ⟨k.toNat, by omega⟩
      rw [Int.toNat_natCast] at hk
      have hb : 256 ^ j ≤ x := by
        rcases hk with h' | h' | h'
        · omega
        · omega
        · exact h'
      have h8 : j < 8 := by
        rcases Nat.lt_or_ge j 8 with h' | h'
        · exact h'
        · have : j = 8 := by omega
          subst this
          have e : (256 : Nat) ^ 8 = 18446744073709551616 := by decide
          omega
      exact (FixedW_big base p n c lim j x A bs w h (by omega) h8 hb hx).mono fun e w' ⟨he, hb⟩ => ⟨he, WDid.none h (hb ▸ Below.refl _ _)⟩
  · rw [if_neg hk]
    obtain ⟨j, rfl⟩ : ∃ j : Nat, k = (j : Int) := ⟨k.toNat, by omega⟩
    rw [Int.toNat_natCast] at hk ⊢
    have hlt : x < 256 ^ j := by
      rcases Nat.lt_or_ge x (256 ^ j) with h' | h'
      · exact h'
      · exact (hk (Or.inr (Or.inr h'))).elim
    have hll := leB_len j x
    unfold putF
    by_cases hm : lim < bs.length + (leB j x).length
    · rw [if_pos hm]
      exact (FixedW_full base p n c lim j x A bs w h (by omega) (by omega) hlt hx (by omega)).mono fun e w' ⟨he, hb⟩ => ⟨he, WDid.none h hb⟩
    · rw [if_neg hm]
      refine (FixedW_ok base p n c lim j x A bs w h (by omega) (by omega) hlt hx (by omega) hB).mono fun e w' ⟨A', c', he, h2, k2, l2⟩ => ⟨he, A', c', ?_, k2, ?_⟩
      · rw [List.length_append, hl, hll]; exact h2
      · rw [List.length_append, hl, hll]; exact l2

theorem own_drew {w : World} {base e s n : Nat} {v : Value} {xs : List Value} (h : w.ownsRow base e s v n xs) : w.drew.ownsRow base e s v n xs := h
/-- A reference writer as a value. -/
abbrev wv (lim : Nat) (A : Option Addr) (n c : Nat) : Value := .agg #[.int .i64 (lim : Int), .slice A n c]
/-- The address is the same one, or one of a new block. -/
def From (w : World) (A : Option Addr) (n : Nat) (A' : Option Addr) (n' : Nat) : Prop := (A' = A ∧ n' = n) ∨ ∀ b, A' = some b → w.heap.size ≤ b.block

set_option maxRecDepth 20000 in
set_option maxHeartbeats 1600000 in
theorem refPut_any (lim n c m cx : Nat) (A X : Option Addr) (bs xs : List Int) (w : World) (hs : Sees w 1 A n c (bs.map (Value.int .u8))) (hx : Sees w 1 X m cx (xs.map (Value.int .u8))) (hl : lim ≤ 16777216) (hn : n ≤ lim) (hm : m ≤ 1000) :
    Calls Try.prog 41 #[wv lim A n c, .slice X m cx] w fun e w' => ∃ A' n' c', e = .returned (.tuple #[wv lim A' n' c', .int .i64 (putF bs lim xs).2]) ∧ Sees w' 1 A' n' c' ((putF bs lim xs).1.map (Value.int .u8)) ∧ From w A n A' n' ∧ Below w.heap.size w w' := by
  have e1 := hs.length
  have e2 := hx.length
  have hl2 : (lim : Int) ≤ 16777216 := by omega
  have hn2 : (n : Int) ≤ (lim : Int) := by omega
  have hm2 : (m : Int) ≤ 1000 := by omega
  have HS := Lib.hid hs
  have HX := Lib.hid hx
  have HNM := Lib.hid (And.intro hl (And.intro hn hm))
  unfold putF
  by_cases hb : lim < bs.length + xs.length
  · rw [if_pos hb]
    have d1 : decide ((lim : Int) < (n : Int) + (m : Int)) = true := by simp; omega
    have B2 := ((Below.refl w.heap.size w).alloc (Nat.le_refl _) (.cells #[.int .i64 (lim : Int), .slice A n c] 79)).alloc (by simp) (.cells #[.int .i64 (lim : Int), .slice A n c] 79)
    clear hb e1 e2 hs hx hl hn hm
    go_enter Try.func41, Try.ntmps41
    go_wp2
    exact bodyPost_ret (v := .tuple #[wv lim A n c, .int .i64 4]) (by simp [results, Try.results41, go_sem]) rfl ⟨A, n, c, rfl, HS.out.below B2 (Nat.le_refl _), Or.inl ⟨rfl, rfl⟩, B2⟩
  · rw [if_neg hb]
    have d1 : decide ((lim : Int) < (n : Int) + (m : Int)) = false := by simp; omega
    clear hb hs hx hl hn hm
    have HE := Lib.hid (And.intro e1 e2)
    clear e1 e2
    go_enter Try.func41, Try.ntmps41
    go_wp2_with fail
    have W2 : ∃ W2, W2 = (w.alloc (.cells #[.int .i64 (lim : Int), .slice A n c] 79)).alloc (.cells #[.int .i64 0, .slice none 0 0] 79) := ⟨_, rfl⟩
    obtain ⟨W2, hW2⟩ := W2
    have hb2 : Below w.heap.size w W2 := by rw [hW2]; exact ((Below.refl w.heap.size w).alloc (Nat.le_refl _) _).alloc (by simp) _
    have c0 : W2.cell? ⟨w.heap.size, 0, none⟩ = some (.int .i64 (lim : Int)) := by rw [hW2]; simp
    have c1 : W2.cell? ⟨w.heap.size, 1, none⟩ = some (.slice A n c) := by rw [hW2]; simp
    have z0 : W2.cell? ⟨w.heap.size + 1, 0, none⟩ = some (.int .i64 0) := by rw [hW2]; simp
    have z1 : W2.cell? ⟨w.heap.size + 1, 1, none⟩ = some (.slice none 0 0) := by rw [hW2]; simp
    have hz : w.heap.size + 1 < W2.heap.size := by rw [hW2]; simp
    have hS2 := Lib.hid (HS.out.below hb2 (Nat.le_refl _))
    have hX2 := Lib.hid (HX.out.below hb2 (Nat.le_refl _))
    have hz0 : w.heap.size < W2.heap.size := by omega
    have fz : ∀ k, W2.frozen? ⟨w.heap.size + 1, k, none⟩ = false := by
      intro k
      have h := lit_new (w := w.alloc (.cells #[.int .i64 (lim : Int), .slice A n c] 79)) (o := .cells #[.int .i64 0, .slice none 0 0] 79) (g := w.heap.size + 1) (by simp)
      rw [hW2]
      unfold World.frozen?
      rw [h]
      simp
    have HC : Hid (∀ W W', Below W2.heap.size W W' → W.cell? ⟨w.heap.size, 0, none⟩ = some (.int .i64 (lim : Int)) → W'.cell? ⟨w.heap.size, 0, none⟩ = some (.int .i64 (lim : Int))) := Lib.hid (fun W W' h h' => (h.cell (p := ⟨w.heap.size, 0, none⟩) hz0).trans h')
    have HC1 : Hid (∀ (W W' : World) k v, Below W2.heap.size W W' → W.cell? ⟨w.heap.size + 1, k, none⟩ = some v → W'.cell? ⟨w.heap.size + 1, k, none⟩ = some v) := Lib.hid (fun W W' k v h h' => (h.cell (p := ⟨w.heap.size + 1, k, none⟩) hz).trans h')
    have HCF : Hid (∀ (W W' : World) k, Below W2.heap.size W W' → W.frozen? ⟨w.heap.size + 1, k, none⟩ = false → W'.frozen? ⟨w.heap.size + 1, k, none⟩ = false) := Lib.hid (fun W W' k h h' => (h.frozen (p := ⟨w.heap.size + 1, k, none⟩) hz).trans h')
    have BL := Lib.hid ((Below.refl W2.heap.size W2).alloc (Nat.le_refl _) (.cells #[] 5))
    have f0 := fz 0
    have f1 := fz 1
    rw [← hW2]
    clear hW2 fz
    have L0 : Hid ((W2.alloc (.cells #[] 5)).ownsRow W2.heap.size 5 1 (.slice (some ⟨W2.heap.size, 0, none⟩) 0 0) 0 []) := Lib.hid (World.ownsRow_lit (base := W2.heap.size) (e := 5) (size := 1) W2 #[] 0 (Nat.le_refl _) (by decide) rfl)
    have SA := Lib.hid (hS2.out.below ((Below.refl W2.heap.size W2).alloc (Nat.le_refl _) (.cells #[] 5)) (Nat.le_refl _))
    have SX := Lib.hid (hX2.out.below ((Below.refl W2.heap.size W2).alloc (Nat.le_refl _) (.cells #[] 5)) (Nat.le_refl _))
    go_region_law (first
      | (refine step_app E_u8 rfl (.tmp 21) (.tmp 22) rfl rfl (base := W2.heap.size) hown4 rfl hX4 (ints1 _ _) (by have := HNM.out; simp [maxLen]; omega) (by have := HNM.out; omega) hsz4 ?_; intro A7 c7 w7 hown7 hg7 hb7; have B7 : Below W2.heap.size W2 w7 := (by first | exact B4.trans hb7 | exact B4.drew.trans hb7); have c7' := HC.out _ _ B7 c0; have y70 := HC1.out _ _ 0 _ B7 z0; have y71 := HC1.out _ _ 1 _ B7 z1; have x70 := HCF.out _ _ 0 B7 f0; have x71 := HCF.out _ _ 1 B7 f1)
      | (refine step_app E_u8 rfl (.tmp 18) (.tmp 20) rfl rfl (base := W2.heap.size) (by first | exact L0.out | exact own_drew L0.out) rfl (by first | exact SA.out | exact SA.out.drew) (ints1 _ _) (by have := HNM.out; simp [maxLen]; omega) (by have := HNM.out; omega) (by simp) ?_; intro A4 c4 w4 hown4 hg4 hb4; rw [Nat.zero_add, List.nil_append] at hown4; have B4 : Below W2.heap.size W2 w4 := (by first | exact BL.out.trans hb4 | exact BL.out.drew.trans hb4); have hX4 := hX2.out.below B4 (Nat.le_refl _); have cc4 := HC.out _ _ B4 c0; have y40 := HC1.out _ _ 0 _ B4 z0; have y41 := HC1.out _ _ 1 _ B4 z1; have x40 := HCF.out _ _ 0 B4 f0; have x41 := HCF.out _ _ 1 B4 f1; have hsz4 := B4.size))
    all_goals simp only [Act.put, List.getElem_toArray, List.getElem_cons_succ, List.getElem_cons_zero, List.setIfInBounds_toArray, List.set_cons_succ, List.set_cons_zero]
    all_goals go_wp2
    all_goals exact bodyPost_ret (v := .tuple #[wv lim A7 (n + m) c7, .int .i64 0]) (by simp [results, Try.results41, go_sem, y70, y71]) rfl ⟨A7, n + m, c7, rfl, by rw [List.map_append]; exact sees_own (ownsRow_setCell_below (ownsRow_setCell_below hown7 hz _) hz _), Or.inr (fun b hb => by subst hb; exact Nat.le_trans hb2.size (hown7.lt b.block rfl).1), ((hb2.trans (B7.mono hb2.size)).setCell (Nat.le_succ _) _).setCell (Nat.le_succ _) _⟩
end Go.Proofs.Ytgngeachgkappaa
