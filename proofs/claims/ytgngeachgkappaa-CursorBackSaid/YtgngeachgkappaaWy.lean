/- Walks: the law's reads. -/
import Derived.Test.YtgngeachgkappaaProg
import Derived.Test.YtgngeachgkappaaWx
import Derived.Test.YtgngeachgkappaaFr
namespace Go.Proofs.Ytgngeachgkappaa
open Go.RowKit Go.ChangeShapes Go.WideShapes
set_option linter.unusedVariables false

theorem read_any (p n c at_ cb kd ny cy : Nat) (N M X : Int) (A B Y : Option Addr) (bs : List Int) (w : World) (h : Rdr w p A n c bs at_) (hb : Bytes bs) (hn : n ≤ 100000000) (hs : Sees w 1 B n cb (bs.map (Value.int .u8))) (ho : 0 < n → Off p B) (hk2 : kd < 256) (hN : N ≤ 9223372036854775807) (hM : M ≤ 9223372036854775807) :
    Calls Try.prog 50 #[.pointer (some ⟨p, 0, none⟩), rv B n cb at_, av kd N M X Y ny cy] w fun e w' => ∃ at' : Nat, e = .returned (.tuple #[rv B n cb at', .bool true]) ∧ Did p n c at' A bs w w' := by
  have hlt : kd % 8 < 8 := Nat.mod_lt _ (by decide)
  by_cases h0 : kd % 8 = 0
  · by_cases hl : at_ < n
    · exact (read_byte_ok p n c at_ cb kd ny cy N M X A B Y bs w h hn hs ho h0 hk2 hl).mono fun e w' hh => ⟨_, hh⟩
    · exact (read_byte_end p n c at_ cb kd ny cy N M X A B Y bs w h hn hs ho h0 hk2 (by omega)).mono fun e w' hh => ⟨_, hh⟩
  · by_cases h1 : kd % 8 = 1
    · exact (read_bytes p n c at_ cb kd ny cy N M X A B Y bs w h hn hs ho h1 hk2).mono fun e w' hh => ⟨_, hh⟩
    · by_cases h2 : kd % 8 = 2
      · exact (read_fixed p n c at_ cb kd ny cy N M X A B Y bs w h hb hn hs ho h2 hk2).mono fun e w' hh => ⟨_, hh⟩
      · by_cases h3 : kd % 8 = 3
        · exact (read_number p n c at_ cb kd ny cy N M X A B Y bs w h hb hn hs ho h3 hk2).mono fun e w' hh => ⟨_, hh⟩
        · by_cases h4 : kd % 8 = 4
          · exact (read_count p n c at_ cb kd ny cy N M X A B Y bs w h hb hn hs ho h4 hk2 hN hM).mono fun e w' hh => ⟨_, hh⟩
          · exact (read_other p n c at_ cb kd ny cy N M X A B Y bs w h (by omega) hk2).mono fun e w' hh => ⟨_, hh⟩

/-- An act: its kind, N, M, X, and its bytes' slice. -/
abbrev ActV := Nat × Int × Int × Int × Option Addr × Nat × Nat
instance : Inhabited (Option Addr) := ⟨none⟩
def actCells (a : ActV) : List Value := [.int .u8 (a.1 : Int), .int .i64 a.2.1, .int .i64 a.2.2.1, .int .u64 a.2.2.2.1, .slice a.2.2.2.2.1 a.2.2.2.2.2.1 a.2.2.2.2.2.2]
structure ActOk (w : World) (a : ActV) : Prop where
  k : a.1 < 256
  n0 : -9223372036854775808 ≤ a.2.1
  n1 : a.2.1 ≤ 9223372036854775807
  m0 : -9223372036854775808 ≤ a.2.2.1
  m1 : a.2.2.1 ≤ 9223372036854775807
  x0 : 0 ≤ a.2.2.2.1
  x1 : a.2.2.2.1 ≤ 18446744073709551615
  b : ∃ l, Sees w 1 a.2.2.2.2.1 a.2.2.2.2.2.1 a.2.2.2.2.2.2 (l.map (Value.int .u8)) ∧ Bytes l
theorem ActOk.below {w w' : World} {a : ActV} (h : ActOk w a) (hb : Below w.heap.size w w') : ActOk w' a := ⟨h.k, h.n0, h.n1, h.m0, h.m1, h.x0, h.x1, by obtain ⟨l, h1, h2⟩ := h.b; exact ⟨l, h1.below hb (Nat.le_refl _), h2⟩⟩
def SeesAct (w : World) (A : Option Addr) (len cap : Nat) (zs : List ActV) : Prop := Sees w 5 A len cap (zs.flatMap actCells) ∧ ∀ z ∈ zs, ActOk w z
theorem flatAct_get (st : List ActV) : ∀ k, k < st.length → ∃ z ∈ st, (st.flatMap actCells)[5 * k]? = some (.int .u8 (z.1 : Int)) ∧ (st.flatMap actCells)[5 * k + 1]? = some (.int .i64 z.2.1) ∧ (st.flatMap actCells)[5 * k + 2]? = some (.int .i64 z.2.2.1) ∧ (st.flatMap actCells)[5 * k + 3]? = some (.int .u64 z.2.2.2.1) ∧ (st.flatMap actCells)[5 * k + 4]? = some (.slice z.2.2.2.2.1 z.2.2.2.2.2.1 z.2.2.2.2.2.2) := by
  induction st with
  | nil => intro k h; simp at h
  | cons s st ih =>
    intro k h
    rw [List.flatMap_cons]
    cases k with
    | zero => exact ⟨s, by simp, rfl, rfl, rfl, rfl, rfl⟩
    | succ k =>
      obtain ⟨z, hz, e0, e1, e2, e3, e4⟩ := ih k (by simpa using h)
      have hl : (actCells s).length = 5 := rfl
      refine ⟨z, by simp [hz], ?_, ?_, ?_, ?_, ?_⟩
      · rw [List.getElem?_append_right (by rw [hl]; omega), hl, show 5 * (k + 1) - 5 = 5 * k by omega]; exact e0
      · rw [List.getElem?_append_right (by rw [hl]; omega), hl, show 5 * (k + 1) + 1 - 5 = 5 * k + 1 by omega]; exact e1
      · rw [List.getElem?_append_right (by rw [hl]; omega), hl, show 5 * (k + 1) + 2 - 5 = 5 * k + 2 by omega]; exact e2
      · rw [List.getElem?_append_right (by rw [hl]; omega), hl, show 5 * (k + 1) + 3 - 5 = 5 * k + 3 by omega]; exact e3
      · rw [List.getElem?_append_right (by rw [hl]; omega), hl, show 5 * (k + 1) + 4 - 5 = 5 * k + 4 by omega]; exact e4
theorem SeesAct.at_ {w : World} {A : Option Addr} {n c k : Nat} {zs : List ActV} (h : SeesAct w A n c zs) (hk : k < n) :
    ∃ b o kd N M X Y ny cy, A = some ⟨b, o, none⟩ ∧ w.cell? ⟨b, o + k * 5, none⟩ = some (.int .u8 ((kd : Nat) : Int)) ∧ w.cell? ⟨b, o + k * 5 + 1, none⟩ = some (.int .i64 N) ∧ w.cell? ⟨b, o + k * 5 + 2, none⟩ = some (.int .i64 M) ∧ w.cell? ⟨b, o + k * 5 + 3, none⟩ = some (.int .u64 X) ∧ w.cell? ⟨b, o + k * 5 + 4, none⟩ = some (.slice Y ny cy) ∧ ActOk w (kd, N, M, X, Y, ny, cy) := by
  have hl : zs.length = n := by have := h.1.len; rw [flatMap_len actCells 5 (fun _ => rfl)] at this; omega
  obtain ⟨⟨kd, N, M, X, Y, ny, cy⟩, hz, e0, e1, e2, e3, e4⟩ := flatAct_get zs k (by omega)
  obtain ⟨b, o, hA, c0⟩ := h.1.look _ _ e0
  obtain ⟨b1, o1, hA1, c1⟩ := h.1.look _ _ e1
  obtain ⟨b2, o2, hA2, c2⟩ := h.1.look _ _ e2
  obtain ⟨b3, o3, hA3, c3⟩ := h.1.look _ _ e3
  obtain ⟨b4, o4, hA4, c4⟩ := h.1.look _ _ e4
  subst hA
  cases hA1; cases hA2; cases hA3; cases hA4
  rw [Nat.mul_comm 5 k] at c0 c1 c2 c3 c4
  exact ⟨b, o, kd, N, M, X, Y, ny, cy, rfl, c0, by rw [Nat.add_assoc]; exact c1, by rw [Nat.add_assoc]; exact c2, by rw [Nat.add_assoc]; exact c3, by rw [Nat.add_assoc]; exact c4, h.2 _ hz⟩
theorem SeesAct.below {w w' : World} {A : Option Addr} {n c : Nat} {zs : List ActV} (h : SeesAct w A n c zs) (hb : Below w.heap.size w w') : SeesAct w' A n c zs := ⟨h.1.below hb (Nat.le_refl _), fun z hz => (h.2 z hz).below hb⟩

set_option maxRecDepth 20000 in
theorem NewReader_far (A : Option Addr) (n c : Nat) (bs : List Int) (w : World) (h : Sees w 1 A n c (bs.map (Value.int .u8))) (hn : n ≤ 100000000) :
    Calls Try.prog 16 #[.slice A n c] w fun e w' => ∃ p A' c', e = .returned (.pointer (some ⟨p, 0, none⟩)) ∧ Rdr w' p A' n c' bs 0 ∧ w.heap.size ≤ p ∧ (∀ G, G < w.heap.size → Off G A') ∧ Below w.heap.size w w' := by
  have HN := Lib.hid hn
  clear hn
  go_enter Try.func16, Try.ntmps16
  go_wp2_with (go_at_call 38; refine (Clone8_any _ _ _ bs _ h HN.out).mono ?_; rintro e w1 ⟨A1, c1, rfl, o1, b1⟩; have HO := Lib.hid o1; have HB := Lib.hid b1; clear o1 b1)
  go_ret
  exact ⟨w1.heap.size, A1, c1, rfl, ⟨heap_alloc_new _ _, sees_own (HO.out.alloc _), own_off' HO.out (Nat.le_refl _), Nat.zero_le _⟩, HB.out.size, fun G hG => own_off HO.out hG, HB.out.alloc HB.out.size _⟩

set_option maxRecDepth 20000 in
theorem At_same (p n c at_ : Nat) (A : Option Addr) (bs : List Int) (w : World) (h : Rdr w p A n c bs at_) :
    Calls Try.prog 18 #[.pointer (some ⟨p, 0, none⟩)] w fun e w' => e = .returned (.int .i64 (at_ : Int)) ∧ w' = w := by
  have h1 := h.c1
  have HR := Lib.hid h
  clear h
  go_enter Try.func18, Try.ntmps18
  go_wp2_with (go_at_call 39; refine (isR_any _ _ _ _ _ _ _ HR.out).mono ?_; rintro e w1 ⟨rfl, rfl⟩)
  go_ret
  exact ⟨rfl, rfl⟩

theorem keep3 {W w w' : World} {a b : Addr} {u v : Value} (h : w.cell? a = some u ∧ w.cell? b = some v ∧ Below W.heap.size W w) (k : Below w.heap.size w w') : w'.cell? a = some u ∧ w'.cell? b = some v ∧ Below W.heap.size W w' := ⟨below_cellA k h.1, below_cellA k h.2.1, below_step h.2.2 k⟩
theorem keep0 {W w : World} {a b : Addr} {u v : Value} (h : w.cell? a = some u ∧ w.cell? b = some v ∧ Below W.heap.size W w) : w.drew.cell? a = some u ∧ w.drew.cell? b = some v ∧ Below W.heap.size W w.drew := ⟨h.1, h.2.1, h.2.2.drew⟩

set_option maxRecDepth 20000 in
set_option maxHeartbeats 3200000 in
theorem reads_any (A : Option Addr) (n c : Nat) (bs : List Int) (Z : Option Addr) (k cz : Nat) (acts : List ActV) (w : World) (h : Sees w 1 A n c (bs.map (Value.int .u8))) (hb : Bytes bs) (hz : SeesAct w Z k cz acts) :
    Calls Try.prog 31 #[.slice A n c, .slice Z k cz] w fun e w' => e = .returned (.bool true) ∧ Below w.heap.size w w' := by
  have HS := Lib.hid h
  have HZ := Lib.hid hz
  clear h hz
  by_cases hbig : 500 < n ∨ 100 < k
  · by_cases h1 : 500 < n
    · have d1 : decide ((500 : Int) < (n : Int)) = true := by simp; omega
      have d1' : decide (500 < n) = true := by simp; omega
      clear hbig h1
      go_enter Try.func31, Try.ntmps31
      go_wp2
      go_ret
      exact ⟨rfl, Below.refl _ _⟩
    · have d1 : decide ((500 : Int) < (n : Int)) = false := by simp; omega
      have d1' : decide (500 < n) = false := by simp; omega
      have d2 : decide ((100 : Int) < (k : Int)) = true := by simp; omega
      have d2' : decide (100 < k) = true := by simp; omega
      clear hbig h1
      go_enter Try.func31, Try.ntmps31
      go_wp2
      go_ret
      exact ⟨rfl, Below.refl _ _⟩
  · have d1 : decide ((500 : Int) < (n : Int)) = false := by simp; omega
    have d1' : decide (500 < n) = false := by simp; omega
    have d2 : decide ((100 : Int) < (k : Int)) = false := by simp; omega
    have d2' : decide (100 < k) = false := by simp; omega
    have HN : Hid (n ≤ 500 ∧ k ≤ 100) := Lib.hid (by omega)
    have HN8 : Hid (n ≤ 100000000) := Lib.hid (by omega)
    have HLN := Lib.hid HS.out.length
    have hk2 : (k : Int) ≤ 100 := by omega
    clear hbig
    go_enter Try.func31, Try.ntmps31
    go_wp2_with (first
      | (go_at_call 44; refine (OverBytes_any _ go' c1 n _ _ o3.out (by have := HN.out; omega)).mono ?_; rintro e w4 ⟨rfl, k4⟩; have b4 := b3.trans (k4.below (hgo.out).1 b3.size); have h4 : Hid (Rdr w4 p A2 n c2 bs 0) := Lib.hid ⟨by rw [k4.block p h3.out.plt (by have := hgo.out; omega)]; exact h3.out.obj, h3.out.row.keeps k4 hoA.out, h3.out.off, Nat.zero_le _⟩)
      | (go_at_call 43; refine (KeptBytes_any _ A n _ c bs _ (by exact sees_own o2.out) (by exact HS.out.below b2 (Nat.le_refl _)) (by have := HN.out; omega)).mono ?_; rintro e w3 ⟨rfl, k3⟩; have b3 := below_step b2 k3; have h3 := Lib.hid (h2.out.below k3); have o3 := Lib.hid (own_below o2.out k3 (Nat.le_refl _)))
      | (go_at_call 16; refine (NewReader_far _ n c1 bs _ (by exact (by have := sees_own o1.out; rw [List.map_append] at this; exact this.take (by rw [List.length_map, HLN.out]; omega) (by omega))) HN8.out).mono ?_; rintro e w2 ⟨p, A2, c2, rfl, h2, hp2, hfar, k2⟩; have hoA := Lib.hid (hfar go' (own_glt o1.out)); clear hfar; have b2 := below_step b1 k2; have h2 := Lib.hid h2; have hgo : Hid (w.heap.size ≤ go' ∧ go' < w1.heap.size ∧ w1.heap.size ≤ p) := Lib.hid ⟨hgo0, own_glt o1.out, hp2⟩; have o2 := Lib.hid (own_below o1.out k2 (Nat.le_refl _)))
      | (go_at_call 42; refine (LentBytes_any A n c bs _ HS.out (by have := HN.out; omega)).mono ?_; rintro e w1 ⟨A1, c1, rfl, o1, b1⟩; obtain ⟨go', c1', hgo1, hgo0⟩ := own_addrK o1 (by omega); cases hgo1; have o1 := Lib.hid o1))
    have hpw : Hid (w.heap.size ≤ p ∧ p < w4.heap.size) := Lib.hid ⟨by have := hgo.out; have := b1.size; omega, h4.out.plt⟩
    have hoB : Hid (0 < n → Off p A) := Lib.hid (fun h0 b hb => by
      subst hb
      · obtain ⟨bz, oz, hA, hc⟩ := HS.out.int h0
        cases hA
        have e1 := World.block_lt_of_cell? _ _ hc
        have e2 := hpw.out.1
        have e3 : bz < w.heap.size := e1
        show bz ≠ p
        omega)
    have hE : Hid ((w4.alloc (.cells #[.slice A n c, .int .i64 0] 88)).heap[w4.heap.size]? = some (.cells #[.slice A n c, .int .i64 ((0 : Nat) : Int)] 88 (0, 0))) := Lib.hid (heap_alloc_new _ _)
    have h5 := Lib.hid (h4.out.below ((Below.refl _ _).alloc (Nat.le_refl _) (.cells #[.slice A n c, .int .i64 0] 88)))
    have b5 := b4.alloc b4.size (.cells #[.slice A n c, .int .i64 0] 88)
    have HW4 := Lib.hid b4.size
    have HOA2 : Hid (0 < n → Off w4.heap.size A2) := Lib.hid (fun h0 b hb => by
      subst hb
      obtain ⟨bz, oz, hA, hc⟩ := h4.out.row.int h0
      cases hA
      have e1 := World.block_lt_of_cell? _ _ hc
      have e3 : bz < w4.heap.size := e1
      show bz ≠ w4.heap.size
      omega)
    clear d1 d1' d2 d2' b1 b2 b3 b4 hgo0 o1 o2 o3 h2 h3 h4 hgo hoA
    go_loopw [34] (fun i wr => ∃ (j at' : Nat), Hid (j ≤ k) ∧ i = .int .i64 (j : Int) ∧ Hid (Rdr wr p A2 n c2 bs at') ∧ Hid (wr.heap[w4.heap.size]? = some (.cells #[.slice A n c, .int .i64 (at' : Int)] 88 (0, 0))) ∧ Below w.heap.size w wr) (fun i _ => k - (intOf i).toNat)
    case atStart => exact ⟨0, 0, Lib.hid (Nat.zero_le _), rfl, h5, hE, b5⟩
    case round =>
      obtain ⟨j, at', HJ, rfl, HR, HE, hbl⟩ := hrel
      by_cases hlt : j < k
      · obtain ⟨ba, oa, kd, N, M, X, Y, ny, cy, hA, g0, g1, g2, g3, g4, hok⟩ := (HZ.out.below hbl).at_ hlt
        cases hA
        have r0 := cell_zero HE.out
        have r1 := cell_one HE.out
        have HOK := Lib.hid hok
        have hB0 := (Below.refl wr.heap.size wr).alloc (Nat.le_refl _) (.cells #[.int .u8 (kd : Int), .int .i64 N, .int .i64 M, .int .u64 X, .slice Y ny cy] 64)
        have hR0 := Lib.hid (HR.out.below hB0)
        have hS0 := Lib.hid ((HS.out.below hbl (Nat.le_refl _)).below hB0 (Nat.le_refl _))
        have hBB := Lib.hid (hbl.trans (hB0.mono hbl.size))
        have d3 : decide ((j : Int) < (k : Int)) = true := by simp; omega
        have hj2 : (j : Int) < (k : Int) := by omega
        have hj3 : (j : Int) ≤ 99 := by omega
        have h7 : Hid (w4.heap.size < wr.heap.size) := Lib.hid (lt_of_heap HE.out)
        have h7' : w4.heap.size < wr.heap.size := h7.out
        have HLT := Lib.hid hlt
        clear hlt hok hB0
        go_wp2_with (go_at_call 50; refine (read_any p n c2 at' c kd ny cy N M X A2 A Y bs _ hR0.out hb HN8.out hS0.out hoB.out HOK.out.k HOK.out.n1 HOK.out.m1).mono ?_; rintro e w6 ⟨a6, rfl, h6⟩; have h6 := Lib.hid h6)
        obtain ⟨W8, hW8⟩ : ∃ W8, W8 = w6.alloc (.cells #[.slice A n c, .int .i64 (a6 : Int)] 88) := ⟨_, rfl⟩
        have hb8 : Below w6.heap.size w6 W8 := by rw [hW8]; exact (Below.refl _ _).alloc (Nat.le_refl _) _
        have HR8 := Lib.hid (h6.out.1.below hb8)
        have c0 : W8.cell? ⟨w6.heap.size, 0, none⟩ = some (.slice A n c) := by rw [hW8]; simp
        have c1 : W8.cell? ⟨w6.heap.size, 1, none⟩ = some (.int .i64 (a6 : Int)) := by rw [hW8]; simp
        have hS8 : W8.cell? ⟨w6.heap.size, 0, none⟩ = some (.slice A n c) ∧ W8.cell? ⟨w6.heap.size, 1, none⟩ = some (.int .i64 (a6 : Int)) ∧ Below W8.heap.size W8 W8 := ⟨c0, c1, Below.refl _ _⟩
        have ha6 : a6 ≤ n := h6.out.1.le
        have HLE := Lib.hid ha6
        have HSUB : Hid (((n - a6 : Nat) : Int) = (n : Int) - (a6 : Int)) := Lib.hid (by omega)
        have hnn : (n : Int) ≤ 500 := by have := HN.out; omega
        have hwr : IntKind.i64.wrap ((n : Int) - (a6 : Int)) = (n : Int) - (a6 : Int) := IntWalk.i64_in _ (by omega)
        obtain ⟨E, hEE⟩ : ∃ E : Int, (if a6 < n then (22 : Int) else 0) = E := ⟨_, rfl⟩
        have HEE := Lib.hid hEE
        have H7 : Hid (W8.heap[w4.heap.size]? = some (.cells #[.slice A n c, .int .i64 (at' : Int)] 88 (0, 0))) := Lib.hid (by
          have e1 : (wr.alloc (.cells #[.int .u8 (kd : Int), .int .i64 N, .int .i64 M, .int .u64 X, .slice Y ny cy] 64)).heap[w4.heap.size]? = some (.cells #[.slice A n c, .int .i64 (at' : Int)] 88 (0, 0)) := lit_skip HE.out
          have e2 := (h6.out.2.block _ (lt_of_heap e1) (by have := hpw.out; omega)).trans e1
          exact (hb8.block _ (lt_of_heap e2)).trans e2)
        have B8 := Lib.hid ((h6.out.2.trans (Keeps.of_below hb8)).below (B := w.heap.size) hpw.out.1 hBB.out.size)
        have B9 := Lib.hid (hBB.out.trans B8.out)
        rw [← hW8]
        clear hW8 hb8 hEE ha6 c0 c1 h6 hR0 hS0 hBB r0 r1 HE HR g0 g1 g2 g3 g4 B8 h7 h7'
        go_region_held3 (fun w' => w'.cell? ⟨w6.heap.size, 0, none⟩ = some (.slice A n c) ∧ w'.cell? ⟨w6.heap.size, 1, none⟩ = some (.int .i64 (a6 : Int)) ∧ Below W8.heap.size W8 w') (first | exact keep0 hS8 | exact keep3 (by assumption) (by assumption)) (first
          | (go_at_call 18; refine (At_any _ _ _ _ _ _ _ (HR8.out.below (And.right (And.right (by assumption))))).mono ?_; rintro e w' ⟨rfl, kk⟩)
          | (go_at_call 19; refine (Left_any _ _ _ _ _ _ _ (HR8.out.below (And.right (And.right (by assumption)))) HN8.out).mono ?_; rw [HSUB.out]; rintro e w' ⟨rfl, kk⟩)
          | (go_at_call 20; refine (End_any _ _ _ _ _ _ _ (HR8.out.below (And.right (And.right (by assumption)))) HN8.out).mono ?_; rw [HEE.out]; rintro e w' ⟨rfl, kk⟩)
          | (go_at_call 51; refine (refEnd_any A n c a6 _ HLE.out HN8.out).mono ?_; rw [HEE.out]; rintro e w' ⟨rfl, kk⟩))
        rename_i hH
        obtain ⟨q0, q1, HW9⟩ := hH
        have y7 := (HW9.block _ (lt_of_heap H7.out)).trans H7.out
        have y0 := cell_zero y7
        have y1 := cell_one y7
        have yf0 : w'.frozen? ⟨w4.heap.size, 0, none⟩ = false := by simp [World.frozen?, y7]
        have yf1 : w'.frozen? ⟨w4.heap.size, 1, none⟩ = false := by simp [World.frozen?, y7]
        have hR9 := HR8.out.below HW9
        have B10 := below_step B9.out HW9
        have hfin : Hid (((w'.setCell ⟨w4.heap.size, 0, none⟩ (.slice A n c)).setCell ⟨w4.heap.size, 1, none⟩ (.int .i64 (a6 : Int))).heap[w4.heap.size]? = some (.cells #[.slice A n c, .int .i64 (a6 : Int)] 88 (0, 0))) := Lib.hid (by
          have e1 := heap_setCell_same w' w4.heap.size 0 _ _ (.slice A n c) y7
          have e2 := heap_setCell_same _ w4.heap.size 1 _ _ (.int .i64 (a6 : Int)) e1
          simpa using e2)
        have hrf : Hid (Rdr ((w'.setCell ⟨w4.heap.size, 0, none⟩ (.slice A n c)).setCell ⟨w4.heap.size, 1, none⟩ (.int .i64 (a6 : Int))) p A2 n c2 bs a6) := Lib.hid (by
          have ne : p ≠ w4.heap.size := by have := hpw.out; omega
          refine ⟨?_, ?_, hR9.off, hR9.le⟩
          · rw [heap_sc ne, heap_sc ne]; exact hR9.obj
          · exact (hR9.row.keeps0 (Keeps.set w4.heap.size 0 _ _) HOA2.out).keeps0 (Keeps.set w4.heap.size 1 _ _) HOA2.out)
        have hbf := Lib.hid ((B10.setCell (show w.heap.size ≤ (⟨w4.heap.size, 0, none⟩ : Addr).block from HW4.out) (.slice A n c)).setCell (show w.heap.size ≤ (⟨w4.heap.size, 1, none⟩ : Addr).block from HW4.out) (.int .i64 (a6 : Int)))
        clear y7 hR9 B10 HW9 hS8 HSUB hwr
        go_wp2
        go_roundw
        case rel => exact ⟨j + 1, a6, Lib.hid HLT.out, by go_num, hrf, hfin, hbf.out⟩
        case measure => have := HLT.out; simp [intOf]; omega
      · have hjk : j = k := by have := HJ.out; omega
        have d3 : decide ((j : Int) < (k : Int)) = false := by simp; omega
        have d3' : decide (j < k) = false := by simp; omega
        have r0 := cell_zero HE.out
        have r1 := cell_one HE.out
        clear hlt hjk
        go_wp2_with fail
        have hS8 : wr.cell? ⟨w4.heap.size, 0, none⟩ = some (.slice A n c) ∧ wr.cell? ⟨w4.heap.size, 1, none⟩ = some (.int .i64 (at' : Int)) ∧ Below wr.heap.size wr wr := ⟨r0, r1, Below.refl _ _⟩
        go_region_held3 (fun w' => w'.cell? ⟨w4.heap.size, 0, none⟩ = some (.slice A n c) ∧ w'.cell? ⟨w4.heap.size, 1, none⟩ = some (.int .i64 (at' : Int)) ∧ Below wr.heap.size wr w') (first | exact keep0 hS8 | exact keep3 (by assumption) (by assumption)) (first
          | (go_at_call 18; refine (At_any _ _ _ _ _ _ _ (HR.out.below (And.right (And.right (by assumption))))).mono ?_; rintro e w' ⟨rfl, kk⟩))
        rename_i hH
        go_wp2
        go_ret
        exact ⟨rfl, below_step hbl hH.2.2⟩
end Go.Proofs.Ytgngeachgkappaa
