/- Walks: the law's read. -/
import Derived.Test.YtgngeachgkappaaProg
import Derived.Test.YtgngeachgkappaaWu
import Derived.Test.YtgngeachgkappaaLb8
import Derived.Deep.RegionHeld3
namespace Go.Proofs.Ytgngeachgkappaa
open Go.RowKit
set_option linter.unusedVariables false

/-- An act as a value. -/
abbrev av (kd : Nat) (N M X : Int) (Y : Option Addr) (ny cy : Nat) : Value := .agg #[.int .u8 (kd : Int), .int .i64 N, .int .i64 M, .int .u64 X, .slice Y ny cy]
/-- The three boxes of read. -/
structure Bx3 (W : World) (b : Nat) (B : Option Addr) (n cb at_ kd : Nat) (N M X : Int) (Y : Option Addr) (ny cy : Nat) : Prop where
  o0 : W.heap[b]? = some (.cells #[.slice B n cb, .int .i64 (at_ : Int)] 88 (0, 0))
  o1 : W.heap[b + 1]? = some (.cells #[.int .u8 (kd : Int), .int .i64 N, .int .i64 M, .int .u64 X, .slice Y ny cy] 64 (0, 0))
  o2 : W.heap[b + 2]? = some (.cells #[.slice none 0 0, .int .i64 0] 88 (0, 0))
section
variable {W W' : World} {b : Nat} {B : Option Addr} {n cb at_ kd : Nat} {N M X : Int} {Y : Option Addr} {ny cy : Nat}
theorem Bx3.below (h : Bx3 W b B n cb at_ kd N M X Y ny cy) (k : Below W.heap.size W W') : Bx3 W' b B n cb at_ kd N M X Y ny cy :=
  ⟨(k.block _ (lt_of_heap h.o0)).trans h.o0, (k.block _ (lt_of_heap h.o1)).trans h.o1, (k.block _ (lt_of_heap h.o2)).trans h.o2⟩
theorem Bx3.keeps {p : Nat} (h : Bx3 W b B n cb at_ kd N M X Y ny cy) (k : Keeps p W W') (hp : p < b) : Bx3 W' b B n cb at_ kd N M X Y ny cy :=
  ⟨(k.block _ (lt_of_heap h.o0) (by omega)).trans h.o0, (k.block _ (lt_of_heap h.o1) (by omega)).trans h.o1, (k.block _ (lt_of_heap h.o2) (by omega)).trans h.o2⟩
theorem Bx3.a0 (h : Bx3 W b B n cb at_ kd N M X Y ny cy) : W.cell? ⟨b, 0, none⟩ = some (.slice B n cb) := by simp [World.cell?, h.o0]
theorem Bx3.a1 (h : Bx3 W b B n cb at_ kd N M X Y ny cy) : W.cell? ⟨b, 1, none⟩ = some (.int .i64 (at_ : Int)) := by simp [World.cell?, h.o0]
theorem Bx3.k0 (h : Bx3 W b B n cb at_ kd N M X Y ny cy) : W.cell? ⟨b + 1, 0, none⟩ = some (.int .u8 (kd : Int)) := by simp [World.cell?, h.o1]
theorem Bx3.k1 (h : Bx3 W b B n cb at_ kd N M X Y ny cy) : W.cell? ⟨b + 1, 1, none⟩ = some (.int .i64 N) := by simp [World.cell?, h.o1]
theorem Bx3.k2 (h : Bx3 W b B n cb at_ kd N M X Y ny cy) : W.cell? ⟨b + 1, 2, none⟩ = some (.int .i64 M) := by simp [World.cell?, h.o1]
theorem Bx3.k3 (h : Bx3 W b B n cb at_ kd N M X Y ny cy) : W.cell? ⟨b + 1, 3, none⟩ = some (.int .u64 X) := by simp [World.cell?, h.o1]
theorem Bx3.z0 (h : Bx3 W b B n cb at_ kd N M X Y ny cy) : W.cell? ⟨b + 2, 0, none⟩ = some (.slice none 0 0) := by simp [World.cell?, h.o2]
theorem Bx3.z1 (h : Bx3 W b B n cb at_ kd N M X Y ny cy) : W.cell? ⟨b + 2, 1, none⟩ = some (.int .i64 0) := by simp [World.cell?, h.o2]
theorem Bx3.f0 (h : Bx3 W b B n cb at_ kd N M X Y ny cy) : W.frozen? ⟨b + 2, 0, none⟩ = false := by simp [World.frozen?, h.o2]
theorem Bx3.f1 (h : Bx3 W b B n cb at_ kd N M X Y ny cy) : W.frozen? ⟨b + 2, 1, none⟩ = false := by simp [World.frozen?, h.o2]
theorem Bx3.lt (h : Bx3 W b B n cb at_ kd N M X Y ny cy) : b + 2 < W.heap.size := lt_of_heap h.o2
end
/-- The world behind them. -/
def rx (w : World) (B : Option Addr) (n cb at_ kd : Nat) (N M X : Int) (Y : Option Addr) (ny cy : Nat) : World :=
  ((w.alloc (.cells #[.slice B n cb, .int .i64 (at_ : Int)] 88)).alloc (.cells #[.int .u8 (kd : Int), .int .i64 N, .int .i64 M, .int .u64 X, .slice Y ny cy] 64)).alloc (.cells #[.slice none 0 0, .int .i64 0] 88)
theorem rx_bx (w : World) (B : Option Addr) (n cb at_ kd : Nat) (N M X : Int) (Y : Option Addr) (ny cy : Nat) : Bx3 (rx w B n cb at_ kd N M X Y ny cy) w.heap.size B n cb at_ kd N M X Y ny cy :=
  ⟨lit_skip (lit_skip (lit_new rfl)), lit_skip (lit_new (by simp)), lit_new (by simp)⟩
theorem rx_below (w : World) (B : Option Addr) (n cb at_ kd : Nat) (N M X : Int) (Y : Option Addr) (ny cy : Nat) : Below w.heap.size w (rx w B n cb at_ kd N M X Y ny cy) :=
  (((Below.refl _ _).alloc (Nat.le_refl _) _).alloc (by simp) _).alloc (by simp; omega) _

theorem Sees.keeps0 {w w' : World} {G s n c : Nat} {A : Option Addr} {xs : List Value} (h : Sees w s A n c xs) (hk : Keeps G w w') (h1 : 0 < n → Off G A) : Sees w' s A n c xs := by
  rcases Nat.eq_zero_or_pos n with h0 | h0
  · have hl := h.len
    rw [h0, Nat.zero_mul] at hl
    obtain rfl := List.eq_nil_of_length_eq_zero hl
    exact ⟨h.len, h.cap, h.capm, h.nil_, fun k u hu => by simp at hu⟩
  · exact h.keeps hk (h1 h0)
theorem Keeps.setHigh {G : Nat} {w W : World} (h : Keeps G w W) (a : Addr) (v : Value) (ha : w.heap.size ≤ a.block) : Keeps G w (W.setCell a v) :=
  ⟨h.os, h.tape, h.output, by rw [setCell_size]; exact h.size, fun i hi hg => by rw [Below.heap_setCell _ _ _ _ (by omega)]; exact h.block i hi hg⟩
theorem Keeps.allocHigh {G : Nat} {w W : World} (h : Keeps G w W) (o : Obj) : Keeps G w (W.alloc o) := h.trans (Keeps.of_below ((Below.refl _ _).alloc (Nat.le_refl _) _))
theorem Rdr.later {w W : World} {p n c at_ q : Nat} {A : Option Addr} {bs : List Int} (h : Rdr w p A n c bs at_) (hk : Keeps p w W) (ho : W.heap[p]? = some (.cells #[.slice A n c, .int .i64 (q : Int), .pointer (some ⟨p, 0, none⟩)] 77 (0, 0))) (hq : q ≤ n) : Rdr W p A n c bs q :=
  ⟨ho, h.row.keeps hk h.off, h.off, hq⟩
/-- What read leaves: the result's box is written last. -/
theorem did_fin {w W5 : World} {p n c at_ q b : Nat} {A : Option Addr} {bs : List Int} (h : Rdr w p A n c bs at_) {W3 : World} (hB : Below w.heap.size w W3) (hd : Rdr W5 p A n c bs q ∧ Keeps p W3 W5) (u v : Value) (o : Obj) (hb : w.heap.size ≤ b) :
    Did p n c q A bs w (((W5.setCell ⟨b, 0, none⟩ u).setCell ⟨b, 1, none⟩ v).alloc o) := by
  have hp := h.plt
  have k1 : Keeps p w W5 := (Keeps.of_below hB).trans hd.2
  have k2 := ((k1.setHigh ⟨b, 0, none⟩ u hb).setHigh ⟨b, 1, none⟩ v hb).allocHigh o
  refine ⟨h.later k2 ?_ hd.1.le, k2⟩
  refine lit_skip ?_
  rw [Below.heap_setCell _ _ _ _ (by show p ≠ b; omega), Below.heap_setCell _ _ _ _ (by show p ≠ b; omega)]
  exact hd.1.obj

theorem did_fin2 {w W5 : World} {p n c at_ q b : Nat} {A : Option Addr} {bs : List Int} (h : Rdr w p A n c bs at_) {W3 : World} (hB : Below w.heap.size w W3) (hd : Rdr W5 p A n c bs q ∧ Keeps p W3 W5) (u v : Value) (hb : w.heap.size ≤ b) :
    Did p n c q A bs w ((W5.drew.setCell ⟨b, 0, none⟩ u).setCell ⟨b, 1, none⟩ v) := by
  have hp := h.plt
  have k1 : Keeps p w W5.drew := ((Keeps.of_below hB).trans hd.2).trans (Keeps.of_below ((Below.refl _ _).drew))
  have k2 := (k1.setHigh ⟨b, 0, none⟩ u hb).setHigh ⟨b, 1, none⟩ v hb
  refine ⟨h.later k2 ?_ hd.1.le, k2⟩
  rw [Below.heap_setCell _ _ _ _ (by show p ≠ b; omega), Below.heap_setCell _ _ _ _ (by show p ≠ b; omega)]
  exact hd.1.obj

set_option maxRecDepth 100000 in
set_option maxHeartbeats 1600000 in
theorem read_fixed (p n c at_ cb kd ny cy : Nat) (N M X : Int) (A B Y : Option Addr) (bs : List Int) (w : World) (h : Rdr w p A n c bs at_) (hb : Bytes bs) (hn : n ≤ 100000000) (hs : Sees w 1 B n cb (bs.map (Value.int .u8))) (ho : 0 < n → Off p B) (hk : kd % 8 = 2) (hk2 : kd < 256) :
    Calls Try.prog 50 #[.pointer (some ⟨p, 0, none⟩), rv B n cb at_, av kd N M X Y ny cy] w fun e w' => e = .returned (.tuple #[rv B n cb (fixedF bs n at_ N).1, .bool true]) ∧ Did p n c (fixedF bs n at_ N).1 A bs w w' := by
  have hk3 : (kd : Int) % 8 = 2 := by omega
  have hk4 : (kd : Int) ≤ 255 := by omega
  obtain ⟨at', x, er, hF⟩ : ∃ at' x er, fixedF bs n at_ N = (at', x, er) := ⟨_, _, _, rfl⟩
  rw [hF]
  have HF := Lib.hid hF
  have hX := rx_bx w B n cb at_ kd N M X Y ny cy
  have hBx := rx_below w B n cb at_ kd N M X Y ny cy
  have q0 := hX.k0
  have q1 := hX.k1
  have HR := Lib.hid (h.below hBx)
  have HS := Lib.hid (hs.below hBx (Nat.le_refl _))
  have HX := Lib.hid hX
  have HB := Lib.hid hBx
  have HP := Lib.hid h.plt
  have HLE := Lib.hid h.le
  have H0 := Lib.hid h
  clear h hs hX hBx hF hk hk2
  go_enter Try.func50, Try.ntmps50
  go_wp2_with (first
    | (go_at_call 57; refine (refFixed_any B n cb at_ N bs _ s4.out hb HLE.out hn).mono ?_; rw [HF.out]; rintro e w5 ⟨rfl, k5⟩; have X5 := Lib.hid (X4.out.below k5); have z0 := X5.out.z0; have z1 := X5.out.z1; have f0 := X5.out.f0; have f1 := X5.out.f1; have hz := X5.out.lt; have D5 := Lib.hid (And.intro (h4.out.1.below k5) (h4.out.2.trans (Keeps.of_below k5))))
    | (go_at_call 28; change Calls _ _ _ (rx w B n cb at_ kd N M X Y ny cy) _; refine (Fixed_any _ _ _ _ N _ bs _ HR.out hb hn).mono ?_; rw [HF.out]; rintro e w4 ⟨rfl, h4⟩; have X4 := Lib.hid (HX.out.keeps h4.2 HP.out); have a0 := X4.out.a0; have a1 := X4.out.a1; have k1 := X4.out.k1; have s4 := Lib.hid (HS.out.keeps0 h4.2 ho); have h4 := Lib.hid h4))
  exact bodyPost_ret (v := .tuple #[rv B n cb at', .bool true]) (by simp [results, Try.results50, go_sem, z0, z1, hz]) rfl ⟨rfl, did_fin H0.out HB.out D5.out _ _ _ (by omega)⟩
set_option maxRecDepth 100000 in
set_option maxHeartbeats 1600000 in
theorem read_number (p n c at_ cb kd ny cy : Nat) (N M X : Int) (A B Y : Option Addr) (bs : List Int) (w : World) (h : Rdr w p A n c bs at_) (hb : Bytes bs) (hn : n ≤ 100000000) (hs : Sees w 1 B n cb (bs.map (Value.int .u8))) (ho : 0 < n → Off p B) (hk : kd % 8 = 3) (hk2 : kd < 256) :
    Calls Try.prog 50 #[.pointer (some ⟨p, 0, none⟩), rv B n cb at_, av kd N M X Y ny cy] w fun e w' => e = .returned (.tuple #[rv B n cb (numberF bs at_ X).1, .bool true]) ∧ Did p n c (numberF bs at_ X).1 A bs w w' := by
  have hk3 : (kd : Int) % 8 = 3 := by omega
  have hk4 : (kd : Int) ≤ 255 := by omega
  obtain ⟨at', x, er, hF⟩ : ∃ at' x er, numberF bs at_ X = (at', x, er) := ⟨_, _, _, rfl⟩
  rw [hF]
  have HF := Lib.hid hF
  have hX := rx_bx w B n cb at_ kd N M X Y ny cy
  have hBx := rx_below w B n cb at_ kd N M X Y ny cy
  have q0 := hX.k0
  have q1 := hX.k3
  have HR := Lib.hid (h.below hBx)
  have HS := Lib.hid (hs.below hBx (Nat.le_refl _))
  have HX := Lib.hid hX
  have HB := Lib.hid hBx
  have HP := Lib.hid h.plt
  have HLE := Lib.hid h.le
  have H0 := Lib.hid h
  clear h hs hX hBx hF hk hk2
  go_enter Try.func50, Try.ntmps50
  go_wp2_with (first
    | (go_at_call 58; refine (refNumber_any B n cb at_ X bs _ s4.out hb HLE.out hn).mono ?_; rw [HF.out]; rintro e w5 ⟨rfl, k5⟩; have X5 := Lib.hid (X4.out.below k5); have z0 := X5.out.z0; have z1 := X5.out.z1; have f0 := X5.out.f0; have f1 := X5.out.f1; have hz := X5.out.lt; have D5 := Lib.hid (And.intro (h4.out.1.below k5) (h4.out.2.trans (Keeps.of_below k5))))
    | (go_at_call 23; change Calls _ _ _ (rx w B n cb at_ kd N M X Y ny cy) _; refine (Number_any _ _ _ _ X _ bs _ HR.out hb hn).mono ?_; rw [HF.out]; rintro e w4 ⟨rfl, h4⟩; have X4 := Lib.hid (HX.out.keeps h4.2 HP.out); have a0 := X4.out.a0; have a1 := X4.out.a1; have k1 := X4.out.k3; have s4 := Lib.hid (HS.out.keeps0 h4.2 ho); have h4 := Lib.hid h4))
  exact bodyPost_ret (v := .tuple #[rv B n cb at', .bool true]) (by simp [results, Try.results50, go_sem, z0, z1, hz]) rfl ⟨rfl, did_fin H0.out HB.out D5.out _ _ _ (by omega)⟩
set_option maxRecDepth 100000 in
set_option maxHeartbeats 1600000 in
theorem read_count (p n c at_ cb kd ny cy : Nat) (N M X : Int) (A B Y : Option Addr) (bs : List Int) (w : World) (h : Rdr w p A n c bs at_) (hb : Bytes bs) (hn : n ≤ 100000000) (hs : Sees w 1 B n cb (bs.map (Value.int .u8))) (ho : 0 < n → Off p B) (hk : kd % 8 = 4) (hk2 : kd < 256) (hN : N ≤ 9223372036854775807) (hM : M ≤ 9223372036854775807) :
    Calls Try.prog 50 #[.pointer (some ⟨p, 0, none⟩), rv B n cb at_, av kd N M X Y ny cy] w fun e w' => e = .returned (.tuple #[rv B n cb (countF bs n at_ N M).1, .bool true]) ∧ Did p n c (countF bs n at_ N M).1 A bs w w' := by
  have hk3 : (kd : Int) % 8 = 4 := by omega
  have hk4 : (kd : Int) ≤ 255 := by omega
  obtain ⟨at', x, er, hF⟩ : ∃ at' x er, countF bs n at_ N M = (at', x, er) := ⟨_, _, _, rfl⟩
  rw [hF]
  have HF := Lib.hid hF
  have hX := rx_bx w B n cb at_ kd N M X Y ny cy
  have hBx := rx_below w B n cb at_ kd N M X Y ny cy
  have q0 := hX.k0
  have q1 := hX.k1
  have q2 := hX.k2
  have HR := Lib.hid (h.below hBx)
  have HS := Lib.hid (hs.below hBx (Nat.le_refl _))
  have HX := Lib.hid hX
  have HB := Lib.hid hBx
  have HP := Lib.hid h.plt
  have HLE := Lib.hid h.le
  have H0 := Lib.hid h
  clear h hs hX hBx hF hk hk2
  go_enter Try.func50, Try.ntmps50
  go_wp2_with (first
    | (go_at_call 59; refine (refCount_any B n cb at_ N M bs _ s4.out hb HLE.out hn hN hM).mono ?_; rw [HF.out]; rintro e w5 ⟨rfl, k5⟩; have X5 := Lib.hid (X4.out.below k5); have z0 := X5.out.z0; have z1 := X5.out.z1; have f0 := X5.out.f0; have f1 := X5.out.f1; have hz := X5.out.lt; have D5 := Lib.hid (And.intro (h4.out.1.below k5) (h4.out.2.trans (Keeps.of_below k5))))
    | (go_at_call 32; change Calls _ _ _ (rx w B n cb at_ kd N M X Y ny cy) _; refine (Count_any _ _ _ _ N M _ bs _ HR.out hb hn hN hM).mono ?_; rw [HF.out]; rintro e w4 ⟨rfl, h4⟩; have X4 := Lib.hid (HX.out.keeps h4.2 HP.out); have a0 := X4.out.a0; have a1 := X4.out.a1; have k1 := X4.out.k1; have k2 := X4.out.k2; have s4 := Lib.hid (HS.out.keeps0 h4.2 ho); have h4 := Lib.hid h4))
  exact bodyPost_ret (v := .tuple #[rv B n cb at', .bool true]) (by simp [results, Try.results50, go_sem, z0, z1, hz]) rfl ⟨rfl, did_fin H0.out HB.out D5.out _ _ _ (by omega)⟩
set_option maxRecDepth 100000 in
set_option maxHeartbeats 1600000 in
theorem read_other (p n c at_ cb kd ny cy : Nat) (N M X : Int) (A B Y : Option Addr) (bs : List Int) (w : World) (h : Rdr w p A n c bs at_) (hk : 5 ≤ kd % 8) (hk2 : kd < 256) :
    Calls Try.prog 50 #[.pointer (some ⟨p, 0, none⟩), rv B n cb at_, av kd N M X Y ny cy] w fun e w' => e = .returned (.tuple #[rv B n cb at_, .bool true]) ∧ Did p n c at_ A bs w w' := by
  obtain ⟨q, hk3, hq5, hq7⟩ : ∃ q : Int, (kd : Int) % 8 = q ∧ 5 ≤ q ∧ q ≤ 7 := ⟨_, rfl, by omega, by omega⟩
  have e0 : (q == 0) = false := by simp; omega
  have e1 : (q == 1) = false := by simp; omega
  have e2 : (q == 2) = false := by simp; omega
  have e3 : (q == 3) = false := by simp; omega
  have e4 : (q == 4) = false := by simp; omega
  have hk4 : (kd : Int) ≤ 255 := by omega
  have hX := rx_bx w B n cb at_ kd N M X Y ny cy
  have hBx := rx_below w B n cb at_ kd N M X Y ny cy
  have HR := Lib.hid (h.below hBx)
  have HB := Lib.hid hBx
  have H0 := Lib.hid h
  clear h hX hBx hk hk2
  go_enter Try.func50, Try.ntmps50
  go_wp2
  exact bodyPost_ret (v := .tuple #[rv B n cb at_, .bool true]) (by simp [results, Try.results50, go_sem]) rfl ⟨rfl, H0.out.below ((((Below.refl _ _).alloc (Nat.le_refl _) _).alloc (by simp) _).alloc (by simp; omega) _), Keeps.of_below ((((Below.refl _ _).alloc (Nat.le_refl _) _).alloc (by simp) _).alloc (by simp; omega) _)⟩

set_option maxRecDepth 100000 in
set_option maxHeartbeats 1600000 in
theorem read_byte_ok (p n c at_ cb kd ny cy : Nat) (N M X : Int) (A B Y : Option Addr) (bs : List Int) (w : World) (h : Rdr w p A n c bs at_) (hn : n ≤ 100000000) (hs : Sees w 1 B n cb (bs.map (Value.int .u8))) (ho : 0 < n → Off p B) (hk : kd % 8 = 0) (hk2 : kd < 256) (hlt : at_ < n) :
    Calls Try.prog 50 #[.pointer (some ⟨p, 0, none⟩), rv B n cb at_, av kd N M X Y ny cy] w fun e w' => e = .returned (.tuple #[rv B n cb (at_ + 1), .bool true]) ∧ Did p n c (at_ + 1) A bs w w' := by
  have hk3 : (kd : Int) % 8 = 0 := by omega
  have hk4 : (kd : Int) ≤ 255 := by omega
  obtain ⟨y, hy⟩ : ∃ y, bs.getD at_ 0 = y := ⟨_, rfl⟩
  have hF : takeF bs n at_ 1 = (at_ + 1, [y], 0) := by
    unfold takeF
    rw [if_neg (by omega), if_neg (by omega), show (1 : Int).toNat = 1 from rfl, one_row _ _ (by rw [h.len]; exact hlt), hy]
  have HY := Lib.hid hy
  have HF := Lib.hid hF
  have HLT := Lib.hid hlt
  have hX := rx_bx w B n cb at_ kd N M X Y ny cy
  have hBx := rx_below w B n cb at_ kd N M X Y ny cy
  have q0 := hX.k0
  have HR := Lib.hid (h.below hBx)
  have HS := Lib.hid (hs.below hBx (Nat.le_refl _))
  have HX := Lib.hid hX
  have HB := Lib.hid hBx
  have HP := Lib.hid h.plt
  have HLE := Lib.hid h.le
  have H0 := Lib.hid h
  clear h hs hX hBx hF hk hk2 hy hlt
  go_enter Try.func50, Try.ntmps50
  go_wp2_with (first
    | (go_at_call 56; refine (refTake_any B n cb at_ 1 bs _ s4.out HLE.out hn).mono ?_; rw [HF.out]; rintro e w5 ⟨A5, m5, c5, rfl, o5, k5⟩; obtain ⟨b5, p5, rfl, hc5⟩ := own_cell0 o5; obtain rfl : m5 = 1 := (by have := (sees_own o5).len; simp at this; exact this.symm); have X5 := Lib.hid (X4.out.below k5); have z0 := X5.out.z0; have z1 := X5.out.z1; have f0 := X5.out.f0; have f1 := X5.out.f1; have hz := X5.out.lt; have D5 := Lib.hid (And.intro (h4.out.1.below k5) (h4.out.2.trans (Keeps.of_below k5))); have hb5 : b5 ≠ w.heap.size + 2 := (by have e1 := (o5.lt b5 rfl).1; have e2 := X4.out.lt; omega); clear o5)
    | (go_at_call 24; change Calls _ _ _ (rx w B n cb at_ kd N M X Y ny cy) _; refine (Byte_ok _ _ _ _ _ bs _ HR.out hn HLT.out).mono ?_; rw [HY.out]; rintro e w4 ⟨rfl, h4⟩; have X4 := Lib.hid (HX.out.keeps h4.2 HP.out); have a0 := X4.out.a0; have a1 := X4.out.a1; have s4 := Lib.hid (HS.out.keeps0 h4.2 ho); have h4 := Lib.hid h4))
  have W6 : ∃ W6, W6 = w5.alloc (.cells #[.slice B n cb, .int .i64 ((at_ : Int) + 1)] 88) := ⟨_, rfl⟩
  obtain ⟨W6, hW6⟩ := W6
  have g5 : W6.cell? ⟨b5, p5, none⟩ = some (.int .u8 y) := by rw [hW6]; exact (below_cellA ((Below.refl _ _).alloc (Nat.le_refl _) _) hc5)
  have gA : W6.cell? ⟨w5.heap.size, 0, none⟩ = some (.slice B n cb) := by rw [hW6]; simp
  have gB : W6.cell? ⟨w5.heap.size, 1, none⟩ = some (.int .i64 ((at_ : Int) + 1)) := by rw [hW6]; simp
  have X6 := X5.out.below (W' := W6) (by rw [hW6]; exact (Below.refl _ _).alloc (Nat.le_refl _) _)
  have D6 : Hid (Rdr W6 p A n c bs (at_ + 1) ∧ Keeps p (rx w B n cb at_ kd N M X Y ny cy) W6) := Lib.hid (by rw [hW6]; exact ⟨D5.out.1.below ((Below.refl _ _).alloc (Nat.le_refl _) _), D5.out.2.allocHigh _⟩)
  have y0 := X6.z0
  have y1 := X6.z1
  have e0 := X6.f0
  have e1 := X6.f1
  have hz6 := X6.lt
  rw [← hW6]
  have hb6 : w.heap.size + 2 ≠ b5 := fun e => hb5 e.symm
  clear hW6 z0 z1 f0 f1 hz X5 X6 D5 hc5
  refine wp_region_any (by kernel_rfl) ?_
  change wpAny _ _ _ _ _ _ _ (World.drew _)
  refine wpAny_take (i := 1) (v := (.int .i64 0)) rfl (by kernel_rfl) (by kernel_rfl) (by kernel_rfl) (fun _ _ _ h => h) (Or.inl ⟨by rfl, fun w => by go_simp⟩) ?_
  simp only [Act.put, List.getElem_toArray, List.getElem_cons_succ, List.getElem_cons_zero, List.setIfInBounds_toArray, List.set_cons_succ, List.set_cons_zero]
  refine wpAny_take (i := 2) (v := (.int .i64 0)) rfl (by kernel_rfl) (by kernel_rfl) (by kernel_rfl) (fun _ _ _ h => h) (Or.inl ⟨by rfl, fun w => by go_simp⟩) ?_
  simp only [Act.put, List.getElem_toArray, List.getElem_cons_succ, List.getElem_cons_zero, List.setIfInBounds_toArray, List.set_cons_succ, List.set_cons_zero]
  refine wpAny_take (i := 3) (v := (.bool true)) rfl (by kernel_rfl) (by kernel_rfl) (by kernel_rfl) (fun _ _ _ h => h) (Or.inl ⟨by rfl, fun w => by go_simp⟩) ?_
  simp only [Act.put, List.getElem_toArray, List.getElem_cons_succ, List.getElem_cons_zero, List.setIfInBounds_toArray, List.set_cons_succ, List.set_cons_zero]
  refine wpAny_take (i := 4) (v := (.bool true)) rfl (by kernel_rfl) (by kernel_rfl) (by kernel_rfl) (fun _ _ _ h => h) (Or.inl ⟨by rfl, fun w => by go_simp⟩) ?_
  simp only [Act.put, List.getElem_toArray, List.getElem_cons_succ, List.getElem_cons_zero, List.setIfInBounds_toArray, List.set_cons_succ, List.set_cons_zero]
  refine wpAny_take (i := 5) (v := (.int .i64 0)) rfl (by kernel_rfl) (by kernel_rfl) (by kernel_rfl) (fun _ _ _ h => h) (Or.inl ⟨by rfl, fun w => by go_simp⟩) ?_
  simp only [Act.put, List.getElem_toArray, List.getElem_cons_succ, List.getElem_cons_zero, List.setIfInBounds_toArray, List.set_cons_succ, List.set_cons_zero]
  refine wpAny_take (i := 6) (v := (.bool false)) rfl (by kernel_rfl) (by kernel_rfl) (by kernel_rfl) (fun _ _ _ h => h) (Or.inl ⟨by rfl, fun w => by go_simp⟩) ?_
  simp only [Act.put, List.getElem_toArray, List.getElem_cons_succ, List.getElem_cons_zero, List.setIfInBounds_toArray, List.set_cons_succ, List.set_cons_zero]
  refine wpAny_take (i := 7) (v := (.bool false)) rfl (by kernel_rfl) (by kernel_rfl) (by kernel_rfl) (fun _ _ _ h => h) (Or.inl ⟨by rfl, fun w => by go_simp⟩) ?_
  simp only [Act.put, List.getElem_toArray, List.getElem_cons_succ, List.getElem_cons_zero, List.setIfInBounds_toArray, List.set_cons_succ, List.set_cons_zero]
  refine wpAny_take (i := 8) (v := undef) rfl (by kernel_rfl) (by kernel_rfl) (by kernel_rfl) (fun _ _ _ h => h) (Or.inr ⟨by rfl, rfl⟩) ?_
  simp only [Act.put, List.getElem_toArray, List.getElem_cons_succ, List.getElem_cons_zero, List.setIfInBounds_toArray, List.set_cons_succ, List.set_cons_zero]
  refine wpAny_take (i := 9) (v := undef) rfl (by kernel_rfl) (by kernel_rfl) (by kernel_rfl) (fun _ _ _ h => h) (Or.inr ⟨by rfl, rfl⟩) ?_
  simp only [Act.put, List.getElem_toArray, List.getElem_cons_succ, List.getElem_cons_zero, List.setIfInBounds_toArray, List.set_cons_succ, List.set_cons_zero]
  refine wpAny_take (i := 10) (v := (.bool false)) rfl (by kernel_rfl) (by kernel_rfl) (by kernel_rfl) (fun _ _ _ h => h) (Or.inl ⟨by rfl, fun w => by go_simp⟩) ?_
  simp only [Act.put, List.getElem_toArray, List.getElem_cons_succ, List.getElem_cons_zero, List.setIfInBounds_toArray, List.set_cons_succ, List.set_cons_zero]
  refine wpAny_take (i := 11) (v := (.bool false)) rfl (by kernel_rfl) (by kernel_rfl) (by kernel_rfl) (fun _ _ _ h => h) (Or.inl ⟨by rfl, fun w => by go_simp⟩) ?_
  simp only [Act.put, List.getElem_toArray, List.getElem_cons_succ, List.getElem_cons_zero, List.setIfInBounds_toArray, List.set_cons_succ, List.set_cons_zero]
  refine wpAny_take (i := 12) (v := (.int .i64 0)) rfl (by kernel_rfl) (by kernel_rfl) (by kernel_rfl) (fun _ _ _ h => h) (Or.inl ⟨by rfl, fun w => by go_simp⟩) ?_
  simp only [Act.put, List.getElem_toArray, List.getElem_cons_succ, List.getElem_cons_zero, List.setIfInBounds_toArray, List.set_cons_succ, List.set_cons_zero]
  refine wpAny_take (i := 13) (v := (.bool true)) rfl (by kernel_rfl) (by kernel_rfl) (by kernel_rfl) (fun _ _ _ h => h) (Or.inl ⟨by rfl, fun w => by go_simp⟩) ?_
  simp only [Act.put, List.getElem_toArray, List.getElem_cons_succ, List.getElem_cons_zero, List.setIfInBounds_toArray, List.set_cons_succ, List.set_cons_zero]
  refine wpAny_take (i := 14) (v := (.bool true)) rfl (by kernel_rfl) (by kernel_rfl) (by kernel_rfl) (fun _ _ _ h => h) (Or.inl ⟨by rfl, fun w => by go_simp⟩) ?_
  simp only [Act.put, List.getElem_toArray, List.getElem_cons_succ, List.getElem_cons_zero, List.setIfInBounds_toArray, List.set_cons_succ, List.set_cons_zero]
  refine wpAny_take (i := 15) (v := (.int .u8 y)) rfl (by kernel_rfl) (by kernel_rfl) (by kernel_rfl) (fun _ _ _ h => h) (Or.inl ⟨by rfl, fun w => by go_simp⟩) ?_
  simp only [Act.put, List.getElem_toArray, List.getElem_cons_succ, List.getElem_cons_zero, List.setIfInBounds_toArray, List.set_cons_succ, List.set_cons_zero]
  refine wpAny_take (i := 16) (v := (.slice (some ⟨b5, p5, none⟩) 1 c5)) rfl (by kernel_rfl) (by kernel_rfl) (by kernel_rfl) (fun _ _ _ h => h) (Or.inl ⟨by rfl, fun w => by go_simp⟩) ?_
  simp only [Act.put, List.getElem_toArray, List.getElem_cons_succ, List.getElem_cons_zero, List.setIfInBounds_toArray, List.set_cons_succ, List.set_cons_zero]
  refine wpAny_take (i := 17) (v := (.pointer (some ⟨b5, p5, none⟩))) rfl (by kernel_rfl) (by kernel_rfl) (by kernel_rfl) (fun _ _ _ h => h) (Or.inl ⟨by rfl, fun w => by go_simp⟩) ?_
  simp only [Act.put, List.getElem_toArray, List.getElem_cons_succ, List.getElem_cons_zero, List.setIfInBounds_toArray, List.set_cons_succ, List.set_cons_zero]
  refine wpAny_ready (rs := [0, 18]) (by kernel_rfl) (by simp) ?_
  refine AllReady.cons rfl (fun K hK => ?_) (AllReady.cons rfl (fun K hK => ?_) AllReady.nil)
  · go_simp
    refine hK _ _ ?_
    try simp only [Act.put, List.getElem_toArray, List.getElem_cons_succ, List.getElem_cons_zero, List.setIfInBounds_toArray, List.set_cons_succ, List.set_cons_zero]
    refine wpAny_ready (rs := [18, 23]) (by kernel_rfl) (by simp) ?_
    refine AllReady.cons rfl (fun K hK => ?_) (AllReady.cons rfl (fun K hK => ?_) AllReady.nil)
    · go_simp
      refine hK _ _ ?_
      try simp only [Act.put, List.getElem_toArray, List.getElem_cons_succ, List.getElem_cons_zero, List.setIfInBounds_toArray, List.set_cons_succ, List.set_cons_zero]
      refine wpAny_take (i := 19) (v := (.bool true)) rfl (by kernel_rfl) (by kernel_rfl) (by kernel_rfl) (fun _ _ _ h => h) (Or.inl ⟨by rfl, fun w => by go_simp⟩) ?_
      simp only [Act.put, List.getElem_toArray, List.getElem_cons_succ, List.getElem_cons_zero, List.setIfInBounds_toArray, List.set_cons_succ, List.set_cons_zero]
      refine wpAny_take (i := 20) (v := (.bool true)) rfl (by kernel_rfl) (by kernel_rfl) (by kernel_rfl) (fun _ _ _ h => h) (Or.inl ⟨by rfl, fun w => by go_simp⟩) ?_
      simp only [Act.put, List.getElem_toArray, List.getElem_cons_succ, List.getElem_cons_zero, List.setIfInBounds_toArray, List.set_cons_succ, List.set_cons_zero]
      refine wpAny_take (i := 21) (v := (.bool true)) rfl (by kernel_rfl) (by kernel_rfl) (by kernel_rfl) (fun _ _ _ h => h) (Or.inl ⟨by rfl, fun w => by go_simp⟩) ?_
      simp only [Act.put, List.getElem_toArray, List.getElem_cons_succ, List.getElem_cons_zero, List.setIfInBounds_toArray, List.set_cons_succ, List.set_cons_zero]
      refine wpAny_take (i := 22) (v := (.bool true)) rfl (by kernel_rfl) (by kernel_rfl) (by kernel_rfl) (fun _ _ _ h => h) (Or.inl ⟨by rfl, fun w => by go_simp⟩) ?_
      simp only [Act.put, List.getElem_toArray, List.getElem_cons_succ, List.getElem_cons_zero, List.setIfInBounds_toArray, List.set_cons_succ, List.set_cons_zero]
      refine wpAny_ready (rs := [23]) (by kernel_rfl) (by simp) ?_
      refine AllReady.cons rfl (fun K hK => ?_) AllReady.nil
      go_simp
      refine hK _ _ ?_
      try simp only [Act.put, List.getElem_toArray, List.getElem_cons_succ, List.getElem_cons_zero, List.setIfInBounds_toArray, List.set_cons_succ, List.set_cons_zero]
      refine wpAny_take (i := 24) (v := (.bool true)) rfl (by kernel_rfl) (by kernel_rfl) (by kernel_rfl) (fun _ _ _ h => h) (Or.inl ⟨by rfl, fun w => by go_simp⟩) ?_
      simp only [Act.put, List.getElem_toArray, List.getElem_cons_succ, List.getElem_cons_zero, List.setIfInBounds_toArray, List.set_cons_succ, List.set_cons_zero]
      refine wpAny_done (by kernel_rfl) ?_ _
      go_wp2
      exact bodyPost_ret (v := .tuple #[rv B n cb (at_ + 1), .bool true]) (by simp [results, Try.results50, go_sem, y0, y1, hz6]) rfl ⟨rfl, did_fin2 H0.out HB.out D6.out _ _ (by omega)⟩
    · go_simp
      refine hK _ _ ?_
      try simp only [Act.put, List.getElem_toArray, List.getElem_cons_succ, List.getElem_cons_zero, List.setIfInBounds_toArray, List.set_cons_succ, List.set_cons_zero]
      refine wpAny_ready (rs := [18]) (by kernel_rfl) (by simp) ?_
      refine AllReady.cons rfl (fun K hK => ?_) AllReady.nil
      go_simp
      refine hK _ _ ?_
      try simp only [Act.put, List.getElem_toArray, List.getElem_cons_succ, List.getElem_cons_zero, List.setIfInBounds_toArray, List.set_cons_succ, List.set_cons_zero]
      refine wpAny_take (i := 19) (v := (.bool true)) rfl (by kernel_rfl) (by kernel_rfl) (by kernel_rfl) (fun _ _ _ h => h) (Or.inl ⟨by rfl, fun w => by go_simp⟩) ?_
      simp only [Act.put, List.getElem_toArray, List.getElem_cons_succ, List.getElem_cons_zero, List.setIfInBounds_toArray, List.set_cons_succ, List.set_cons_zero]
      refine wpAny_take (i := 20) (v := (.bool true)) rfl (by kernel_rfl) (by kernel_rfl) (by kernel_rfl) (fun _ _ _ h => h) (Or.inl ⟨by rfl, fun w => by go_simp⟩) ?_
      simp only [Act.put, List.getElem_toArray, List.getElem_cons_succ, List.getElem_cons_zero, List.setIfInBounds_toArray, List.set_cons_succ, List.set_cons_zero]
      refine wpAny_take (i := 21) (v := (.bool true)) rfl (by kernel_rfl) (by kernel_rfl) (by kernel_rfl) (fun _ _ _ h => h) (Or.inl ⟨by rfl, fun w => by go_simp⟩) ?_
      simp only [Act.put, List.getElem_toArray, List.getElem_cons_succ, List.getElem_cons_zero, List.setIfInBounds_toArray, List.set_cons_succ, List.set_cons_zero]
      refine wpAny_take (i := 22) (v := (.bool true)) rfl (by kernel_rfl) (by kernel_rfl) (by kernel_rfl) (fun _ _ _ h => h) (Or.inl ⟨by rfl, fun w => by go_simp⟩) ?_
      simp only [Act.put, List.getElem_toArray, List.getElem_cons_succ, List.getElem_cons_zero, List.setIfInBounds_toArray, List.set_cons_succ, List.set_cons_zero]
      refine wpAny_take (i := 24) (v := (.bool true)) rfl (by kernel_rfl) (by kernel_rfl) (by kernel_rfl) (fun _ _ _ h => h) (Or.inl ⟨by rfl, fun w => by go_simp⟩) ?_
      simp only [Act.put, List.getElem_toArray, List.getElem_cons_succ, List.getElem_cons_zero, List.setIfInBounds_toArray, List.set_cons_succ, List.set_cons_zero]
      refine wpAny_done (by kernel_rfl) ?_ _
      go_wp2
      exact bodyPost_ret (v := .tuple #[rv B n cb (at_ + 1), .bool true]) (by simp [results, Try.results50, go_sem, y0, y1, hz6]) rfl ⟨rfl, did_fin2 H0.out HB.out D6.out _ _ (by omega)⟩
  · go_simp
    refine hK _ _ ?_
    try simp only [Act.put, List.getElem_toArray, List.getElem_cons_succ, List.getElem_cons_zero, List.setIfInBounds_toArray, List.set_cons_succ, List.set_cons_zero]
    refine wpAny_take (i := 19) (v := (.bool true)) rfl (by kernel_rfl) (by kernel_rfl) (by kernel_rfl) (fun _ _ _ h => h) (Or.inl ⟨by rfl, fun w => by go_simp⟩) ?_
    simp only [Act.put, List.getElem_toArray, List.getElem_cons_succ, List.getElem_cons_zero, List.setIfInBounds_toArray, List.set_cons_succ, List.set_cons_zero]
    refine wpAny_take (i := 20) (v := (.bool true)) rfl (by kernel_rfl) (by kernel_rfl) (by kernel_rfl) (fun _ _ _ h => h) (Or.inl ⟨by rfl, fun w => by go_simp⟩) ?_
    simp only [Act.put, List.getElem_toArray, List.getElem_cons_succ, List.getElem_cons_zero, List.setIfInBounds_toArray, List.set_cons_succ, List.set_cons_zero]
    refine wpAny_take (i := 21) (v := (.bool true)) rfl (by kernel_rfl) (by kernel_rfl) (by kernel_rfl) (fun _ _ _ h => h) (Or.inl ⟨by rfl, fun w => by go_simp⟩) ?_
    simp only [Act.put, List.getElem_toArray, List.getElem_cons_succ, List.getElem_cons_zero, List.setIfInBounds_toArray, List.set_cons_succ, List.set_cons_zero]
    refine wpAny_take (i := 22) (v := (.bool true)) rfl (by kernel_rfl) (by kernel_rfl) (by kernel_rfl) (fun _ _ _ h => h) (Or.inl ⟨by rfl, fun w => by go_simp⟩) ?_
    simp only [Act.put, List.getElem_toArray, List.getElem_cons_succ, List.getElem_cons_zero, List.setIfInBounds_toArray, List.set_cons_succ, List.set_cons_zero]
    refine wpAny_ready (rs := [0]) (by kernel_rfl) (by simp) ?_
    refine AllReady.cons rfl (fun K hK => ?_) AllReady.nil
    go_simp
    refine hK _ _ ?_
    try simp only [Act.put, List.getElem_toArray, List.getElem_cons_succ, List.getElem_cons_zero, List.setIfInBounds_toArray, List.set_cons_succ, List.set_cons_zero]
    refine wpAny_ready (rs := [23]) (by kernel_rfl) (by simp) ?_
    refine AllReady.cons rfl (fun K hK => ?_) AllReady.nil
    go_simp
    refine hK _ _ ?_
    try simp only [Act.put, List.getElem_toArray, List.getElem_cons_succ, List.getElem_cons_zero, List.setIfInBounds_toArray, List.set_cons_succ, List.set_cons_zero]
    refine wpAny_take (i := 24) (v := (.bool true)) rfl (by kernel_rfl) (by kernel_rfl) (by kernel_rfl) (fun _ _ _ h => h) (Or.inl ⟨by rfl, fun w => by go_simp⟩) ?_
    simp only [Act.put, List.getElem_toArray, List.getElem_cons_succ, List.getElem_cons_zero, List.setIfInBounds_toArray, List.set_cons_succ, List.set_cons_zero]
    refine wpAny_done (by kernel_rfl) ?_ _
    go_wp2
    exact bodyPost_ret (v := .tuple #[rv B n cb (at_ + 1), .bool true]) (by simp [results, Try.results50, go_sem, y0, y1, hz6]) rfl ⟨rfl, did_fin2 H0.out HB.out D6.out _ _ (by omega)⟩

end Go.Proofs.Ytgngeachgkappaa
