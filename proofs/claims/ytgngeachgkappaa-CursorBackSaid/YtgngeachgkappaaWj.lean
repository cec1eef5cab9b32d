/- Walks: the law's awake. -/
import Derived.Test.YtgngeachgkappaaProg
import Derived.Test.YtgngeachgkappaaWi
import Derived.Test.YtgngeachgkappaaSb8
namespace Go.Proofs.Ytgngeachgkappaa
open Go.RowKit
set_option linter.unusedVariables false

theorem ex6_bytes : Bytes [1, 172, 2, 7, 0, 9] := by intro x hx; simp at hx; omega
theorem BytesW_ok1 (base p n c lim : Nat) (x : Int) (A : Option Addr) (bs : List Int) (w : World) (h : Wtr w base p A n c bs lim) (hm : n + 1 ≤ lim) (hB : base ≤ w.heap.size) {m : Nat} {ys : List Int} (hm2 : n + 1 = m) (hy : bs ++ [x] = ys) :
    Calls Try.prog 27 #[.pointer (some ⟨p, 0, none⟩), .int .u8 x] w fun e w' => ∃ A' c', e = .returned (.int .i64 0) ∧ Wtr w' base p A' m c' ys lim ∧ Below base w w' := by
  subst hm2 hy
  exact (ByteW_ok base p n c lim x A bs w h hm hB).mono fun e w' ⟨A', c', he, h2, k2, _⟩ => ⟨A', c', he, h2, h.both k2 hB⟩
theorem NumberW_okB (base p n c lim x : Nat) (A : Option Addr) (bs : List Int) (w : World) (h : Wtr w base p A n c bs lim) (hx : x < 18446744073709551616) (hm : n + (enc x).length ≤ lim) (hB : base ≤ w.heap.size) {X : Int} (hX : X = (x : Int)) {m : Nat} {ys : List Int} (hm2 : n + (enc x).length = m) (hy : bs ++ enc x = ys) :
    Calls Try.prog 34 #[.pointer (some ⟨p, 0, none⟩), .int .u64 X] w fun e w' => ∃ A' c', e = .returned (.int .i64 0) ∧ Wtr w' base p A' m c' ys lim ∧ Below base w w' := by
  subst hm2 hy hX
  exact (NumberW_ok base p n c lim x A bs w h hx hm hB).mono fun e w' ⟨A', c', he, h2, k2, _⟩ => ⟨A', c', he, h2, h.both k2 hB⟩
/-- A reader's place after a step, all else behind 'Below'. -/
theorem Did.below {p n c q B : Nat} {A : Option Addr} {bs : List Int} {w w' : World} (h : Did p n c q A bs w w') (hp : B ≤ p) (hB : B ≤ w.heap.size) : Below B w w' := h.2.below hp hB

theorem Fixed_lit {K : Int} (k : Nat) (hK : K = (k : Int)) (p n c at_ : Nat) (A : Option Addr) (bs : List Int) (w : World) (h : Rdr w p A n c bs at_) (hb : Bytes bs) (hn : n ≤ 100000000) (h1 : 1 ≤ k) (h8 : k ≤ 8) (hk : at_ + k ≤ n) :
    Calls Try.prog 28 #[.pointer (some ⟨p, 0, none⟩), .int .i64 K] w fun e w' => e = .returned (.tuple #[.int .u64 (le ((bs.drop at_).take k)), .int .i64 0]) ∧ Did p n c (at_ + k) A bs w w' := by
  subst hK; exact Fixed_ok p n c at_ k A bs w h hb hn h1 h8 hk
theorem NewWriter_lit {K : Int} (N : Nat) (hK : K = (N : Int)) (w : World) (h : N ≤ 16777216) :
    Calls Try.prog 12 #[.int .i64 K] w fun e w' => ∃ p, e = .returned (.tuple #[.pointer (some ⟨p, 0, none⟩), .int .i64 0]) ∧ Wtr w' w.heap.size p none 0 0 [] N ∧ Below w.heap.size w w' := by
  subst hK; exact NewWriter_ok N w h
theorem FixedW_bigl {X K : Int} (base p n c lim k x : Nat) (hX : X = (x : Int)) (hK : K = (k : Int)) (A : Option Addr) (bs : List Int) (w : World) (h : Wtr w base p A n c bs lim) (h1 : 1 ≤ k) (h8 : k < 8) (hx : 256 ^ k ≤ x) (hx2 : x < 18446744073709551616) :
    Calls Try.prog 25 #[.pointer (some ⟨p, 0, none⟩), .int .u64 X, .int .i64 K] w fun e w' => e = .returned (.int .i64 2) ∧ w = w' := by
  subst hX hK; exact FixedW_big base p n c lim k x A bs w h h1 h8 hx hx2

set_option maxRecDepth 20000 in
set_option maxHeartbeats 1600000 in
theorem awake_any (w : World) : Calls Try.prog 11 #[] w fun e w' => e = .returned (.bool true) ∧ Below w.heap.size w w' := by
  go_enter Try.func11, Try.ntmps11
  go_wp2_with (first
    | (go_at_call 25; refine ((FixedW_bigl _ _ _ _ _ 1 256 (by rfl) (by rfl) _ _ _ h15.out (by decide) (by decide) (by decide) (by decide))).mono ?_; rintro e w16 ⟨rfl, rfl⟩)
    | (go_at_call 30; refine (SameBytes_any _ _ _ _ _ _ [172, 2, 5] [172, 2, 5] _ (by exact o14.out.below ((Below.refl _ _).alloc (Nat.le_refl _) _) (Nat.le_refl _)) (by exact sees_block (heap_alloc_new _ _) rfl (by decide) (by decide) ⟨[], rfl⟩)).mono ?_; rw [eqL_self]; rintro e w15 ⟨rfl, k15⟩; have b15 := below_step (b14.alloc b14.size (.cells #[.int .u8 172, .int .u8 2, .int .u8 5] 5)) k15; have h15 := Lib.hid (h14.out.below (below_step ((Below.refl _ _).alloc (Nat.le_refl _) _) k15)))
    | (go_at_call 15; refine (OutW_any _ _ _ _ _ _ _ _ h13.out).mono ?_; rintro e w14 ⟨A14, c14, rfl, o14, k14⟩; have o14 := Lib.hid (sees_own o14); have b14 := below_step b13 k14; have h14 := Lib.hid (h13.out.below k14))
    | (go_at_call 27; refine (ByteW_full _ _ _ _ _ _ _ _ _ h12.out (by decide)).mono ?_; rintro e w13 ⟨rfl, k13⟩; have b13 := below_step b12 k13; have h13 := Lib.hid (h12.out.below k13))
    | (go_at_call 27; refine (BytesW_ok1 _ _ _ _ _ _ _ _ _ h11.out (by decide) s11 (m := 3) (ys := [172, 2, 5]) rfl rfl).mono ?_; rintro e w12 ⟨A12, c12, rfl, h12, k12⟩; have h12 := Lib.hid h12; have b12 := b11.trans (k12.mono b9.size))
    | (go_at_call 34; refine (NumberW_okB _ _ _ _ _ 300 _ _ _ h10.out (by decide) (by decide) s10 (by rfl) (m := 2) (ys := [172, 2]) (by decide) (by decide)).mono ?_; rintro e w11 ⟨A11, c11, rfl, h11, k11⟩; have h11 := Lib.hid h11; have s11 := Nat.le_trans s10 k11.size; have b11 := b10.trans (k11.mono b9.size))
    | (go_at_call 12; refine (NewWriter_lit 3 (by rfl) _ (by decide)).mono ?_; rintro e w10 ⟨p10, rfl, h10, k10⟩; have h10 := Lib.hid h10; have s10 := k10.size; have b10 := below_step b9 k10)
    | (go_at_call 20; refine (End_any _ _ _ _ _ _ _ h8.out (by decide)).mono ?_; rintro e w9 ⟨rfl, k9⟩; have b9 := below_step b8 k9)
    | (go_at_call 24; refine (Byte_end _ _ _ _ _ _ _ h7.out (by decide) (by decide)).mono ?_; rintro e w8 ⟨rfl, h8⟩; have b8 := b7.trans (h8.below hp b7.size); have h8 : Hid (Rdr w8 p A1 6 c1 [1, 172, 2, 7, 0, 9] 6) := Lib.hid h8.1)
    | (go_at_call 24; refine (Byte_ok _ _ _ _ _ _ _ h6.out (by decide) (by decide)).mono ?_; rw [show ([1, 172, 2, 7, 0, 9] : List Int).getD 5 0 = 9 from rfl]; rintro e w7 ⟨rfl, h7⟩; have b7 := b6.trans (h7.below hp b6.size); have h7 : Hid (Rdr w7 p A1 6 c1 [1, 172, 2, 7, 0, 9] 6) := Lib.hid h7.1)
    | (go_at_call 32; refine (Count_in _ _ _ _ 6 10 1 9 _ _ _ h5.out (by decide) (by decide) (by decide) (by decide) (by decide) (by decide) (by decide) (fun w1 h1 => Number_ok _ _ _ _ 10 9 1 0 _ _ w1 h1 ex6_bytes (by decide) (by decide) rfl (by decide))).mono ?_; rintro e w6 h6; rcases h6 with ⟨_, rfl, h6⟩ | ⟨hbad, _⟩; rotate_left; exact absurd hbad (by decide); have b6 := b5.trans (h6.below hp b5.size); have h6 : Hid (Rdr w6 p A1 6 c1 [1, 172, 2, 7, 0, 9] 5) := Lib.hid h6.1)
    | (go_at_call 28; refine (Fixed_lit 2 (by rfl) _ _ _ _ _ _ _ h4.out ex6_bytes (by decide) (by decide) (by decide) (by decide)).mono ?_; rw [show le (([1, 172, 2, 7, 0, 9] : List Int).drop 3 |>.take 2) = 7 from rfl]; rintro e w5 ⟨rfl, h5⟩; have b5 := b4.trans (h5.below hp b4.size); have h5 : Hid (Rdr w5 p A1 6 c1 [1, 172, 2, 7, 0, 9] 5) := Lib.hid h5.1)
    | (go_at_call 23; refine (Number_ok _ _ _ _ 300 300 2 0 _ _ _ h3.out ex6_bytes (by decide) (by decide) rfl (by decide)).mono ?_; rintro e w4 ⟨rfl, h4⟩; have b4 := b3.trans (h4.below hp b3.size); have h4 : Hid (Rdr w4 p A1 6 c1 [1, 172, 2, 7, 0, 9] 3) := Lib.hid h4.1)
    | (go_at_call 23; refine (Number_most _ _ _ _ 299 300 2 0 _ _ _ h2.out ex6_bytes (by decide) (by decide) rfl (by decide)).mono ?_; rintro e w3 ⟨rfl, h3⟩; have b3 := b2.trans (h3.below hp b2.size); have h3 : Hid (Rdr w3 p A1 6 c1 [1, 172, 2, 7, 0, 9] 1) := Lib.hid h3.1)
    | (go_at_call 24; refine (Byte_ok _ _ _ _ _ _ _ h1.out (by decide) (by decide)).mono ?_; rw [show ([1, 172, 2, 7, 0, 9] : List Int).getD 0 0 = 1 from rfl]; rintro e w2 ⟨rfl, h2⟩; have b2 := b1.trans (h2.below hp b1.size); have h2 : Hid (Rdr w2 p A1 6 c1 [1, 172, 2, 7, 0, 9] 1) := Lib.hid h2.1)
    | (go_at_call 16; refine (NewReader_any _ _ _ [1, 172, 2, 7, 0, 9] _ (by exact sees_block (heap_alloc_new _ _) rfl (by decide) (by decide) ⟨[], rfl⟩) (by decide)).mono ?_; rintro e w1 ⟨p, A1, c1, rfl, h1, hp0, k1⟩; have h1 := Lib.hid h1; have hp : w.heap.size ≤ p := (by simp at hp0; omega); have b1 := below_step ((Below.refl w.heap.size w).alloc (Nat.le_refl _) (.cells #[.int .u8 1, .int .u8 172, .int .u8 2, .int .u8 7, .int .u8 0, .int .u8 9] 5)) k1))
  go_ret
  exact ⟨rfl, b15⟩
end Go.Proofs.Ytgngeachgkappaa
