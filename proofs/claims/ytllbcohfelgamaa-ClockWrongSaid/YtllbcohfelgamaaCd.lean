/- Walks: Behind, Ahead; one contract for Tick, for Until. -/
import Derived.Test.YtllbcohfelgamaaProg
import Derived.Test.YtllbcohfelgamaaCc
namespace Go.Proofs.Ytllbcohfelgamaa
open Go.RowKit
set_option linter.unusedVariables false

/-- All as it was but block G; there may be new blocks. -/
structure Keeps (G : Nat) (w w' : World) : Prop where
  os : w'.os = w.os
  tape : w'.tape = w.tape
  output : w'.output = w.output
  size : w.heap.size ≤ w'.heap.size
  block : ∀ k, k < w.heap.size → k ≠ G → w'.heap[k]? = w.heap[k]?
theorem Keeps.refl (G : Nat) (w : World) : Keeps G w w := ⟨rfl, rfl, rfl, Nat.le_refl _, fun _ _ _ => rfl⟩
theorem Keeps.trans {G : Nat} {a b c : World} (h : Keeps G a b) (k : Keeps G b c) : Keeps G a c :=
  ⟨k.os.trans h.os, k.tape.trans h.tape, k.output.trans h.output, Nat.le_trans h.size k.size, fun i hi hg => (k.block i (Nat.lt_of_lt_of_le hi h.size) hg).trans (h.block i hi hg)⟩
theorem Keeps.of_below {G : Nat} {w w' : World} (h : Below w.heap.size w w') : Keeps G w w' := ⟨h.os, h.tape, h.output, h.size, fun i hi _ => h.block i hi⟩
theorem Keeps.set (G k : Nat) (w : World) (v : Value) : Keeps G w (w.setCell ⟨G, k, none⟩ v) := ⟨rfl, rfl, rfl, by rw [setCell_size]; exact Nat.le_refl _, fun i hi hg => Below.heap_setCell _ _ _ _ hg⟩
theorem Keeps.below {G B : Nat} {w w' : World} (h : Keeps G w w') (hG : B ≤ G) (hB : B ≤ w.heap.size) : Below B w w' := ⟨h.os, h.tape, h.output, h.size, fun i hi => h.block i (by omega) (by omega)⟩
theorem Clk.keeps {w w' : World} {B p g c n G : Nat} {xs : List Int} (h : Clk w B p g c n xs) (hk : Keeps G w w') (h1 : p ≠ G) (h2 : g ≠ G) : Clk w' B p g c n xs := by
  refine ⟨h.ne, h.bp, by rw [hk.block p h.plt h1]; exact h.obj, ?_, h.pos⟩
  obtain ⟨r1, r2⟩ := h.row
  refine ⟨r1, ?_⟩
  rcases r2 with ⟨e, _⟩ | ⟨g', cap, cur, hv, hg, hh, rest⟩
  · cases e
  · cases hv
    exact .inr ⟨g, c, cur, rfl, hg, by rw [hk.block g (lt_of_heap hh) h2]; exact hh, rest⟩
theorem Sees.keeps {w w' : World} {G s n c b o : Nat} {xs : List Value} (h : Sees w s (some ⟨b, o, none⟩) n c xs) (hk : Keeps G w w') (h1 : b ≠ G) : Sees w' s (some ⟨b, o, none⟩) n c xs :=
  ⟨h.len, h.cap, h.capm, h.nil_, fun k u hu => by
    obtain ⟨b', o', hA, hc⟩ := h.look k u hu
    cases hA
    exact ⟨b, o, rfl, (World.cell?_of_block (a := ⟨b, o + k, none⟩) (hk.block b (World.block_lt_of_cell? _ _ hc) h1)).trans hc⟩⟩

/-- What Until does: the times after it, what is returned, the error. -/
def untilF (xs : List Int) (cpu t : Int) : List Int × Int × Int :=
  if cpu < 0 ∨ (xs.length : Int) ≤ cpu then (xs, 0, 290) else if t < 0 ∨ 281474976710656 < t then (xs, 0, 2) else if t < xs.getD cpu.toNat 0 then (xs, 0, 291) else (xs.set cpu.toNat t, t - xs.getD cpu.toNat 0, 0)
/-- What Tick does. -/
def tickF (xs : List Int) (cpu d : Int) : List Int × Int × Int :=
  if cpu < 0 ∨ (xs.length : Int) ≤ cpu then (xs, 0, 290) else if d < 0 then (xs, 0, 2) else if 281474976710656 - xs.getD cpu.toNat 0 < d then (xs, 0, 4) else (xs.set cpu.toNat (xs.getD cpu.toNat 0 + d), xs.getD cpu.toNat 0 + d, 0)

theorem untilF_ok {xs : List Int} (h : OkT xs) (cpu t : Int) : OkT (untilF xs cpu t).1 ∧ (untilF xs cpu t).1.length = xs.length := by
  unfold untilF
  split
  · exact ⟨h, rfl⟩
  · split
    · exact ⟨h, rfl⟩
    · split
      · exact ⟨h, rfl⟩
      · exact ⟨h.set _ (by omega), by simp⟩
theorem tickF_ok {xs : List Int} (h : OkT xs) (cpu d : Int) : OkT (tickF xs cpu d).1 ∧ (tickF xs cpu d).1.length = xs.length := by
  unfold tickF
  split
  · exact ⟨h, rfl⟩
  · rename_i hc
    split
    · exact ⟨h, rfl⟩
    · split
      · exact ⟨h, rfl⟩
      · have := h.at_ (k := cpu.toNat) (by omega)
        exact ⟨h.set _ (by omega), by simp⟩

theorem Until_any (B p g c n : Nat) (cpu t : Int) (xs : List Int) (w : World) (h : Clk w B p g c n xs) (hn : n ≤ 100000) (hok : OkT xs) :
    Calls Try.prog 17 #[.pointer (some ⟨p, 0, none⟩), .int .i64 cpu, .int .i64 t] w fun e w' => e = .returned (.tuple #[.int .i64 (untilF xs cpu t).2.1, .int .i64 (untilF xs cpu t).2.2]) ∧ Clk w' B p g c n (untilF xs cpu t).1 ∧ Keeps g w w' := by
  have hl := h.len
  unfold untilF
  by_cases h1 : cpu < 0 ∨ (xs.length : Int) ≤ cpu
  · rw [if_pos h1]
    refine (Until_cpu B p g c n cpu t xs w h (by omega)).mono ?_
    rintro e w' ⟨rfl, rfl⟩
    exact ⟨rfl, h, Keeps.refl _ _⟩
  · rw [if_neg h1]
    obtain ⟨k, rfl⟩ : ∃ k : Nat, cpu = (k : Int) := ⟨cpu.toNat, by omega⟩
    have hk : k < n := by omega
    have hx := hok.at_ (k := k) (by omega)
    rw [Int.toNat_natCast]
    by_cases h2 : t < 0 ∨ 281474976710656 < t
    · rw [if_pos h2]
      refine (Until_arg B p g c n k t xs w h hk hn h2).mono ?_
      rintro e w' ⟨rfl, rfl⟩
      exact ⟨rfl, h, Keeps.refl _ _⟩
    · rw [if_neg h2]
      by_cases h3 : t < xs.getD k 0
      · rw [if_pos h3]
        refine (Until_back B p g c n k t _ xs w h hk hn rfl (by omega)).mono ?_
        rintro e w' ⟨rfl, rfl⟩
        exact ⟨rfl, h, Keeps.refl _ _⟩
      · rw [if_neg h3]
        refine (Until_ok B p g c n k t _ xs w h hk hn rfl hx (by omega)).mono ?_
        rintro e w' ⟨rfl, rfl⟩
        exact ⟨rfl, h.set k t, Keeps.set _ _ _ _⟩

theorem Tick_any (B p g c n : Nat) (cpu d : Int) (xs : List Int) (w : World) (h : Clk w B p g c n xs) (hn : n ≤ 100000) (hok : OkT xs) :
    Calls Try.prog 14 #[.pointer (some ⟨p, 0, none⟩), .int .i64 cpu, .int .i64 d] w fun e w' => e = .returned (.tuple #[.int .i64 (tickF xs cpu d).2.1, .int .i64 (tickF xs cpu d).2.2]) ∧ Clk w' B p g c n (tickF xs cpu d).1 ∧ Keeps g w w' := by
  have hl := h.len
  unfold tickF
  by_cases h1 : cpu < 0 ∨ (xs.length : Int) ≤ cpu
  · rw [if_pos h1]
    refine (Tick_cpu B p g c n cpu d xs w h (by omega)).mono ?_
    rintro e w' ⟨rfl, rfl⟩
    exact ⟨rfl, h, Keeps.refl _ _⟩
  · rw [if_neg h1]
    obtain ⟨k, rfl⟩ : ∃ k : Nat, cpu = (k : Int) := ⟨cpu.toNat, by omega⟩
    have hk : k < n := by omega
    have hx := hok.at_ (k := k) (by omega)
    rw [Int.toNat_natCast]
    by_cases h2 : d < 0
    · rw [if_pos h2]
      refine (Tick_neg B p g c n k d xs w h hk hn h2).mono ?_
      rintro e w' ⟨rfl, rfl⟩
      exact ⟨rfl, h, Keeps.refl _ _⟩
    · rw [if_neg h2]
      by_cases h3 : 281474976710656 - xs.getD k 0 < d
      · rw [if_pos h3]
        refine (Tick_full B p g c n k d _ xs w h hk hn rfl hx h3).mono ?_
        rintro e w' ⟨rfl, rfl⟩
        exact ⟨rfl, h, Keeps.refl _ _⟩
      · rw [if_neg h3]
        refine (Tick_ok B p g c n k d _ xs w h hk hn rfl hx (by omega)).mono ?_
        rintro e w' ⟨rfl, rfl⟩
        exact ⟨rfl, h.set k _, Keeps.set _ _ _ _⟩

/-- b is the first place of a least (greatest) one among the first k. -/
def MinAt (xs : List Int) (k b : Nat) : Prop := (∀ i, i < k → xs.getD b 0 ≤ xs.getD i 0) ∧ (∀ i, i < b → xs.getD b 0 < xs.getD i 0)
def MaxAt (xs : List Int) (k b : Nat) : Prop := (∀ i, i < k → xs.getD i 0 ≤ xs.getD b 0) ∧ (∀ i, i < b → xs.getD i 0 < xs.getD b 0)
theorem MinAt.keep {xs : List Int} {k b : Nat} (h : MinAt xs k b) (hx : ¬ xs.getD k 0 < xs.getD b 0) : MinAt xs (k + 1) b :=
  ⟨fun i hi => by
    rcases Nat.lt_or_ge i k with h' | h'
    · exact h.1 i h'
    · obtain rfl : i = k := by omega
      omega, h.2⟩
theorem MinAt.new {xs : List Int} {k b : Nat} (h : MinAt xs k b) (hx : xs.getD k 0 < xs.getD b 0) : MinAt xs (k + 1) k :=
  ⟨fun i hi => by
    rcases Nat.lt_or_ge i k with h' | h'
    · have := h.1 i h'; omega
    · obtain rfl : i = k := by omega
      omega, fun i hi => by have := h.1 i hi; omega⟩
theorem MaxAt.keep {xs : List Int} {k b : Nat} (h : MaxAt xs k b) (hx : ¬ xs.getD b 0 < xs.getD k 0) : MaxAt xs (k + 1) b :=
  ⟨fun i hi => by
    rcases Nat.lt_or_ge i k with h' | h'
    · exact h.1 i h'
    · obtain rfl : i = k := by omega
      omega, h.2⟩
theorem MaxAt.new {xs : List Int} {k b : Nat} (h : MaxAt xs k b) (hx : xs.getD b 0 < xs.getD k 0) : MaxAt xs (k + 1) k :=
  ⟨fun i hi => by
    rcases Nat.lt_or_ge i k with h' | h'
    · have := h.1 i h'; omega
    · obtain rfl : i = k := by omega
      omega, fun i hi => by have := h.1 i hi; omega⟩

set_option maxRecDepth 20000 in
theorem less_any (a b : Int) (w : World) : Calls Try.prog 31 #[.int .i64 a, .int .i64 b] w fun e w' => e = .returned (.bool (decide (a < b))) ∧ w = w' := by
  go_enter Try.func31, Try.ntmps31
  go_wp2
  go_ret
  exact ⟨rfl, rfl⟩
set_option maxRecDepth 20000 in
theorem more_any (a b : Int) (w : World) : Calls Try.prog 32 #[.int .i64 a, .int .i64 b] w fun e w' => e = .returned (.bool (decide (b < a))) ∧ w = w' := by
  go_enter Try.func32, Try.ntmps32
  go_wp2
  go_ret
  exact ⟨rfl, rfl⟩

set_option maxRecDepth 20000 in
set_option maxHeartbeats 800000 in
theorem firstBehind_any (B p g c n : Nat) (xs : List Int) (w : World) (h : Clk w B p g c n xs) (hn : n ≤ 100000) :
    Calls Try.prog 30 #[.pointer (some ⟨p, 0, none⟩), .func (.func 31) #[] #[]] w fun e w' => ∃ b : Nat, e = .returned (.tuple #[.int .i64 (b : Int), .int .i64 (xs.getD b 0)]) ∧ b < n ∧ MinAt xs n b ∧ Below w.heap.size w w' := by
  have h1 := h.times
  have HC := Lib.hid h
  have hn2 : (n : Int) ≤ 100000 := by omega
  have HP : Hid (0 < n) := Lib.hid h.pos
  clear h hn
  go_enter Try.func30, Try.ntmps30
  go_wp2_with (go_at_call 28; refine (is_any _ _ _ _ _ _ _ HC.out).mono ?_; rintro e w1 ⟨rfl, rfl⟩)
  go_loopw [6, 17] (fun bv i wr => ∃ k b : Nat, Hid (k ≤ n ∧ b < n) ∧ i = .int .i64 (k : Int) ∧ bv = .int .i64 (b : Int) ∧ Hid (MinAt xs k b) ∧ w = wr) (fun _ i _ => n - (intOf i).toNat)
  case atStart => exact ⟨0, 0, Lib.hid ⟨Nat.zero_le _, HP.out⟩, rfl, rfl, Lib.hid ⟨fun i hi => by omega, fun i hi => by omega⟩, rfl⟩
  case round =>
    obtain ⟨k, b, HK, rfl, rfl, HM, rfl⟩ := hrel
    have g2 := HC.out.at_ HK.out.2
    have hb2 : (b : Int) < (n : Int) := by have := HK.out; omega
    have hb3 : decide ((b : Int) < (n : Int)) = true := by simp; omega
    by_cases hlt : k < n
    · have g1 := HC.out.at_ hlt
      obtain ⟨y, hy⟩ : ∃ y, xs.getD k 0 = y := ⟨_, rfl⟩
      obtain ⟨z, hz⟩ : ∃ z, xs.getD b 0 = z := ⟨_, rfl⟩
      rw [hy] at g1
      rw [hz] at g2
      have HYZ := Lib.hid (And.intro hy hz)
      have d3 : decide ((k : Int) < (n : Int)) = true := by simp; omega
      have hk2 : (k : Int) ≤ 99999 := by omega
      have HL := Lib.hid hlt
      clear hlt hy hz
      by_cases hyz : y < z
      · have HD := Lib.hid (decide_eq_true hyz)
        have HYZ2 := Lib.hid hyz
        clear hyz
        go_wp2_with (go_at_call 31; refine (less_any _ _ _).mono ?_; rw [HD.out]; rintro e w1 ⟨rfl, rfl⟩)
        go_roundw
        case rel => exact ⟨k + 1, k, Lib.hid ⟨HL.out, HL.out⟩, by go_num, rfl, Lib.hid (HM.out.new (by rw [HYZ.out.1, HYZ.out.2]; have := HYZ2.out; omega)), trivial⟩
        case measure => have := HL.out; simp [intOf]; omega
      · have HD := Lib.hid (decide_eq_false hyz)
        have HYZ2 := Lib.hid hyz
        clear hyz
        go_wp2_with (go_at_call 31; refine (less_any _ _ _).mono ?_; rw [HD.out]; rintro e w1 ⟨rfl, rfl⟩)
        go_roundw
        case rel => exact ⟨k + 1, b, Lib.hid ⟨HL.out, HK.out.2⟩, by go_num, rfl, Lib.hid (HM.out.keep (by rw [HYZ.out.1, HYZ.out.2]; have := HYZ2.out; omega)), trivial⟩
        case measure => have := HL.out; simp [intOf]; omega
    · have hkn : k = n := by have := HK.out; omega
      have d3 : decide ((k : Int) < (n : Int)) = false := by simp; omega
      have d3' : decide (k < n) = false := by simp; omega
      have HKN := Lib.hid hkn
      obtain ⟨z, hz⟩ : ∃ z, xs.getD b 0 = z := ⟨_, rfl⟩
      rw [hz] at g2
      have HZ := Lib.hid hz
      clear hlt hkn hz
      go_wp2_with fail
      go_quiet (fail)
      go_wp2
      go_ret2
      exact ⟨b, by rw [HZ.out]; rfl, HK.out.2, by rw [← HKN.out]; exact HM.out, below_drewN (Below.refl _ _) _⟩

set_option maxRecDepth 20000 in
theorem Behind_any (B p g c n : Nat) (xs : List Int) (w : World) (h : Clk w B p g c n xs) (hn : n ≤ 100000) :
    Calls Try.prog 19 #[.pointer (some ⟨p, 0, none⟩)] w fun e w' => ∃ b : Nat, e = .returned (.tuple #[.int .i64 (b : Int), .int .i64 (xs.getD b 0)]) ∧ b < n ∧ MinAt xs n b ∧ Below w.heap.size w w' := by
  have HC := Lib.hid h
  have HN := Lib.hid hn
  clear h hn
  go_enter Try.func19, Try.ntmps19
  go_wp2_with (go_at_call 30; refine (firstBehind_any _ _ _ _ _ xs _ HC.out HN.out).mono ?_; rintro e w1 ⟨b, rfl, h1, h2, h3⟩; have HH := Lib.hid (And.intro h1 h2); clear h1 h2)
  go_ret2
  exact ⟨b, rfl, HH.out.1, HH.out.2, h3⟩
set_option maxRecDepth 20000 in
set_option maxHeartbeats 800000 in
theorem firstAhead_any (B p g c n : Nat) (xs : List Int) (w : World) (h : Clk w B p g c n xs) (hn : n ≤ 100000) :
    Calls Try.prog 30 #[.pointer (some ⟨p, 0, none⟩), .func (.func 32) #[] #[]] w fun e w' => ∃ b : Nat, e = .returned (.tuple #[.int .i64 (b : Int), .int .i64 (xs.getD b 0)]) ∧ b < n ∧ MaxAt xs n b ∧ Below w.heap.size w w' := by
  have h1 := h.times
  have HC := Lib.hid h
  have hn2 : (n : Int) ≤ 100000 := by omega
  have HP : Hid (0 < n) := Lib.hid h.pos
  clear h hn
  go_enter Try.func30, Try.ntmps30
  go_wp2_with (go_at_call 28; refine (is_any _ _ _ _ _ _ _ HC.out).mono ?_; rintro e w1 ⟨rfl, rfl⟩)
  go_loopw [6, 17] (fun bv i wr => ∃ k b : Nat, Hid (k ≤ n ∧ b < n) ∧ i = .int .i64 (k : Int) ∧ bv = .int .i64 (b : Int) ∧ Hid (MaxAt xs k b) ∧ w = wr) (fun _ i _ => n - (intOf i).toNat)
  case atStart => exact ⟨0, 0, Lib.hid ⟨Nat.zero_le _, HP.out⟩, rfl, rfl, Lib.hid ⟨fun i hi => by omega, fun i hi => by omega⟩, rfl⟩
  case round =>
    obtain ⟨k, b, HK, rfl, rfl, HM, rfl⟩ := hrel
    have g2 := HC.out.at_ HK.out.2
    have hb2 : (b : Int) < (n : Int) := by have := HK.out; omega
    have hb3 : decide ((b : Int) < (n : Int)) = true := by simp; omega
    by_cases hlt : k < n
    · have g1 := HC.out.at_ hlt
      obtain ⟨y, hy⟩ : ∃ y, xs.getD k 0 = y := ⟨_, rfl⟩
      obtain ⟨z, hz⟩ : ∃ z, xs.getD b 0 = z := ⟨_, rfl⟩
      rw [hy] at g1
      rw [hz] at g2
      have HYZ := Lib.hid (And.intro hy hz)
      have d3 : decide ((k : Int) < (n : Int)) = true := by simp; omega
      have hk2 : (k : Int) ≤ 99999 := by omega
      have HL := Lib.hid hlt
      clear hlt hy hz
      by_cases hyz : z < y
      · have HD := Lib.hid (decide_eq_true hyz)
        have HYZ2 := Lib.hid hyz
        clear hyz
        go_wp2_with (go_at_call 32; refine (more_any _ _ _).mono ?_; rw [HD.out]; rintro e w1 ⟨rfl, rfl⟩)
        go_roundw
        case rel => exact ⟨k + 1, k, Lib.hid ⟨HL.out, HL.out⟩, by go_num, rfl, Lib.hid (HM.out.new (by rw [HYZ.out.1, HYZ.out.2]; have := HYZ2.out; omega)), trivial⟩
        case measure => have := HL.out; simp [intOf]; omega
      · have HD := Lib.hid (decide_eq_false hyz)
        have HYZ2 := Lib.hid hyz
        clear hyz
        go_wp2_with (go_at_call 32; refine (more_any _ _ _).mono ?_; rw [HD.out]; rintro e w1 ⟨rfl, rfl⟩)
        go_roundw
        case rel => exact ⟨k + 1, b, Lib.hid ⟨HL.out, HK.out.2⟩, by go_num, rfl, Lib.hid (HM.out.keep (by rw [HYZ.out.1, HYZ.out.2]; have := HYZ2.out; omega)), trivial⟩
        case measure => have := HL.out; simp [intOf]; omega
    · have hkn : k = n := by have := HK.out; omega
      have d3 : decide ((k : Int) < (n : Int)) = false := by simp; omega
      have d3' : decide (k < n) = false := by simp; omega
      have HKN := Lib.hid hkn
      obtain ⟨z, hz⟩ : ∃ z, xs.getD b 0 = z := ⟨_, rfl⟩
      rw [hz] at g2
      have HZ := Lib.hid hz
      clear hlt hkn hz
      go_wp2_with fail
      go_quiet (fail)
      go_wp2
      go_ret2
      exact ⟨b, by rw [HZ.out]; rfl, HK.out.2, by rw [← HKN.out]; exact HM.out, below_drewN (Below.refl _ _) _⟩

set_option maxRecDepth 20000 in
theorem Ahead_any (B p g c n : Nat) (xs : List Int) (w : World) (h : Clk w B p g c n xs) (hn : n ≤ 100000) :
    Calls Try.prog 20 #[.pointer (some ⟨p, 0, none⟩)] w fun e w' => ∃ b : Nat, e = .returned (.tuple #[.int .i64 (b : Int), .int .i64 (xs.getD b 0)]) ∧ b < n ∧ MaxAt xs n b ∧ Below w.heap.size w w' := by
  have HC := Lib.hid h
  have HN := Lib.hid hn
  clear h hn
  go_enter Try.func20, Try.ntmps20
  go_wp2_with (go_at_call 30; refine (firstAhead_any _ _ _ _ _ xs _ HC.out HN.out).mono ?_; rintro e w1 ⟨b, rfl, h1, h2, h3⟩; have HH := Lib.hid (And.intro h1 h2); clear h1 h2)
  go_ret2
  exact ⟨b, rfl, HH.out.1, HH.out.2, h3⟩
end Go.Proofs.Ytllbcohfelgamaa
