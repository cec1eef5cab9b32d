/- Walks: readers, on. -/
import Derived.Test.YtgngeachgkappaaProg
import Derived.Test.YtgngeachgkappaaWb
import Derived.StillTailTactics
namespace Go.Proofs.Ytgngeachgkappaa
open Go.RowKit
set_option linter.unusedVariables false

set_option maxRecDepth 20000 in
theorem At_any (p n c at_ : Nat) (A : Option Addr) (bs : List Int) (w : World) (h : Rdr w p A n c bs at_) :
    Calls Try.prog 18 #[.pointer (some ⟨p, 0, none⟩)] w fun e w' => e = .returned (.int .i64 (at_ : Int)) ∧ Below w.heap.size w w' := by
  have h1 := h.c1
  have HR := Lib.hid h
  clear h
  go_enter Try.func18, Try.ntmps18
  go_wp2_with (go_at_call 39; refine (isR_any _ _ _ _ _ _ _ HR.out).mono ?_; rintro e w1 ⟨rfl, rfl⟩)
  go_ret
  exact ⟨rfl, Below.refl _ _⟩

set_option maxRecDepth 20000 in
theorem Left_any (p n c at_ : Nat) (A : Option Addr) (bs : List Int) (w : World) (h : Rdr w p A n c bs at_) (hn : n ≤ 100000000) :
    Calls Try.prog 19 #[.pointer (some ⟨p, 0, none⟩)] w fun e w' => e = .returned (.int .i64 ((n - at_ : Nat) : Int)) ∧ Below w.heap.size w w' := by
  have HR := Lib.hid h
  have HN := Lib.hid hn
  clear h hn
  go_enter Try.func19, Try.ntmps19
  go_wp2_with (first | (go_at_call 39; refine (isR_any _ _ _ _ _ _ _ HR.out).mono ?_; rintro e w1 ⟨rfl, rfl⟩) | (go_at_call 40; refine (roomR_any _ _ _ _ _ _ _ HR.out HN.out).mono ?_; rintro e w1 ⟨rfl, b1⟩; have HB := Lib.hid b1; clear b1))
  go_ret
  exact ⟨rfl, HB.out⟩

set_option maxRecDepth 20000 in
theorem End_any (p n c at_ : Nat) (A : Option Addr) (bs : List Int) (w : World) (h : Rdr w p A n c bs at_) (hn : n ≤ 100000000) :
    Calls Try.prog 20 #[.pointer (some ⟨p, 0, none⟩)] w fun e w' => e = .returned (.int .i64 (if at_ < n then 22 else 0)) ∧ Below w.heap.size w w' := by
  have HR := Lib.hid h
  have HN := Lib.hid hn
  by_cases hlt : at_ < n
  · have d1 : decide ((0 : Int) < ((n - at_ : Nat) : Int)) = true := by simp; omega
    have HL := Lib.hid hlt
    clear h hn hlt
    go_enter Try.func20, Try.ntmps20
    go_wp2_with (first | (go_at_call 39; refine (isR_any _ _ _ _ _ _ _ HR.out).mono ?_; rintro e w1 ⟨rfl, rfl⟩) | (go_at_call 40; refine (roomR_any _ _ _ _ _ _ _ HR.out HN.out).mono ?_; rintro e w1 ⟨rfl, b1⟩; have HB := Lib.hid b1; clear b1))
    go_ret
    exact ⟨rfl, HB.out⟩
  · have d1 : decide ((0 : Int) < ((n - at_ : Nat) : Int)) = false := by simp; omega
    have HL := Lib.hid hlt
    clear h hn hlt
    go_enter Try.func20, Try.ntmps20
    go_wp2_with (first | (go_at_call 39; refine (isR_any _ _ _ _ _ _ _ HR.out).mono ?_; rintro e w1 ⟨rfl, rfl⟩) | (go_at_call 40; refine (roomR_any _ _ _ _ _ _ _ HR.out HN.out).mono ?_; rintro e w1 ⟨rfl, b1⟩; have HB := Lib.hid b1; clear b1))
    go_ret
    exact ⟨rfl, HB.out⟩

/-- What a call of a reader leaves: nothing but its own place is other. -/
abbrev Did (p n c at_ : Nat) (A : Option Addr) (bs : List Int) (w w' : World) : Prop := Rdr w' p A n c bs at_ ∧ Keeps p w w'

theorem one_row (bs : List Int) (k : Nat) (h : k < bs.length) : (bs.drop k).take 1 = [bs.getD k 0] := by
  rw [List.drop_eq_getElem_cons h, List.take_succ_cons, List.take_zero]; simp [List.getD, h]
theorem own_cell0 {w : World} {base e c n : Nat} {A : Option Addr} {x : Int} (h : w.ownsRow base e 1 (.slice A n c) n [Value.int .u8 x]) : ∃ b o, A = some ⟨b, o, none⟩ ∧ w.cell? ⟨b, o, none⟩ = some (.int .u8 x) := by
  obtain ⟨b, o, hA, hc⟩ := (sees_own h).look 0 (.int .u8 x) rfl
  exact ⟨b, o, hA, hc⟩

set_option maxRecDepth 20000 in
set_option maxHeartbeats 800000 in
theorem Byte_ok (p n c at_ : Nat) (A : Option Addr) (bs : List Int) (w : World) (h : Rdr w p A n c bs at_) (hn : n ≤ 100000000) (hk : at_ < n) :
    Calls Try.prog 24 #[.pointer (some ⟨p, 0, none⟩)] w fun e w' => e = .returned (.tuple #[.int .u8 (bs.getD at_ 0), .int .i64 0]) ∧ Did p n c (at_ + 1) A bs w w' := by
  have hmf : ∀ (fn : Fn) (first cap : Array Value) (w : World), (Instr.makeFunc fn first cap).run Try.prog w = .ok (.func fn first cap) w := fun _ _ _ _ => rfl
  have HR := Lib.hid h
  have HN := Lib.hid hn
  have HK := Lib.hid hk
  clear h hn hk
  go_enter Try.func24, Try.ntmps24
  go_wp2_with (first | (go_at_call 39; refine (isR_any _ _ _ _ _ _ _ HR.out).mono ?_; rintro e w1 ⟨rfl, rfl⟩) | (go_at_call 49; refine (take_ok p n c at_ 1 A bs w HR.out HN.out HK.out).mono ?_; rintro e w1 ⟨A1, c1, rfl, o1, hr, hk⟩; rw [one_row _ _ (by rw [HR.out.len]; exact HK.out)] at o1; obtain ⟨b, o, rfl, hc⟩ := own_cell0 o1; have HD := Lib.hid (And.intro hr hk); clear o1 hr hk))
  go_ret2
  exact ⟨rfl, HD.out⟩

set_option maxRecDepth 20000 in
theorem Byte_end (p n c at_ : Nat) (A : Option Addr) (bs : List Int) (w : World) (h : Rdr w p A n c bs at_) (hn : n ≤ 100000000) (hk : n ≤ at_) :
    Calls Try.prog 24 #[.pointer (some ⟨p, 0, none⟩)] w fun e w' => e = .returned (.tuple #[.int .u8 0, .int .i64 20]) ∧ Did p n c at_ A bs w w' := by
  have hmf : ∀ (fn : Fn) (first cap : Array Value) (w : World), (Instr.makeFunc fn first cap).run Try.prog w = .ok (.func fn first cap) w := fun _ _ _ _ => rfl
  have HR := Lib.hid h
  have HN := Lib.hid hn
  have HK := Lib.hid hk
  clear h hn hk
  go_enter Try.func24, Try.ntmps24
  go_wp2_with (first | (go_at_call 39; refine (isR_any _ _ _ _ _ _ _ HR.out).mono ?_; rintro e w1 ⟨rfl, rfl⟩) | (go_at_call 49; refine (take_end p n c at_ 1 A bs w HR.out HN.out (by have := HK.out; omega)).mono ?_; rintro e w1 ⟨rfl, b1⟩; have HB := Lib.hid b1; clear b1))
  go_ret2
  exact ⟨rfl, HR.out.below HB.out, Keeps.of_below HB.out⟩

set_option maxRecDepth 20000 in
theorem Bytes_ok (p n c at_ k : Nat) (A : Option Addr) (bs : List Int) (w : World) (h : Rdr w p A n c bs at_) (hn : n ≤ 100000000) (hk : at_ + k ≤ n) :
    Calls Try.prog 29 #[.pointer (some ⟨p, 0, none⟩), .int .i64 (k : Int)] w fun e w' => ∃ A' c', e = .returned (.tuple #[.slice A' k c', .int .i64 0]) ∧ w'.ownsRow w.heap.size 5 1 (.slice A' k c') k (((bs.drop at_).take k).map (Value.int .u8)) ∧ Did p n c (at_ + k) A bs w w' := by
  have HR := Lib.hid h
  have HN := Lib.hid hn
  have HK := Lib.hid hk
  have d1 : decide ((k : Int) < 0) = false := by simp
  clear h hn hk
  go_enter Try.func29, Try.ntmps29
  go_wp2_with (first | (go_at_call 39; refine (isR_any _ _ _ _ _ _ _ HR.out).mono ?_; rintro e w1 ⟨rfl, rfl⟩) | (go_at_call 49; refine (take_ok p n c at_ k A bs w HR.out HN.out HK.out).mono ?_; rintro e w1 ⟨A1, c1, rfl, o1, hr, hk⟩; have HD := Lib.hid (And.intro o1 (And.intro hr hk)); clear o1 hr hk))
  go_ret2
  exact ⟨A1, c1, rfl, HD.out.1, HD.out.2⟩

set_option maxRecDepth 20000 in
theorem Bytes_end (p n c at_ : Nat) (k : Int) (A : Option Addr) (bs : List Int) (w : World) (h : Rdr w p A n c bs at_) (hn : n ≤ 100000000) (h0 : 0 ≤ k) (hk : (n : Int) < (at_ : Int) + k) :
    Calls Try.prog 29 #[.pointer (some ⟨p, 0, none⟩), .int .i64 k] w fun e w' => e = .returned (.tuple #[.slice none 0 0, .int .i64 20]) ∧ Did p n c at_ A bs w w' := by
  have HR := Lib.hid h
  have HN := Lib.hid hn
  have HK := Lib.hid hk
  have d1 : decide (k < 0) = false := by simp; omega
  clear h hn hk
  go_enter Try.func29, Try.ntmps29
  go_wp2_with (first | (go_at_call 39; refine (isR_any _ _ _ _ _ _ _ HR.out).mono ?_; rintro e w1 ⟨rfl, rfl⟩) | (go_at_call 49; refine (take_end p n c at_ k A bs w HR.out HN.out HK.out).mono ?_; rintro e w1 ⟨rfl, b1⟩; have HB := Lib.hid b1; clear b1))
  go_ret2
  exact ⟨rfl, HR.out.below HB.out, Keeps.of_below HB.out⟩

set_option maxRecDepth 20000 in
theorem Bytes_neg (p n c at_ : Nat) (k : Int) (A : Option Addr) (bs : List Int) (w : World) (h : Rdr w p A n c bs at_) (h0 : k < 0) :
    Calls Try.prog 29 #[.pointer (some ⟨p, 0, none⟩), .int .i64 k] w fun e w' => e = .returned (.tuple #[.slice none 0 0, .int .i64 2]) ∧ Did p n c at_ A bs w w' := by
  have HR := Lib.hid h
  clear h
  go_enter Try.func29, Try.ntmps29
  go_wp2_with (first | (go_at_call 39; refine (isR_any _ _ _ _ _ _ _ HR.out).mono ?_; rintro e w1 ⟨rfl, rfl⟩))
  go_ret2
  exact ⟨rfl, HR.out, Keeps.refl _ _⟩
end Go.Proofs.Ytgngeachgkappaa
