/- act and stands by what a ring holds (RingTells; no walk). -/
import Derived.Test.YtgomnifcgaigkaaProg
import Derived.Test.YtgomnifcgaigkaaGy
import Derived.Test.YtgomnifcgaigkaaGz
import Derived.Test.YtgomnifcgaigkaaGz5
import Derived.Test.YtgomnifcgaigkaaHa1
import Derived.Test.YtgomnifcgaigkaaHa2
namespace Go.Proofs.Ytgomnifcgaigkaa
open Go.RowKit Go.Shelf
set_option linter.unusedVariables false

theorem takeR_le {α : Type} (k : Int) (S : RS α) : (takeR k S).2.1.length ≤ S.L.length := by
  unfold takeR
  split
  · simp
  · simp [List.length_take]; omega

theorem act_any (S : RS (Int × Int)) (N k x : Int) (B p g c : Nat) (A : Option Addr) (w : World) (h : RngI w B p g S) (hc : Cnt N S) (hN : N ≤ 1000000) (hr : RefRow w A c S.L p g) (hk : 0 ≤ k ∧ k < 256) :
    Calls Try.prog 46 #[.pointer (some ⟨p, 0, none⟩), refV S A c, .agg #[.int .u8 k, .int .i64 x]] w fun e w' => ∃ S' g' A' c', e = .returned (.tuple #[refV S' A' c', .bool true]) ∧ RngI w' B p g' S' ∧ Cnt (N + 1) S' ∧ RefRow w' A' c' S'.L p g' ∧ (g' = g ∨ w.heap.size ≤ g') ∧ Lies w (.slice A S.L.length c) (.slice A' S'.L.length c') ∧ Spared p g w w' := by
  have hl : S.L.length ≤ 65536 := by have := h.len; omega
  have h8 : k % 8 < 5 ∨ k % 8 = 5 ∨ k % 8 = 6 ∨ k % 8 = 7 := by omega
  rcases h8 with h8 | h8 | h8 | h8
  · obtain ⟨S', r, hS⟩ : ∃ S' r, putR (fun o => (x, o)) S = (S', r) := ⟨_, _, rfl⟩
    refine (act_put S S' N r k x B p g c A w h hc hN hr hl hk h8 hS).mono ?_
    rintro e w' ⟨g', A', c', h1, h2, h3, h4, h5, h6, h7⟩
    exact ⟨S', g', A', c', h1, h2, h3, h4, h5, h6, h7⟩
  · obtain ⟨S', l, r, hS⟩ : ∃ S' l r, takeR ((x.tmod 6 + 6).tmod 6 - 1) S = (S', l, r) := ⟨_, _, _, rfl⟩
    have hll : l.length ≤ 65536 := by have := takeR_le ((x.tmod 6 + 6).tmod 6 - 1) S; rw [hS] at this; simp only [] at this; omega
    have y1 : x.tmod 6 < 6 := Int.tmod_lt_of_pos _ (by decide)
    have y2 : -6 < x.tmod 6 := by have := Int.neg_tmod x 6; have := Int.tmod_lt_of_pos (-x) (show (0 : Int) < 6 by decide); omega
    have z1 : (x.tmod 6 + 6).tmod 6 < 6 := Int.tmod_lt_of_pos _ (by decide)
    have z2 : 0 ≤ (x.tmod 6 + 6).tmod 6 := Int.tmod_nonneg _ (by omega)
    refine (act_take5 S S' l N k x r _ _ B p g c A w h hc hr hl hll hk h8 ⟨rfl, y2, y1⟩ ⟨rfl, z2, z1⟩ hS).mono ?_
    rintro e w' ⟨A', c', h1, h2, h3, h4, h5, h6⟩
    exact ⟨S', g, A', c', h1, h2, h3.mono (by omega), h4, .inl rfl, h5, h6⟩
  · obtain ⟨S', l, r, hS⟩ : ∃ S' l r, takeR x S = (S', l, r) := ⟨_, _, _, rfl⟩
    have hll : l.length ≤ 65536 := by have := takeR_le x S; rw [hS] at this; simp only [] at this; omega
    refine (act_take6 S S' l N k x r B p g c A w h hc hr hl hll hk h8 hS).mono ?_
    rintro e w' ⟨A', c', h1, h2, h3, h4, h5, h6⟩
    exact ⟨S', g, A', c', h1, h2, h3.mono (by omega), h4, .inl rfl, h5, h6⟩
  · refine (act_drain S N k x B p g c A w h hc hr hl hk h8).mono ?_
    rintro e w' ⟨A', c', h1, h2, h3, h4, h5, h6⟩
    exact ⟨_, g, A', c', h1, h2, h3.mono (by omega), h4, .inl rfl, h5, h6⟩

theorem stands_any (S : RS (Int × Int)) (B p g c : Nat) (A : Option Addr) (w : World) (h : RngI w B p g S) (hr : RefRow w A c S.L p g) :
    Calls Try.prog 45 #[.pointer (some ⟨p, 0, none⟩), refV S A c] w fun e w' => e = .returned (.bool true) ∧ Below w.heap.size w w' := by
  have hl : S.L.length ≤ 65536 := by have := h.len; omega
  obtain ⟨o, ac, rf, cap, L⟩ := S
  cases L with
  | nil => exact stands_nil o ac rf cap 0 B p g c A w h hr rfl (by omega)
  | cons x L => obtain ⟨x1, x2⟩ := x; exact stands_cons x1 x2 o ac rf cap L _ B p g c A w h hr rfl hl
end Go.Proofs.Ytgomnifcgaigkaa
