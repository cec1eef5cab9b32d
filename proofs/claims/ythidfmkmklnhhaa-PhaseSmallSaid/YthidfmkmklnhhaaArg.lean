/- What came in as a slice of integers, seen: no program is named here. -/
import Derived.Test.YthidfmkmklnhhaaQ
namespace Go.Proofs.Ythidfmkmklnhhaa
open Go.RowKit

/-- What the shell of a law says of a slice of integers that came in (IsRow, unfolded). -/
abbrev RowIn (k : IntKind) (w : World) (a : Option Addr) (len cap : Nat) (zs : List Int) : Prop :=
  (a = none ∧ len = 0 ∧ cap = 0 ∧ zs = []) ∨
  ∃ x, a = some x ∧ len ≤ cap ∧ cap ≤ maxLen ∧ zs.length = cap ∧ (∀ i, i < zs.length → w.cell? (x.add i) = some (.int k (zs.getD i 0))) ∧ ∀ n ∈ zs, (Lit.int k n).wf = true

theorem sees_in {k : IntKind} {w : World} {a : Option Addr} {len cap : Nat} {zs : List Int} (h : RowIn k w a len cap zs) :
    Sees w 1 a len cap ((zs.take len).map (Value.int k)) ∧ ∀ n ∈ zs.take len, (Lit.int k n).wf = true := by
  rcases h with ⟨rfl, rfl, rfl, rfl⟩ | ⟨⟨b, o, sp⟩, rfl, h1, h2, h3, h4, h5⟩
  · exact ⟨Sees.nil _ _ _ _ (Nat.zero_le _) fun _ => rfl, by simp⟩
  · refine ⟨⟨by simp; omega, h1, h2, fun h => by (cases h), fun j u hu => ?_⟩, fun n hn => h5 n (List.mem_of_mem_take hn)⟩
    have hlt := (List.getElem?_eq_some_iff.1 hu).1
    simp at hlt
    have hj : j < zs.length := by omega
    have h0 := h4 0 (by omega)
    have hs : sp = none := by simpa [Addr.add] using World.cell?_spot h0
    subst hs
    refine ⟨b, o, rfl, ?_⟩
    have hc := h4 j hj
    rw [Addr.add_lit] at hc
    rw [hc]
    simp [hlt, hj] at hu
    rw [← hu]
    simp [List.getD, hj]

theorem wf_u8 {n : Int} (h : (Lit.int .u8 n).wf = true) : 0 ≤ n ∧ n ≤ 255 := by
  simp [Lit.wf, IntKind.min, IntKind.max, IntKind.signed, IntKind.bits] at h; omega
theorem wf_u64 {n : Int} (h : (Lit.int .u64 n).wf = true) : 0 ≤ n ∧ n ≤ 18446744073709551615 := by
  simp [Lit.wf, IntKind.min, IntKind.max, IntKind.signed, IntKind.bits] at h; omega
theorem wf_i64 {n : Int} (h : (Lit.int .i64 n).wf = true) : -9223372036854775808 ≤ n ∧ n ≤ 9223372036854775807 := by
  simp [Lit.wf, IntKind.min, IntKind.max, IntKind.signed, IntKind.bits] at h; omega
theorem nat_of_u64 {n : Int} (h : (Lit.int .u64 n).wf = true) : ∃ x : Nat, n = (x : Int) ∧ x < 18446744073709551616 := ⟨n.toNat, by have := wf_u64 h; omega, by have := wf_u64 h; omega⟩
theorem nat_of_u8 {n : Int} (h : (Lit.int .u8 n).wf = true) : ∃ x : Nat, n = (x : Int) ∧ x < 256 := ⟨n.toNat, by have := wf_u8 h; omega, by have := wf_u8 h; omega⟩

theorem nats_of {l : List Int} (h : ∀ n ∈ l, (Lit.int .u64 n).wf = true) : ∃ m : List Nat, l = m.map Int.ofNat ∧ ∀ x ∈ m, x < 18446744073709551616 := by
  refine ⟨l.map Int.toNat, ?_, fun x hx => ?_⟩
  · rw [List.map_map]
    refine List.ext_getElem (by simp) fun i h1 h2 => ?_
    have := wf_u64 (h _ (List.getElem_mem h1))
    simp only [List.getElem_map, Function.comp]
    have e : (Int.ofNat (l[i]).toNat) = ((l[i].toNat : Nat) : Int) := rfl
    rw [e]; omega
  · simp at hx
    obtain ⟨n, hn, rfl⟩ := hx
    have := wf_u64 (h n hn)
    omega
end Go.Proofs.Ythidfmkmklnhhaa
