/- What a row says of an argument that is a slice of structs: its cells can be seen. No program is named here. -/
import Derived.Test.YtgngeachgkappaaQ
import Derived.Deep.Slices
namespace Go.Proofs.Ytgngeachgkappaa
open Go.RowKit Go.ChangeShapes Go.WideShapes

theorem flatMap_get {α : Type} (f : α → List Value) (s : Nat) (hs : ∀ a, (f a).length = s) : ∀ (zs : List α) (k : Nat) (u : Value), (zs.flatMap f)[k]? = some u → ∃ (i : Nat) (z : α), zs[i]? = some z ∧ i * s ≤ k ∧ (f z)[k - i * s]? = some u := by
  intro zs
  induction zs with
  | nil => intro k u h; simp at h
  | cons z zs ih =>
    intro k u h
    rw [List.flatMap_cons] at h
    by_cases hk : k < (f z).length
    · rw [List.getElem?_append_left hk] at h
      exact ⟨0, z, rfl, by simp, by simpa using h⟩
    · rw [List.getElem?_append_right (by omega), hs] at h
      rw [hs] at hk
      obtain ⟨i, y, h1, h2, h3⟩ := ih _ _ h
      refine ⟨i + 1, y, by simpa using h1, ?_, ?_⟩
      · rw [Nat.add_mul]; omega
      · rw [Nat.add_mul]
        have e : k - (i * s + 1 * s) = k - s - i * s := by omega
        rw [e]; exact h3
theorem flatMap_len {α : Type} (f : α → List Value) (s : Nat) (hs : ∀ a, (f a).length = s) (zs : List α) : (zs.flatMap f).length = zs.length * s := by
  induction zs with
  | nil => simp
  | cons z zs ih => rw [List.flatMap_cons, List.length_append, hs, ih, List.length_cons, Nat.add_mul]; omega

section
variable {H : Type} {enc : TypeId × Value → H} {P : Program} {w : World} {base : Nat} {spare : Nat → Bool} {held : Bool}

theorem open_rows {α : Type} [Inhabited α] (f : α → List Value) (good : α → Prop) {t e : TypeId} {s : Nat} (hs : ∀ a, (f a).length = s) (h0 : 0 < s) (ht : P.underlying t = some (.slice e)) (hc : P.cellsOf e = s)
    (each : ∀ (n : Nat) (cs : List Value) (y : DataW H × List MemPlace), DataW.trod enc P w base spare held n e cs = some y → ∃ a : α, cs = f a ∧ good a)
    {fuel : Nat} {x : DataW H × List MemPlace} {A : Option Addr} {len cap : Nat} (h : DataW.trod enc P w base spare held fuel t (Value.slice A len cap).cells.toList = some x) :
    ∃ zs : List α, Sees w s A len cap (zs.flatMap f) ∧ ∀ z ∈ zs, good z := by
  rcases Deep.open_slice ht h with ⟨hcs, _⟩ | ⟨a, len', cap', m, n, D, Pl, hcs, hb, hl, hm, hmm, hx, hel⟩
  · simp [Value.cells] at hcs
    obtain ⟨rfl, rfl, rfl⟩ := hcs
    exact ⟨[], Sees.nil w s 0 none (Nat.zero_le _) (fun _ => rfl), by simp⟩
  · simp [Value.cells] at hcs
    obtain ⟨rfl, rfl, rfl⟩ := hcs
    have hlm : len ≤ m := by rw [hmm]; split <;> omega
    rw [hc] at hel
    have each' : ∀ i, i < len → ∃ z : α, good z ∧ ∀ j, j < s → w.cell? ((a.add (i * s)).add j) = (f z)[j]? := fun i hi => by
      obtain ⟨cs', h1, h2⟩ := hel i (by omega)
      obtain ⟨z, rfl, hz⟩ := each _ _ _ h2
      obtain ⟨_, _, h3⟩ := World.cells?_some h1
      exact ⟨z, hz, h3⟩
    obtain ⟨F, hF⟩ : ∃ F : Nat → α, ∀ i, i < len → good (F i) ∧ ∀ j, j < s → w.cell? ((a.add (i * s)).add j) = (f (F i))[j]? :=
      ⟨fun i => if hi : i < len then Classical.choose (each' i hi) else default, fun i hi => by
        simp only [hi, dif_pos]
        exact Classical.choose_spec (each' i hi)⟩
    refine ⟨(List.range len).map F, ⟨?_, hl, hm, (fun e => by cases e), fun k u hu => ?_⟩, fun z hz => ?_⟩
    · rw [flatMap_len f s hs]; simp
    · obtain ⟨i, z, h1, h2, h3⟩ := flatMap_get f s hs _ _ _ hu
      have hi : i < len := by
        have := (List.getElem?_eq_some_iff.1 h1).1
        simpa using this
      simp [hi] at h1
      subst h1
      have hj : k - i * s < s := by
        have := (List.getElem?_eq_some_iff.1 h3).1
        rwa [hs] at this
      have h4 := (hF i hi).2 _ hj
      rw [h3] at h4
      obtain ⟨b, o, sp⟩ := a
      have hsp : sp = none := by
        have h5 := (hF 0 (by omega)).2 0 h0
        rw [List.getElem?_eq_getElem (by rw [hs]; exact h0)] at h5
        simpa [Addr.add] using World.cell?_spot h5
      subst hsp
      refine ⟨b, o, rfl, ?_⟩
      rw [Addr.add_lit, Addr.add_lit] at h4
      rw [← h4]
      congr 2
      omega
    · simp at hz
      obtain ⟨i, hi, rfl⟩ := hz
      exact (hF i hi).1
end
end Go.Proofs.Ytgngeachgkappaa
