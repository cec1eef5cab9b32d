/- RingRuns: what is taken is what was put. -/
import Derived.Test.YtgomnifcgaigkaaProg
import Derived.Test.YtgomnifcgaigkaaGj
namespace Go.Proofs.Ytgomnifcgaigkaa
open Go.RowKit Go.Shelf
set_option linter.unusedVariables false

theorem Spared.box {w w' : World} {p g B : Nat} {t : TypeId} {v : Value} (hs : Spared p g w w') (h : Boxed w B t v) (hp : B ≠ p) (hg : B ≠ g) : Boxed w' B t v := (hs.block B h.lt hp hg).trans h
theorem RngI.spared {w w' : World} {B p g q : Nat} {S : RS (Int × Int)} (h : RngI w B p g S) (hs : Spared q q w w') (hp : p ≠ q) (hg : g ≠ q) : RngI w' B p g S := h.keep hs.size (hs.block p h.plt hp hp) (hs.block g h.glt hg hg)

theorem ceI_get {L : List (Int × Int)} {k : Nat} {x : Int × Int} (h : L[k]? = some x) : (L.flatMap ceI)[2 * k]? = some (.int .i64 x.1) ∧ (L.flatMap ceI)[2 * k + 1]? = some (.int .i64 x.2) := by
  induction L generalizing k with
  | nil => simp at h
  | cons y L ih =>
    rw [List.flatMap_cons]
    cases k with
    | zero => simp at h; subst h; exact ⟨rfl, rfl⟩
    | succ k =>
      have := ih (k := k) (by simpa using h)
      rw [List.getElem?_append_right (by simp [ceI]; omega), List.getElem?_append_right (by simp [ceI]; omega)]
      simp only [ceI, List.length_cons, List.length_nil, show 2 * (k + 1) - (0 + 1 + 1) = 2 * k by omega, show 2 * (k + 1) + 1 - (0 + 1 + 1) = 2 * k + 1 by omega]
      exact this

/-- The items go on from nx, those that were refused between told, up to e. -/
def Chain : Int → List (Int × Int) → Int → Prop
  | nx, [], e => e = nx
  | nx, x :: r, e => 0 ≤ x.2 ∧ x.1 = nx + x.2 ∧ Chain (x.1 + 1) r e
theorem Chain.le {L : List (Int × Int)} : ∀ {nx e : Int}, Chain nx L e → nx ≤ e := by
  induction L with
  | nil => intro nx e h; have : e = nx := h; omega
  | cons x r ih => intro nx e h; obtain ⟨h1, h2, h3⟩ := h; have := ih h3; omega
theorem Chain.snoc {L : List (Int × Int)} : ∀ {nx e : Int}, Chain nx L e → ∀ o : Int, 0 ≤ o → Chain nx (L ++ [(e + o, o)]) (e + o + 1) := by
  induction L with
  | nil => intro nx e h o ho; have h : e = nx := h; subst h; exact ⟨ho, rfl, rfl⟩
  | cons x r ih => intro nx e h o ho; obtain ⟨h1, h2, h3⟩ := h; exact ⟨h1, h2, ih h3 o ho⟩
theorem Chain.split {L : List (Int × Int)} : ∀ {nx e : Int} (m : Nat), Chain nx L e → ∃ d, Chain nx (L.take m) d ∧ Chain d (L.drop m) e := by
  induction L with
  | nil => intro nx e m h; exact ⟨nx, by simp [Chain], by simpa using h⟩
  | cons x r ih =>
    intro nx e m h
    cases m with
    | zero => exact ⟨nx, rfl, h⟩
    | succ m =>
      obtain ⟨h1, h2, h3⟩ := h
      obtain ⟨d, k1, k2⟩ := ih m h3
      exact ⟨d, ⟨h1, h2, k1⟩, k2⟩

set_option maxRecDepth 100000 in
set_option maxHeartbeats 1600000 in
theorem taken_any (Bn n c : Nat) (A : Option Addr) (L : List (Int × Int)) (nx e op : Int) (w : World) (h : HeldRow w 29 2 (.slice A n c) n (L.flatMap ceI) Bn Bn) (hl : L.length = n) (hn : n ≤ 65536) (hb : Boxed w Bn 3 (.int .i64 nx)) (hc : Chain nx L e) (h0 : 0 ≤ nx ∧ e ≤ 1000000) (ho : 0 ≤ op ∧ op ≤ 1000000) :
    Calls Try.prog 13 #[.slice A n c, .int .i64 op, .pointer (some ⟨Bn, 0, none⟩)] w fun e' w' => e' = .returned (.bool true) ∧ Boxed w' Bn 3 (.int .i64 (e + op)) ∧ Spared Bn Bn w w' := by
  have HH := Lib.hid h
  have HB := Lib.hid hb
  have HL := Lib.hid (And.intro hl hn)
  have HC := Lib.hid hc
  have H0 := Lib.hid h0
  obtain ⟨ho1, ho2⟩ := ho
  have hn3 : (n : Int) ≤ 65536 := by omega
  clear h hb hl hn hc h0
  go_enter Try.func13, Try.ntmps13
  go_wp2
  go_loopw [10] (fun i wr => ∃ (k : Nat) (d : Int), Hid (k ≤ n ∧ Chain d (L.drop k) e ∧ 0 ≤ d) ∧ i = .int .i64 (k : Int) ∧ Boxed wr Bn 3 (.int .i64 d) ∧ Spared Bn Bn w wr) (fun i _ => n - (intOf i).toNat)
  case atStart => exact ⟨0, nx, Lib.hid ⟨Nat.zero_le _, HC.out, H0.out.1⟩, rfl, HB.out, Spared.refl _ _ _⟩
  case round =>
    obtain ⟨k, d, HK, rfl, bx, sp⟩ := hrel
    by_cases hlt : k < n
    · obtain ⟨x, hx⟩ : ∃ x, L[k]? = some x := ⟨_, List.getElem?_eq_getElem (by have := HL.out; omega)⟩
      obtain ⟨e1, e2⟩ := ceI_get hx
      obtain ⟨q, rfl, s0, s1⟩ := look2 (HH.out.spared sp (.inl rfl)) e1 e2
      rw [Nat.mul_comm 2 k] at s0 s1
      have hch := HK.out.2.1
      obtain ⟨hk', hx'⟩ := List.getElem?_eq_some_iff.1 hx
      rw [List.drop_eq_getElem_cons hk', hx'] at hch
      obtain ⟨x1, x2⟩ := x
      obtain ⟨c1, c2, c3⟩ := hch
      have hle := c3.le
      simp only [] at c1 c2 c3 hle s0 s1
      have hd0 := HK.out.2.2
      have he := H0.out.2
      subst c2
      have z1 : decide (x2 < 0) = false := by simp; omega
      have hx2 : x2 ≤ 1000000 := by omega
      have hd1 : d ≤ 1000000 := by omega
      have bc := bx.cell
      have bf := bx.frozen
      have blt := bx.lt
      have d1 : decide ((k : Int) < (n : Int)) = true := by simp; omega
      have hk2 : (k : Int) < (n : Int) := by omega
      have hk3 : (k : Int) ≤ 65535 := by omega
      have HX := Lib.hid (And.intro c3 (And.intro hlt hd0))
      have HSP := Lib.hid (And.intro sp bx)
      clear hx hx' hk' hlt c3 e1 e2 hle sp bx
      go_wp2
      go_roundw
      case rel => exact ⟨k + 1, d + x2 + 1, Lib.hid ⟨HX.out.2.1, HX.out.1, by have := HX.out.2.2; omega⟩, by go_num, (HSP.out.2.set _).alloc _, (HSP.out.1.setP _ _).then ((Below.refl _ _).alloc (Nat.le_refl _) _) (Nat.le_refl _)⟩
      case measure => have := HX.out.2.1; simp [intOf]; omega
    · have hkn : k = n := by have := HK.out.1; omega
      have d1 : decide ((k : Int) < (n : Int)) = false := by simp; omega
      have d1' : decide (k < n) = false := by simp; omega
      have hde : d = e := by
        have := HK.out.2.1
        rw [List.drop_eq_nil_of_le (by have := HL.out; omega)] at this
        exact this.symm
      subst hde
      have hd0 := HK.out.2.2
      have hd1 := H0.out.2
      have bc := bx.cell
      have bf := bx.frozen
      have d2 : decide (0 ≤ op) = true := by simpa using ho1
      have HSP := Lib.hid (And.intro sp bx)
      clear hlt hkn sp bx
      go_wp2
      go_ret
      exact ⟨rfl, HSP.out.2.set _, HSP.out.1.setP _ _⟩
end Go.Proofs.Ytgomnifcgaigkaa
