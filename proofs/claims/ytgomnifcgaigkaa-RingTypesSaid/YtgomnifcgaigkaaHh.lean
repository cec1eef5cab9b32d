/- Walks: RingTypes. -/
import Derived.Test.YtgomnifcgaigkaaProg
import Derived.Test.YtgomnifcgaigkaaGv4
import Derived.Test.YtgomnifcgaigkaaGl
import Derived.Test.YtgomnifcgaigkaaQ2
import Derived.Deep.RegionHeld3
import Derived.Test.YtgomnifcgaigkaaHh0
namespace Go.Proofs.Ytgomnifcgaigkaa
open Go.RowKit Go.Shelf
set_option linter.unusedVariables false

def mkV (r : List Int) (s : ByteArray) (x : Int × Int) : Th × Int := ((r.getD x.1.toNat 0, s, x.1, -x.1), x.2)
def mapV (r : List Int) (s : ByteArray) (S : RS (Int × Int)) : RS (Th × Int) := ⟨S.o, S.ac, S.rf, S.cap, S.L.map (mkV r s)⟩
theorem putV_map {r : List Int} {s : ByteArray} {S : RS (Int × Int)} {k : Nat} {b : Int} (hb : r.getD k 0 = b) :
    putR (fun o => (((b, s, (k : Int), -(k : Int)) : Th), o)) (mapV r s S) = (mapV r s (putR (fun o => ((k : Int), o)) S).1, (putR (fun o => ((k : Int), o)) S).2) := by
  subst hb
  unfold putR mapV
  simp only [List.length_map]
  split
  · rfl
  · simp [mkV, List.getD]
theorem takeV_map {r : List Int} {s : ByteArray} (S : RS (Int × Int)) (n : Int) : takeR n (mapV r s S) = (mapV r s (takeR n S).1, (takeR n S).2.1.map (mkV r s), (takeR n S).2.2) := by
  unfold takeR mapV
  split
  · rfl
  · simp [List.map_take, List.map_drop]
theorem mapV_len {r : List Int} {s : ByteArray} (S : RS (Int × Int)) : ((mapV r s S).L.length : Int) = (S.L.length : Int) := by simp [mapV]
theorem cnt_map {r : List Int} {s : ByteArray} {S : RS (Int × Int)} {N : Int} (h : Cnt N S) : Cnt N (mapV r s S) := h

theorem ceV_get {L : List (Th × Int)} {k : Nat} {x : Th × Int} (h : L[k]? = some x) : ∀ j u, (ceV x)[j]? = some u → (L.flatMap ceV)[5 * k + j]? = some u := by
  induction L generalizing k with
  | nil => simp at h
  | cons y L ih =>
    intro j u hu
    rw [List.flatMap_cons]
    cases k with
    | zero =>
      simp at h; subst h
      rw [Nat.mul_zero, Nat.zero_add, List.getElem?_append_left (by exact (List.getElem?_eq_some_iff.1 hu).1)]
      exact hu
    | succ k =>
      have := ih (k := k) (by simpa using h) j u hu
      rw [List.getElem?_append_right (by simp [ceV]; omega)]
      simp only [ceV, List.length_cons, List.length_nil, show 5 * (k + 1) + j - (0 + 1 + 1 + 1 + 1 + 1) = 5 * k + j by omega]
      exact this

/-- Two rings, of numbers and of things, apart from each other. -/
structure Two (w0 w : World) (B1 B2 p g q h : Nat) (S : RS (Int × Int)) (T : RS (Th × Int)) : Prop where
  i : RngI w B1 p g S
  v : RngV w B2 q h T
  d : p ≠ q ∧ p ≠ h ∧ g ≠ q ∧ g ≠ h
  b : w0.heap.size ≤ B1 ∧ w0.heap.size ≤ B2
  bel : Below w0.heap.size w0 w
section
variable {w0 w w' : World} {B1 B2 p g q h : Nat} {S S' : RS (Int × Int)} {T T' : RS (Th × Int)}
theorem Two.putI (t : Two w0 w B1 B2 p g q h S T) {g' : Nat} (r : RngI w' B1 p g' S') (hg : g' = g ∨ w.heap.size ≤ g') (sp : Spared p g w w') : Two w0 w' B1 B2 p g' q h S' T := by
  obtain ⟨d1, d2, d3, d4⟩ := t.d
  have h1 := t.v.plt
  have h2 := t.v.glt
  have h3 := t.i.bp
  have h4 := t.i.bg
  have h5 := t.b
  refine ⟨r, t.v.keep sp.size (sp.block q h1 (Ne.symm d1) (Ne.symm d3)) (sp.block h h2 (Ne.symm d2) (Ne.symm d4)), ⟨d1, d2, ?_, ?_⟩, t.b, sp.below (by omega) (by omega) t.bel t.bel.size⟩ <;>
  · rcases hg with rfl | hg <;> omega
theorem Two.putV (t : Two w0 w B1 B2 p g q h S T) {h' : Nat} (r : RngV w' B2 q h' T') (hg : h' = h ∨ w.heap.size ≤ h') (sp : Spared q h w w') : Two w0 w' B1 B2 p g q h' S T' := by
  obtain ⟨d1, d2, d3, d4⟩ := t.d
  have h1 := t.i.plt
  have h2 := t.i.glt
  have h3 := t.v.bp
  have h4 := t.v.bg
  have h5 := t.b
  refine ⟨t.i.keep sp.size (sp.block p h1 d1 d2) (sp.block g h2 d3 d4), r, ⟨d1, ?_, d3, ?_⟩, t.b, sp.below (by omega) (by omega) t.bel t.bel.size⟩ <;>
  · rcases hg with rfl | hg <;> omega
theorem Two.below (t : Two w0 w B1 B2 p g q h S T) (hb : Below w.heap.size w w') : Two w0 w' B1 B2 p g q h S T :=
  ⟨t.i.below hb t.i.plt t.i.glt, t.v.below hb t.v.plt t.v.glt, t.d, t.b, t.bel.trans (hb.mono t.bel.size)⟩
theorem Two.drew (t : Two w0 w B1 B2 p g q h S T) : Two w0 w.drew B1 B2 p g q h S T := t.below (Below.refl _ _).drew
end

abbrev BoxV (G : Nat) (b : Int) (s : ByteArray) (k : Nat) (w : World) : Prop := w.cell? ⟨G, 0, none⟩ = some (.int .u8 b) ∧ w.cell? ⟨G, 1, none⟩ = some (.string s) ∧ w.cell? ⟨G, 2, none⟩ = some (.int .i64 (k : Int)) ∧ w.cell? ⟨G, 3, none⟩ = some (.int .i64 (-(k : Int)))
theorem boxV_of {G : Nat} {b : Int} {s : ByteArray} {k : Nat} {w : World} {t : TypeId} {fz : Nat × Nat} (h : w.heap[G]? = some (.cells #[.int .u8 b, .string s, .int .i64 (k : Int), .int .i64 (-(k : Int))] t fz)) : BoxV G b s k w := by simp [BoxV, World.cell?, h]
theorem BoxV.drew {G : Nat} {b : Int} {s : ByteArray} {k : Nat} {w : World} (h : BoxV G b s k w) : BoxV G b s k w.drew := h

set_option maxRecDepth 100000 in
set_option maxHeartbeats 6400000 in
theorem RingTypes_any (c : Nat) (A : Option Addr) (n0 cp : Nat) (l : List Int) (s : ByteArray) (w : World) (hc : c < 256) (h : Sees w 1 A n0 cp (l.map (Value.int .u8))) (hl : Bytes l) :
    Calls Try.prog 5 #[.int .u8 (c : Int), .slice A n0 cp, .string s] w fun e w' => e = .returned (.bool true) ∧ Below w.heap.size w w' := by
  obtain ⟨n, hm0, hm20, hmin, hmc⟩ := min_is n0 100
  have hmi : (if (100 : Int) < (n0 : Int) then (100 : Int) else (n0 : Int)) = (n : Int) := by split <;> omega
  have hmi' : (if 100 < n0 then (100 : Int) else (n0 : Int)) = (n : Int) := by split <;> omega
  have hcut := fun w => run_cutr E_u8 A n0 cp n (Nat.le_trans hm0 h.cap) w
  have HS := Lib.hid h
  have HB := Lib.hid hl
  have HC := Lib.hid hc
  have HK : Hid (n ≤ 100 ∧ n ≤ n0) := Lib.hid ⟨hm20, hm0⟩
  have hn3 : (n : Int) ≤ 100 := by omega
  have hn4 : (n : Int) ≤ (n0 : Int) := by omega
  have HN : Hid (1 ≤ 1 + (c : Int) % 20 ∧ 1 + (c : Int) % 20 ≤ 65536) := Lib.hid (by omega)
  clear h hl hm0 hm20 hmin hmc hc
  go_enter Try.func5, Try.ntmps5
  go_wp2_with (first
    | (go_at_call 21; have _q := R2; refine (NewRV_any _ _ HN.out).mono ?_; rintro e w3 ⟨q, rfl, hv, b3⟩; have R3 := Lib.hid (And.intro hv b3); clear hv b3)
    | (go_at_call 12; refine (made_any c _ HC.out).mono ?_; rintro e w2 ⟨p, rfl, hr, b2⟩; have R2 := Lib.hid (And.intro hr b2); clear hr b2)
    | (go_at_call 11; refine (awake_any _).mono ?_; rintro e w1 ⟨rfl, b1⟩; have R1 := Lib.hid b1; clear b1))
  have HST : Hid (Two w w3 w1.heap.size w2.heap.size p p q q ⟨0, 0, 0, 1 + (c : Int) % 20, []⟩ (mapV l s ⟨0, 0, 0, 1 + (c : Int) % 20, []⟩) ∧ Cnt 0 (⟨0, 0, 0, 1 + (c : Int) % 20, []⟩ : RS (Int × Int))) := Lib.hid (by
    have h1 := R2.out.1.plt
    have h2 := R3.out.1.bp
    have h3 := R1.out.size
    have h4 := R2.out.2.size
    refine ⟨⟨R2.out.1.below R3.out.2 h1 h1, R3.out.1, ⟨by omega, by omega, by omega, by omega⟩, ⟨by omega, by omega⟩, below_step (below_step R1.out R2.out.2) R3.out.2⟩, Cnt.zero _⟩)
  clear R1 R2 R3
  generalize w1.heap.size = B1 at HST
  generalize w2.heap.size = B2 at HST
  go_loopw [49] (fun i wr => ∃ (k g h : Nat) (S : RS (Int × Int)), Hid (k ≤ n) ∧ i = .int .i64 (k : Int) ∧ Hid (Two w wr B1 B2 p g q h S (mapV l s S) ∧ Cnt (k : Int) S ∧ ∀ x ∈ S.L, 0 ≤ x.1 ∧ x.1 < (k : Int))) (fun i _ => n - (intOf i).toNat)
  case atStart => exact ⟨0, p, q, _, Lib.hid (Nat.zero_le _), rfl, Lib.hid ⟨HST.out.1, HST.out.2, by simp⟩⟩
  case round =>
    obtain ⟨k, g, h, S, HI, rfl, HR⟩ := hrel
    by_cases hlt : k < n
    · obtain ⟨b0, o0, hA, g1⟩ := (HS.out.below HR.out.1.bel (Nat.le_refl _)).int (k := k) (by have := HK.out; omega)
      cases hA
      have hx := HB.out.at_ (k := k) (by have := HS.out.length; have := HK.out; omega)
      obtain ⟨b, hb⟩ : ∃ b, l.getD k 0 = b := ⟨_, rfl⟩
      rw [hb] at g1 hx
      have HBK := Lib.hid hb
      obtain ⟨hx1, hx2⟩ := hx
      have d1 : decide ((k : Int) < (n : Int)) = true := by simp; omega
      have hk2 : (k : Int) < (n : Int) := by omega
      have HLT := Lib.hid hlt
      clear hlt hb
      have hB1 : Below wr.heap.size wr (wr.alloc (.cells #[.int .u8 b, .string s, .int .i64 (k : Int), .int .i64 (-(k : Int))] 44)) := (Below.refl _ _).alloc (Nat.le_refl _) _
      have hX1 := heap_alloc_new wr (.cells #[.int .u8 b, .string s, .int .i64 (k : Int), .int .i64 (-(k : Int))] 44)
      have HT1 := Lib.hid (HR.out.1.below hB1)
      have HX1 := Lib.hid hX1
      obtain ⟨S', E, hP⟩ : ∃ S' E, putR (fun o => ((k : Int), o)) S = (S', E) := ⟨_, _, rfl⟩
      have HP := Lib.hid hP
      clear hB1 hX1 hP
      have hneg : IntKind.i64.wrap (-(k : Int)) = -(k : Int) := IntWalk.i64_in _ (by omega)
      go_wp2_with fail
      have bx0 : (wr.alloc (.cells #[.int .u8 b, .string s, .int .i64 (k : Int), .int .i64 (-(k : Int))] 44)).cell? ⟨wr.heap.size, 0, none⟩ = some (.int .u8 b) := by simp
      have hS0 : BoxV wr.heap.size b s k (wr.alloc (.cells #[.int .u8 b, .string s, .int .i64 (k : Int), .int .i64 (-(k : Int))] 44)) := boxV_of HX1.out
      have hrd : ∀ w' : World, (wr.alloc (.cells #[.int .u8 b, .string s, .int .i64 (k : Int), .int .i64 (-(k : Int))] 44)) = w' → w' = w' := fun _ _ => rfl
      generalize hW5 : wr.alloc (.cells #[.int .u8 b, .string s, .int .i64 (k : Int), .int .i64 (-(k : Int))] 44) = W5 at HT1 HX1 hS0 ⊢
      clear bx0 hrd
      have hb5 : wr.heap.size ≠ p ∧ wr.heap.size ≠ g ∧ wr.heap.size ≠ q ∧ wr.heap.size ≠ h ∧ wr.heap.size < W5.heap.size := by
        have h1 := HR.out.1.i.plt
        have h2 := HR.out.1.i.glt
        have h3 := HR.out.1.v.plt
        have h4 := HR.out.1.v.glt
        rw [← hW5]
        simp
        omega
      have HB5 := Lib.hid hb5
      clear hb5 hW5
      generalize wr.heap.size = G at HX1 hS0 HB5 ⊢
      go_region_held3 (fun w' => BoxV G b s k w') (first | exact hS0.drew | exact hS0 | assumption) (first
        | (go_at_call 23; have _q := T7; refine (LenRV_any _ _ _ _ _ T7.out.v).mono ?_; rw [mapV_len]; rintro e w' ⟨rfl, rfl⟩)
        | (go_at_call 19; have _q := T7; refine (LenR_any _ _ _ _ _ T7.out.i).mono ?_; rintro e w' ⟨rfl, rfl⟩)
        | (go_at_call 22; have _q := T6; refine (PutV_any B2 q h (mapV l s S) (b, s, (k : Int), -(k : Int)) _ T6.out.1.v (cnt_map (HR.out.2.1.mono (by omega)))).mono ?_; rw [putV_map HBK.out, HP.out]; rintro e w7 ⟨h7, rfl, r7, n7, s7⟩; have T7 := Lib.hid (T6.out.1.putV r7 n7 s7); have hS7 : BoxV G b s k w7 := boxV_of ((s7.block G T6.out.2.2 HB5.out.2.2.1 HB5.out.2.2.2.1).trans T6.out.2.1); clear r7 n7 s7)
        | (go_at_call 14; refine (PutI_any B1 p g S (k : Int) _ (by first | exact HT1.out.drew.i | exact HT1.out.i) (HR.out.2.1.mono (by omega))).mono ?_; rw [HP.out]; rintro e w6 ⟨g6, rfl, r6, n6, s6⟩; have T6 := Lib.hid (show Two w w6 B1 B2 p g6 q h S' (mapV l s S) ∧ w6.heap[G]? = some (.cells #[.int .u8 b, .string s, .int .i64 (k : Int), .int .i64 (-(k : Int))] 44 (0, 0)) ∧ G < w6.heap.size from ⟨by first | exact HT1.out.drew.putI r6 n6 s6 | exact HT1.out.putI r6 n6 s6, (s6.block G HB5.out.2.2.2.2 HB5.out.1 HB5.out.2.1).trans HX1.out, Nat.lt_of_lt_of_le HB5.out.2.2.2.2 s6.size⟩); have hS6 : BoxV G b s k w6 := boxV_of T6.out.2.1; clear r6 n6 s6))
      have hS1 : Cnt ((k : Int) + 1) S' ∧ ∀ x ∈ S'.L, 0 ≤ x.1 ∧ x.1 < (k : Int) + 1 := by
        have h1 := HR.out.2.1.put (fun o => ((k : Int), o))
        have e : (putR (fun o => ((k : Int), o)) S).1 = S' := by rw [HP.out]
        rw [e] at h1
        refine ⟨h1, fun x hx => ?_⟩
        rw [← e] at hx
        unfold putR at hx
        split at hx
        · have := HR.out.2.2 x hx; omega
        · simp only [List.mem_append, List.mem_singleton] at hx
          rcases hx with hx | rfl
          · have := HR.out.2.2 x hx; omega
          · simp only []; omega
      have HS1 := Lib.hid hS1
      clear hS1 hS0
      by_cases hb7 : b % 7 = 0
      · have d7 : (b % 7 == 0) = true := by simpa using hb7
        clear hb7
        obtain ⟨S2, L, hT⟩ : ∃ S2 L, takeR 2 S' = (S2, L, 0) := ⟨_, _, if_neg (by decide)⟩
        have hS2 : Cnt ((k : Int) + 1) S2 ∧ (∀ x ∈ S2.L, 0 ≤ x.1 ∧ x.1 < (k : Int) + 1) ∧ (∀ x ∈ L, 0 ≤ x.1 ∧ x.1 < (k : Int) + 1) ∧ L.length ≤ 2 := by
          have e1 : (takeR 2 S').1 = S2 := by rw [hT]
          have e2 : (takeR 2 S').2.1 = L := by rw [hT]
          have h1 := HS1.out.1.take 2
          rw [e1] at h1
          unfold takeR at e1 e2
          rw [if_neg (by decide)] at e1 e2
          refine ⟨h1, fun x hx => ?_, fun x hx => ?_, ?_⟩
          · rw [← e1] at hx; exact HS1.out.2 x (List.mem_of_mem_drop hx)
          · rw [← e2] at hx; exact HS1.out.2 x (List.mem_of_mem_take hx)
          · rw [← e2]; simp only [List.length_take]; show min 2 _ ≤ 2; omega
        have HS2 := Lib.hid hS2
        have HT := Lib.hid hT
        have hL2 : (L.length : Int) ≤ 2 := by omega
        clear hS2 hT
        go_wp2_with (first
          | (go_at_call 24; have _q := T8; refine (TakeV_any B2 q h7 (mapV l s S') 2 _ T8.out.1.v).mono ?_; rw [takeV_map, HT.out]; simp only [SlotsV, List.length_map]; rintro e w9 ⟨v9, rfl, ⟨A9, c9, rfl, o9⟩, r9, s9⟩; have T9 := Lib.hid (And.intro (T8.out.1.putV r9 (.inl rfl) s9) (And.intro (T8.out.2.spared s9 (.inl rfl)).sees (sees_own o9))); clear o9 r9 s9)
          | (go_at_call 15; refine (TakeI_any B1 p g6 S' 2 _ T7.out.i).mono ?_; rw [HT.out]; simp only [Slots]; rintro e w8 ⟨v8, rfl, ⟨A8, c8, rfl, o8⟩, r8, s8⟩; have T8 := Lib.hid (And.intro (T7.out.putI r8 (.inl rfl) s8) (HeldRow.fresh o8 T7.out.v.plt T7.out.v.glt)); clear o8 r8 s8))
        go_loopw [101] (fun iv wq => ∃ y : Nat, Hid (y ≤ L.length) ∧ iv = .int .i64 (y : Int) ∧ Below w9.heap.size w9 wq) (fun iv _ => L.length - (intOf iv).toNat)
        case atStart => exact ⟨0, Lib.hid (Nat.zero_le _), rfl, Below.refl _ _⟩
        case round =>
          obtain ⟨y, HY, rfl, hbq⟩ := hrel
          by_cases hy : y < L.length
          · obtain ⟨⟨x1, x2⟩, hx⟩ : ∃ x, L[y]? = some x := ⟨_, List.getElem?_eq_getElem hy⟩
            have hxm := HS2.out.2.2.1 _ (List.mem_of_getElem? hx)
            simp only [] at hxm
            obtain ⟨xi, rfl⟩ : ∃ xi : Nat, x1 = (xi : Int) := ⟨x1.toNat, by omega⟩
            obtain ⟨b8, o8, hA8, s0⟩ := (T9.out.2.1.below hbq (Nat.le_refl _)).look _ _ (ceI_get hx).1
            obtain ⟨b8', o8', hA8', s1⟩ := (T9.out.2.1.below hbq (Nat.le_refl _)).look _ _ (ceI_get hx).2
            cases hA8
            cases hA8'
            have hxV : (L.map (mkV l s))[y]? = some (((l.getD xi 0, s, (xi : Int), -(xi : Int)) : Th), x2) := by simp [hx, mkV]
            obtain ⟨b9, o9, hA9, v0⟩ := (T9.out.2.2.below hbq (Nat.le_refl _)).look _ _ (ceV_get hxV 0 _ rfl)
            obtain ⟨_, _, hA, v1⟩ := (T9.out.2.2.below hbq (Nat.le_refl _)).look _ _ (ceV_get hxV 1 _ rfl)
            cases hA9
            cases hA
            obtain ⟨_, _, hA, v2⟩ := (T9.out.2.2.below hbq (Nat.le_refl _)).look _ _ (ceV_get hxV 2 _ rfl)
            cases hA
            obtain ⟨_, _, hA, v3⟩ := (T9.out.2.2.below hbq (Nat.le_refl _)).look _ _ (ceV_get hxV 3 _ rfl)
            cases hA
            obtain ⟨_, _, hA, v4⟩ := (T9.out.2.2.below hbq (Nat.le_refl _)).look _ _ (ceV_get hxV 4 _ rfl)
            cases hA
            obtain ⟨_, _, hA, lc⟩ := ((HS.out.below T9.out.1.bel (Nat.le_refl _)).below hbq (Nat.le_refl _)).int (k := xi) (by have := HK.out; omega)
            cases hA
            rw [Nat.mul_comm 2 y] at s0 s1
            rw [Nat.mul_comm 5 y] at v0 v1 v2 v3 v4
            rw [Nat.add_zero] at v0
            rw [← Nat.add_assoc] at s1 v1 v2 v3 v4
            generalize l.getD xi 0 = lx at v0 lc
            have e1 : decide ((xi : Int) < 0) = false := by simp
            have e2 : decide ((k : Int) < (xi : Int)) = false := by simp; omega
            have e2' : decide (k < xi) = false := by simp; omega
            have hxi : (xi : Int) ≤ (k : Int) := by omega
            have hxn : (xi : Int) < (n0 : Int) := by omega
            have hx0 : (0 : Int) ≤ (xi : Int) := by omega
            have d8 : decide ((y : Int) < (L.length : Int)) = true := by simp; omega
            have hy2 : (y : Int) < (L.length : Int) := by omega
            have HY1 := Lib.hid hy
            clear hy hx hxV hxm
            have hnx : IntKind.i64.wrap (-(xi : Int)) = -(xi : Int) := IntWalk.i64_in _ (by omega)
            have hsm := fun w => thing_same w lx s (xi : Int) (-(xi : Int))
            go_wp2_with fail
            go_quiet (fail)
            go_wp2
            go_roundw
            case rel => exact ⟨y + 1, Lib.hid HY1.out, by go_num, below_drewN hbq _⟩
            case measure => have := HY1.out; simp [intOf]; omega
          · have d8 : decide ((y : Int) < (L.length : Int)) = false := by simp; omega
            have d8' : decide (y < L.length) = false := by simp; omega
            clear hy
            have HF := Lib.hid (T9.out.1.below hbq)
            go_wp2
            go_roundw
            case rel => exact ⟨k + 1, g6, h7, S2, Lib.hid HLT.out, by go_num, Lib.hid ⟨HF.out, HS2.out.1, HS2.out.2.1⟩⟩
            case measure => have := HLT.out; simp [intOf]; omega
      · have d7 : (b % 7 == 0) = false := by simpa using hb7
        clear hb7
        go_wp2
        go_roundw
        case rel => exact ⟨k + 1, g6, h7, S', Lib.hid HLT.out, by go_num, Lib.hid ⟨T7.out, HS1.out.1, HS1.out.2⟩⟩
        case measure => have := HLT.out; simp [intOf]; omega
    · have hkn : k = n := by have := HI.out; omega
      have d1 : decide ((k : Int) < (n : Int)) = false := by simp; omega
      have d1' : decide (k < n) = false := by simp; omega
      clear hlt hkn
      go_wp2
      go_ret
      exact ⟨rfl, HR.out.1.bel⟩
end Go.Proofs.Ytgomnifcgaigkaa
