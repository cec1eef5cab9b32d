/- Walks: PhaseSmall. Printed by gen_uo.py. -/
import Derived.Test.YthidfmkmklnhhaaProg
import Derived.Test.YthidfmkmklnhhaaUn
import Derived.Deep.DeepCutAuto
import Derived.Deep.RegionHeld3
import Derived.BigRegion
namespace Go.Proofs.Ythidfmkmklnhhaa
open Go.RowKit
set_option linter.unusedVariables false

theorem dig_facts {n : Nat} (h : n < 243) : ∃ (a0 a1 a2 a3 b1 b2 b3 b4 a5 : Nat) (v0 v1 v2 v3 v4 v5 : Int), ((n : Int).tmod 3 = (a0 : Int) ∧ (n : Int).tdiv 3 = (b1 : Int) ∧ (b1 : Int).tmod 3 = (a1 : Int) ∧ (n : Int).tdiv 9 = (b2 : Int) ∧ (b2 : Int).tmod 3 = (a2 : Int) ∧ (n : Int).tdiv 27 = (b3 : Int) ∧ (b3 : Int).tmod 3 = (a3 : Int) ∧ (n : Int).tdiv 81 = (b4 : Int) ∧ (n : Int).tmod 4 = (a5 : Int)) ∧
    ((a0 : Int) - 1 = v0 ∧ (a1 : Int) - 1 = v1 ∧ (a2 : Int) - 1 = v2 ∧ (a3 : Int) - 1 = v3 ∧ (b4 : Int) - 1 = v4 ∧ (a5 : Int) - 1 = v5) ∧
    (IntKind.i64.wrap (a0 : Int) = (a0 : Int) ∧ IntKind.i64.wrap (a1 : Int) = (a1 : Int) ∧ IntKind.i64.wrap (a2 : Int) = (a2 : Int) ∧ IntKind.i64.wrap (a3 : Int) = (a3 : Int) ∧ IntKind.i64.wrap (b1 : Int) = (b1 : Int) ∧ IntKind.i64.wrap (b2 : Int) = (b2 : Int) ∧ IntKind.i64.wrap (b3 : Int) = (b3 : Int) ∧ IntKind.i64.wrap (b4 : Int) = (b4 : Int) ∧ IntKind.i64.wrap (a5 : Int) = (a5 : Int)) ∧
    (wrap64 v0 = v0 ∧ wrap64 v1 = v1 ∧ wrap64 v2 = v2 ∧ wrap64 v3 = v3 ∧ wrap64 v4 = v4 ∧ wrap64 v5 = v5) ∧ (IntKind.i64.wrap v0 = v0 ∧ IntKind.i64.wrap v1 = v1 ∧ IntKind.i64.wrap v2 = v2 ∧ IntKind.i64.wrap v3 = v3 ∧ IntKind.i64.wrap v4 = v4 ∧ IntKind.i64.wrap v5 = v5) ∧ v0.natAbs ≤ 1 ∧ v1.natAbs ≤ 1 ∧ v2.natAbs ≤ 1 ∧ v3.natAbs ≤ 1 ∧ v4.natAbs ≤ 1 := by
  have m3 : ∀ x : Nat, x % 3 < 3 := fun x => Nat.mod_lt _ (by decide)
  have m4 : n % 4 < 4 := Nat.mod_lt _ (by decide)
  have h0 := m3 n
  have h1 := m3 (n / 3)
  have h2 := m3 (n / 9)
  have h3 := m3 (n / 27)
  have h4 : n / 81 < 3 := by omega
  refine ⟨n % 3, n / 3 % 3, n / 9 % 3, n / 27 % 3, n / 3, n / 9, n / 27, n / 81, n % 4, _, _, _, _, _, _, ⟨tm_nat n 3, td_nat n 3, tm_nat (n / 3) 3, td_nat n 9, tm_nat (n / 9) 3, td_nat n 27, tm_nat (n / 27) 3, td_nat n 81, tm_nat n 4⟩, ⟨rfl, rfl, rfl, rfl, rfl, rfl⟩, ?_⟩
  have k1 : n / 3 < 243 := by omega
  have k2 : n / 9 < 243 := by omega
  have k3 : n / 27 < 243 := by omega
  generalize n % 3 = x0 at *
  generalize n / 3 % 3 = x1 at *
  generalize n / 9 % 3 = x2 at *
  generalize n / 27 % 3 = x3 at *
  generalize n / 3 = y1 at *
  generalize n / 9 = y2 at *
  generalize n / 27 = y3 at *
  generalize n / 81 = y4 at *
  generalize n % 4 = x5 at *
  clear m3
  have w : ∀ x : Nat, x < 243 → IntKind.i64.wrap (x : Int) = (x : Int) := fun x hx => IntWalk.i64_in _ (by omega)
  have u : ∀ x : Nat, x < 243 → wrap64 ((x : Int) - 1) = (x : Int) - 1 := fun x hx => IntWalk.wrap64_in _ (by omega)
  have u2 : ∀ x : Nat, x < 243 → IntKind.i64.wrap ((x : Int) - 1) = (x : Int) - 1 := fun x hx => IntWalk.i64_in _ (by omega)
  exact ⟨⟨w _ (by omega), w _ (by omega), w _ (by omega), w _ (by omega), w _ k1, w _ k2, w _ k3, w _ (by omega), w _ (by omega)⟩, ⟨u _ (by omega), u _ (by omega), u _ (by omega), u _ (by omega), u _ (by omega), u _ (by omega)⟩, ⟨u2 _ (by omega), u2 _ (by omega), u2 _ (by omega), u2 _ (by omega), u2 _ (by omega), u2 _ (by omega)⟩, by omega, by omega, by omega, by omega, by omega⟩
theorem cut_one (g : Nat) (w : World) : (Instr.slice 22 (.slice (some ⟨g, 0, none⟩) 5 5) (some (.int .i64 1)) none none).run Try.prog w = .ok (.slice (some ⟨g, 1, none⟩) 4 4) w := run_cutl E_ii (some ⟨g, 0, none⟩) 5 5 1 (by decide) w
theorem cut_two (g : Nat) (w : World) : (Instr.slice 22 (.slice (some ⟨g, 0, none⟩) 5 5) (some (.int .i64 2)) none none).run Try.prog w = .ok (.slice (some ⟨g, 2, none⟩) 3 3) w := run_cutl E_ii (some ⟨g, 0, none⟩) 5 5 2 (by decide) w
theorem arr_at (g : Nat) (w : World) : (Instr.arrayAt 40 (.slice (some ⟨g, 1, none⟩) 4 4)).run Try.prog w = .ok (.pointer (some ⟨g, 1, none⟩)) w := by kernel_rfl
theorem tells4 (A : Option Addr) (n m : Nat) (l : List Int) (c0 c1 c2 c3 : Int) (id : Int) (w : World) (hs : Sees w 1 A n m (l.map (Value.int .i64))) (hn : n ≤ 400) :
    Calls Try.prog 26 #[.slice A n m, .agg #[.int .i64 c0, .int .i64 c1, .int .i64 c2, .int .i64 c3], .int .i64 id] w fun e w' => e = .returned (.bool true) ∧ Below w.heap.size w w' := tells_any A n m l (c4 c0 c1 c2 c3) id w hs hn
abbrev C5 (g : Nat) (v0 v1 v2 v3 v4 : Int) (w : World) : Prop := (w.cell? ⟨g, 0, none⟩ = some (.int .i64 v0) ∧ w.cell? ⟨g, 1, none⟩ = some (.int .i64 v1)) ∧ w.cell? ⟨g, 2, none⟩ = some (.int .i64 v2) ∧ w.cell? ⟨g, 3, none⟩ = some (.int .i64 v3) ∧ w.cell? ⟨g, 4, none⟩ = some (.int .i64 v4)
theorem C5.step {g : Nat} {v0 v1 v2 v3 v4 : Int} {w w' : World} (h : C5 g v0 v1 v2 v3 v4 w) (k : Below w.heap.size w w') : C5 g v0 v1 v2 v3 v4 w' := ⟨⟨cell_step h.1.1 k, cell_step h.1.2 k⟩, cell_step h.2.1 k, cell_step h.2.2.1 k, cell_step h.2.2.2 k⟩
theorem keep5 {V w w' : World} {g : Nat} {v0 v1 v2 v3 v4 : Int} (h : C5 g v0 v1 v2 v3 v4 w ∧ Below V.heap.size V w) (k : Below w.heap.size w w') : C5 g v0 v1 v2 v3 v4 w' ∧ Below V.heap.size V w' := ⟨h.1.step k, below_step h.2 k⟩
theorem keep50 {V w : World} {g : Nat} {v0 v1 v2 v3 v4 : Int} (h : C5 g v0 v1 v2 v3 v4 w ∧ Below V.heap.size V w) : C5 g v0 v1 v2 v3 v4 w.drew ∧ Below V.heap.size V w.drew := keep5 h (Below.refl _ _).drew

theorem Kn.of_cif {x y : Nat → Nat} {c : Nat → Int} (hf : CIF x y c) (hc : szc c ≤ 1125899906842624) : ∃ c err, Kn x y c err := Kn.ex fun j hj => ⟨.inl ⟨_, (hf j hj).1, by have := d_le4 c j hj; omega⟩, .inl ⟨_, (hf j hj).2, by have := d_le4 c j hj; omega⟩⟩
theorem sees_two {w : World} {t : TypeId} {g : Nat} {v0 v1 v2 v3 v4 : Int} (h : Arr t w g #[.int .i64 v0, .int .i64 v1, .int .i64 v2, .int .i64 v3, .int .i64 v4]) : Sees w 1 (some ⟨g, 2, none⟩) 3 3 ([v2, v3, v4].map (Value.int .i64)) :=
  ⟨rfl, Nat.le_refl _, by decide, fun h => by (cases h), fun k u hu => ⟨g, 2, rfl, by
    rw [h.c (2 + k)]
    rcases (show k = 0 ∨ k = 1 ∨ k = 2 ∨ 3 ≤ k by omega) with rfl | rfl | rfl | hk
    · exact hu
    · exact hu
    · exact hu
    · rw [List.getElem?_eq_none (by simpa using hk)] at hu; cases hu⟩⟩
theorem sz5 {v0 v1 v2 v3 v4 : Int} (h : v0.natAbs ≤ 1 ∧ v1.natAbs ≤ 1 ∧ v2.natAbs ≤ 1 ∧ v3.natAbs ≤ 1 ∧ v4.natAbs ≤ 1) : sz [v0, v1, v2, v3, v4] 5 ≤ 1125899906842624 ∧ sz [v2, v3, v4] 3 ≤ 1125899906842624 := by
  simp [sz]; omega
def shifts : List Int := [-9223372036854775808, -5, -1, 0, 1, 2, 3, 4, 7, 9223372036854775807]
theorem shifts_at (k : Nat) (hk : k < 10) : ∃ v : Int, (#[.int .i64 (-9223372036854775808), .int .i64 (-5), .int .i64 (-1), .int .i64 0, .int .i64 1, .int .i64 2, .int .i64 3, .int .i64 4, .int .i64 7, .int .i64 9223372036854775807] : Array Value)[k]? = some (.int .i64 v) ∧ -9223372036854775808 ≤ v ∧ v ≤ 9223372036854775807 := by
  rcases (show k = 0 ∨ k = 1 ∨ k = 2 ∨ k = 3 ∨ k = 4 ∨ k = 5 ∨ k = 6 ∨ k = 7 ∨ k = 8 ∨ k = 9 by omega) with rfl | rfl | rfl | rfl | rfl | rfl | rfl | rfl | rfl | rfl <;> exact ⟨_, rfl, by decide, by decide⟩

theorem Pt.fi {b : Nat} {a : Int} (h : FI b a) (ha : a.natAbs ≤ 9007199254740992) : Pt b := .inl ⟨a, h, ha⟩
theorem xs_at (k : Nat) (hk : k < 16) : ∃ b : Nat, (#[.float .f64 9221120237041090561, .float .f64 9218868437227405312, .float .f64 18442240474082181120, .float .f64 4602678819172646912, .float .f64 4607182418800017408, .float .f64 13830554455654793216, .float .f64 4613937818241073152, .float .f64 4611686018427387904, .float .f64 13821547256400052224, .float .f64 4619567317775286272, .float .f64 4832362400168542208, .float .f64 4832362400168542212, .float .f64 14060238036650688512, .float .f64 4886405595696988160, .float .f64 9094988921128908188, .float .f64 9223372036854775808] : Array Value)[k]? = some (.float .f64 b) ∧ Pt b := by
  have f7 : FI 4619567317775286272 7 := by have h := FI.ofInt (n := 7) (by decide); rwa [show floatOfInt .f64 7 = 4619567317775286272 from by decide] at h
  have f51 : FI 4832362400168542212 1125899906842625 := by have h := FI.ofInt (n := 1125899906842625) (by decide); rwa [show floatOfInt .f64 1125899906842625 = 4832362400168542212 from by decide] at h
  have fm51 : FI 14060238036650688512 (-2251799813685248) := by have h := FI.ofInt (n := -2251799813685248) (by decide); rwa [show floatOfInt .f64 (-2251799813685248) = 14060238036650688512 from by decide] at h
  rcases (show k = 0 ∨ k = 1 ∨ k = 2 ∨ k = 3 ∨ k = 4 ∨ k = 5 ∨ k = 6 ∨ k = 7 ∨ k = 8 ∨ k = 9 ∨ k = 10 ∨ k = 11 ∨ k = 12 ∨ k = 13 ∨ k = 14 ∨ k = 15 by omega) with rfl | rfl | rfl | rfl | rfl | rfl | rfl | rfl | rfl | rfl | rfl | rfl | rfl | rfl | rfl | rfl
  · exact ⟨_, rfl, .inr bad_nan⟩
  · exact ⟨_, rfl, .inr bad_inf⟩
  · exact ⟨_, rfl, .inr bad_ninf⟩
  · exact ⟨_, rfl, .inr bad_h⟩
  · exact ⟨_, rfl, Pt.fi fi1 (by decide)⟩
  · exact ⟨_, rfl, Pt.fi fim (by decide)⟩
  · exact ⟨_, rfl, Pt.fi fl3 (by decide)⟩
  · exact ⟨_, rfl, Pt.fi fl2 (by decide)⟩
  · exact ⟨_, rfl, .inr bad_q⟩
  · exact ⟨_, rfl, Pt.fi f7 (by decide)⟩
  · exact ⟨_, rfl, Pt.fi fi50 (by decide)⟩
  · exact ⟨_, rfl, Pt.fi f51 (by decide)⟩
  · exact ⟨_, rfl, Pt.fi fm51 (by decide)⟩
  · exact ⟨_, rfl, .inr bad_62⟩
  · exact ⟨_, rfl, .inr bad_e300⟩
  · exact ⟨_, rfl, Pt.fi fiz (by decide)⟩
theorem z_lit : ∃ x y : Nat → Nat, (#[.complex .f64 4624633867356078080 0, .complex .f64 4613937818241073152 13835058055282163712, .complex .f64 4613937818241073152 0, .complex .f64 4613937818241073152 4611686018427387904] : Array Value) = #[.complex .f64 (x 0) (y 0), .complex .f64 (x 1) (y 1), .complex .f64 (x 2) (y 2), .complex .f64 (x 3) (y 3)] ∧ ∀ j < 4, Pt (x j) ∧ Pt (y j) :=
  ⟨fun j => if j = 0 then 4624633867356078080 else 4613937818241073152, fun j => if j = 1 then 13835058055282163712 else if j = 3 then 4611686018427387904 else 0, rfl, all4 ⟨Pt.fi fl15 (by decide), Pt.fi fi0 (by decide)⟩ ⟨Pt.fi fl3 (by decide), Pt.fi flm2 (by decide)⟩ ⟨Pt.fi fl3 (by decide), Pt.fi fi0 (by decide)⟩ ⟨Pt.fi fl3 (by decide), Pt.fi fl2 (by decide)⟩⟩
theorem pt_upd {x y : Nat → Nat} (h : ∀ j < 4, Pt (x j) ∧ Pt (y j)) (j : Nat) {r s : Nat} (hr : Pt r) (hs : Pt s) : ∀ k < 4, Pt (updn x j r k) ∧ Pt (updn y j s k) := fun k hk => by
  unfold updn
  by_cases e : k = j
  · rw [if_pos e, if_pos e]; exact ⟨hr, hs⟩
  · rw [if_neg e, if_neg e]; exact h k hk

theorem rq_facts {r : Nat} (hr : r < 4) : ∃ q s : Nat, q < 4 ∧ (q : Int) < 4 ∧ (r : Int) + 1 = (s : Int) ∧ wrap64 (s : Int) = (s : Int) ∧ IntKind.i64.wrap (s : Int) = (s : Int) ∧ (s : Int).tmod 4 = (q : Int) ∧ IntKind.i64.wrap (q : Int) = (q : Int) ∧ decide ((q : Int) < 4) = true ∧ decide (q < 4) = true := by
  have h1 : (r + 1) % 4 < 4 := Nat.mod_lt _ (by decide)
  exact ⟨(r + 1) % 4, r + 1, h1, Int.ofNat_lt.2 h1, by omega, IntWalk.wrap64_in _ (by omega), IntWalk.i64_in _ (by omega), tm_nat (r + 1) 4, IntWalk.i64_in _ (by omega), decide_eq_true (Int.ofNat_lt.2 h1), decide_eq_true h1⟩
theorem x8_at (i : Nat) (hi : i < 8) : ∃ v h u k : Int, (#[.int .i64 16777216, .int .i64 16777217, .int .i64 1125899906842624, .int .i64 1125899906842625, .int .i64 9223372036854775807, .int .i64 (-9223372036854775808), .int .i64 562949953421312, .int .i64 562949953421313] : Array Value)[i]? = some (.int .i64 v) ∧ v.tdiv 2 = h ∧ IntKind.i64.wrap h = h ∧ v - h = u ∧ wrap64 u = u ∧ IntKind.i64.wrap u = u ∧ -u = k ∧ wrap64 k = k ∧ IntKind.i64.wrap k = k := by
  rcases (show i = 0 ∨ i = 1 ∨ i = 2 ∨ i = 3 ∨ i = 4 ∨ i = 5 ∨ i = 6 ∨ i = 7 by omega) with rfl | rfl | rfl | rfl | rfl | rfl | rfl | rfl <;>
  exact ⟨_, _, _, _, rfl, rfl, by decide, rfl, IntWalk.wrap64_in _ (by decide), by decide, rfl, IntWalk.wrap64_in _ (by decide), by decide⟩

theorem step_appVH {P : Program} {t e : TypeId} {z : Value} {s bytes : Nat} (E : Elem P t e z s bytes) {ops : Array Oper} {o : Oper} {a : Act} {K : Act → World → Prop} {Q : Exit → Act → World → Prop} {w : World} {F : Prop}
    (hw : Region.wanted o (yielded ops a.tmps) = true) (x y : Operand) (ho : o.op = .call { callee := .builtin .append, args := #[x, y], argTypes := #[t, t] })
    {A0 : Option Addr} {n : Nat} {xs : List Value} (hs : a.eval x = .slice A0 n n) (hold : Sees w s A0 n n xs)
    {A : Option Addr} {m c : Nat} {news : List Value} (hx : a.eval y = .slice A m c) (hsee : Sees w s A m c news) (h1 : ∀ u ∈ news, u.oneCell' = true) (h63 : n + m ≤ maxLen) (hb : (n + m) * bytes ≤ 140737488355328)
    (h : ∀ A' c' w', Sees w' s A' (n + m) c' (xs ++ news) → Below w.heap.size w w' → K (a.put o.dst (.slice A' (n + m) c')) w') :
    if Region.wanted o (yielded ops a.tmps) = true then Oper.wp P o a w K Q else F := by
  rw [if_pos hw]
  obtain ⟨A', c', w', hr, h2, h3⟩ := run_appV (P := P) (ty := o.type) E hold hsee h1 h63 hb
  unfold Oper.wp execOp
  simp only [ho, resolve, invoke, builtin, Sem.run_bind, Sem.run_pure, Result.andThen_ok, List.map_toArray, List.map_cons, List.map_nil, hs, hx, hr]
  exact h A' c' w' h2 h3
theorem NumR.le {c p q : Nat → Int} {err : Int} (h : NumR (szc c ≤ 1125899906842624) c p q err) : ∀ j < 4, (p j).natAbs ≤ 9007199254740992 ∧ (q j).natAbs ≤ 9007199254740992 := fun j hj => by
  rcases h with ⟨h, _, rfl, rfl⟩ | ⟨_, _, rfl, rfl⟩
  · have := d_le4 c j hj
    show (dR j c).natAbs ≤ _ ∧ (dI j c).natAbs ≤ _
    omega
  · exact ⟨Nat.zero_le _, Nat.zero_le _⟩
theorem Kn.made {p q : Nat → Int} {x y : Nat → Nat} (h : ∀ j < 4, (p j).natAbs ≤ 9007199254740992 ∧ (q j).natAbs ≤ 9007199254740992) (hx : ∀ j < 4, floatOfInt .f64 (p j) = x j ∧ floatOfInt .f64 (q j) = y j) : ∃ c err, Kn x y c err :=
  Kn.ex fun j hj => ⟨Pt.fi (by rw [← (hx j hj).1]; exact FI.ofInt (h j hj).1) (h j hj).1, Pt.fi (by rw [← (hx j hj).2]; exact FI.ofInt (h j hj).2) (h j hj).2⟩
theorem alloc_sizeU (w : World) (o : Obj) : (w.alloc o).heap.size = w.heap.size + 1 := by simp
theorem drew_sizeU (w : World) : w.drew.heap.size = w.heap.size := rfl
theorem keepS {V W : World} {g1 g2 : Nat} {p1 q1 p2 q2 : Nat → Int} (h : C8 g1 p1 q1 V ∧ C8 g2 p2 q2 V) (k : Below V.heap.size V W) : (C8 g1 p1 q1 W ∧ C8 g2 p2 q2 W) ∧ Below V.heap.size V W := ⟨⟨h.1.step k, h.2.step k⟩, k⟩
abbrev Put4 (W : World) (b : Nat) (x y : Nat → Nat) : World := (((W.setCell ⟨b, 0, none⟩ (.complex .f64 (x 0) (y 0))).setCell ⟨b, 1, none⟩ (.complex .f64 (x 1) (y 1))).setCell ⟨b, 2, none⟩ (.complex .f64 (x 2) (y 2))).setCell ⟨b, 3, none⟩ (.complex .f64 (x 3) (y 3))
abbrev Zs (W : World) (b : Nat) : Prop := Arr 26 W b #[.complex .f64 0 0, .complex .f64 0 0, .complex .f64 0 0, .complex .f64 0 0]
abbrev Fs (W : World) (b : Nat) (x y : Nat → Nat) : Prop := Arr 26 W b #[.complex .f64 (x 0) (y 0), .complex .f64 (x 1) (y 1), .complex .f64 (x 2) (y 2), .complex .f64 (x 3) (y 3)]
abbrev Two4 (V W : World) (a b : Nat) (xa ya xb yb : Nat → Nat) : Prop := Below V.heap.size V W ∧ Fs W a xa ya ∧ Fs W b xb yb
theorem Zs.new (W : World) : Zs (W.alloc (.cells #[.complex .f64 0 0, .complex .f64 0 0, .complex .f64 0 0, .complex .f64 0 0] 26)) W.heap.size := Arr.new _ _ _
theorem Zs.new1 (W : World) (o : Obj) : Zs ((W.alloc o).alloc (.cells #[.complex .f64 0 0, .complex .f64 0 0, .complex .f64 0 0, .complex .f64 0 0] 26)) (W.heap.size + 1) := Arr.new1 _ _ _ _
theorem two8 {V W : World} {a b : Nat} {xa ya xb yb : Nat → Nat} (hW : Below V.heap.size V W) (pa : Zs W a) (pb : Zs W b) (la : V.heap.size ≤ a) (lb : V.heap.size ≤ b) (ne : a ≠ b) : Two4 V (Put4 (Put4 W a xa ya) b xb yb) a b xa ya xb yb :=
  ⟨below_set4 (below_set4 hW la _ _ _ _) lb _ _ _ _, (pa.put4 _ _ _ _).other4 ne _ _ _ _, (pb.other4 ne.symm _ _ _ _).put4 _ _ _ _⟩
theorem twoA {V W : World} {b : Nat} {xa ya xb yb : Nat → Nat} (hW : Below V.heap.size V W) (pb : Zs W b) (lb : V.heap.size ≤ b) : Two4 V (Put4 (W.alloc (.cells #[.complex .f64 (xa 0) (ya 0), .complex .f64 (xa 1) (ya 1), .complex .f64 (xa 2) (ya 2), .complex .f64 (xa 3) (ya 3)] 26)) b xb yb) W.heap.size b xa ya xb yb :=
  ⟨below_set4 (below_al hW _) lb _ _ _ _, (Arr.new _ _ _).other4 (Nat.ne_of_gt pb.lt) _ _ _ _, (pb.al _).put4 _ _ _ _⟩
theorem twoB {V W : World} {xa ya xb yb : Nat → Nat} (hW : Below V.heap.size V W) : Two4 V ((W.alloc (.cells #[.complex .f64 (xa 0) (ya 0), .complex .f64 (xa 1) (ya 1), .complex .f64 (xa 2) (ya 2), .complex .f64 (xa 3) (ya 3)] 26)).alloc (.cells #[.complex .f64 (xb 0) (yb 0), .complex .f64 (xb 1) (yb 1), .complex .f64 (xb 2) (yb 2), .complex .f64 (xb 3) (yb 3)] 26)) W.heap.size (W.heap.size + 1) xa ya xb yb :=
  ⟨below_al (below_al hW _) _, (Arr.new _ _ _).al _, Arr.new1 _ _ _ _⟩
theorem twoC {V W : World} {xa ya xb yb : Nat → Nat} (hW : Below V.heap.size V W) : Two4 V ((W.alloc (.cells #[.complex .f64 (xb 0) (yb 0), .complex .f64 (xb 1) (yb 1), .complex .f64 (xb 2) (yb 2), .complex .f64 (xb 3) (yb 3)] 26)).alloc (.cells #[.complex .f64 (xa 0) (ya 0), .complex .f64 (xa 1) (ya 1), .complex .f64 (xa 2) (ya 2), .complex .f64 (xa 3) (ya 3)] 26)) (W.heap.size + 1) W.heap.size xa ya xb yb :=
  ⟨below_al (below_al hW _) _, Arr.new1 _ _ _ _, (Arr.new _ _ _).al _⟩
abbrev I4 (b : Nat) (c : Nat → Int) (w : World) : Prop := w.cell? ⟨b, 0, none⟩ = some (.int .i64 (c 0)) ∧ w.cell? ⟨b, 1, none⟩ = some (.int .i64 (c 1)) ∧ w.cell? ⟨b, 2, none⟩ = some (.int .i64 (c 2)) ∧ w.cell? ⟨b, 3, none⟩ = some (.int .i64 (c 3))
theorem I4.step {b : Nat} {c : Nat → Int} {w w' : World} (h : I4 b c w) (k : Below w.heap.size w w') : I4 b c w' := ⟨cell_step h.1 k, cell_step h.2.1 k, cell_step h.2.2.1 k, cell_step h.2.2.2 k⟩
theorem keepR {V w w' : World} {g1 g2 g3 g4 : Nat} {c d : Nat → Int} {xa ya xb yb : Nat → Nat} (h : (I4 g1 c w ∧ I4 g2 d w ∧ C4 g3 xa ya w ∧ C4 g4 xb yb w) ∧ Below V.heap.size V w) (k : Below w.heap.size w w') : (I4 g1 c w' ∧ I4 g2 d w' ∧ C4 g3 xa ya w' ∧ C4 g4 xb yb w') ∧ Below V.heap.size V w' := ⟨⟨h.1.1.step k, h.1.2.1.step k, h.1.2.2.1.step k, h.1.2.2.2.step k⟩, below_step h.2 k⟩
theorem keepR0 {V w : World} {g1 g2 g3 g4 : Nat} {c d : Nat → Int} {xa ya xb yb : Nat → Nat} (h : (I4 g1 c w ∧ I4 g2 d w ∧ C4 g3 xa ya w ∧ C4 g4 xb yb w) ∧ Below V.heap.size V w) : (I4 g1 c w.drew ∧ I4 g2 d w.drew ∧ C4 g3 xa ya w.drew ∧ C4 g4 xb yb w.drew) ∧ Below V.heap.size V w.drew := keepR h (Below.refl _ _).drew

set_option maxRecDepth 20000 in
set_option maxHeartbeats 4000000 in
theorem PhaseSmall_any (w : World) : Calls Try.prog 12 #[] w fun e w' => e = .returned (.bool true) ∧ Below w.heap.size w w' := by
  have hst := st_c
  have B0 : Hid (Below w.heap.size w w) := Lib.hid (Below.refl _ _)
  go_enter Try.func12, Try.ntmps12
  go_wp2_with fail
  go_loopw [28] (fun iv wr => ∃ n : Nat, Hid (n ≤ 243) ∧ iv = .int .i64 (n : Int) ∧ Hid (Below w.heap.size w wr)) (fun iv _ => 243 - (intOf iv).toNat)
  case atStart => exact ⟨0, Lib.hid (Nat.zero_le _), rfl, B0⟩
  case round =>
    clear B0
    obtain ⟨n, HN, rfl, B0⟩ := hrel
    by_cases hlt : n < 243
    · have hn9 : (n : Int) < 243 := Int.ofNat_lt.2 hlt
      have d0 : decide ((n : Int) < 243) = true := decide_eq_true hn9
      have d0' : decide (n < 243) = true := decide_eq_true hlt
      obtain ⟨a0, a1, a2, a3, b1, b2, b3, b4, a5, v0, v1, v2, v3, v4, v5, ⟨m0, m1, m2, m3, m4, m5, m6, m7, m8⟩, ⟨s0, s1, s2, s3, s4, s5⟩, ⟨u0, u1, u2, u3, u4, u5, u6, u7, u8⟩, ⟨x0, x1, x2, x3, x4, x5⟩, ⟨y0, y1, y2, y3, y4, y5⟩, hv⟩ := dig_facts hlt
      have HV := Lib.hid hv
      have HLT := Lib.hid hlt
      clear hv hlt
      have B1 : Hid (Below w.heap.size w (wr.alloc (.cells #[.int .i64 v0, .int .i64 v1, .int .i64 v2, .int .i64 v3, .int .i64 v4] 3)) ∧ Arr 3 (wr.alloc (.cells #[.int .i64 v0, .int .i64 v1, .int .i64 v2, .int .i64 v3, .int .i64 v4] 3)) wr.heap.size #[.int .i64 v0, .int .i64 v1, .int .i64 v2, .int .i64 v3, .int .i64 v4]) := Lib.hid ⟨below_al B0.out _, Arr.new _ _ _⟩
      go_upto_region 5 with fail
      generalize wr.alloc (.cells #[.int .i64 v0, .int .i64 v1, .int .i64 v2, .int .i64 v3, .int .i64 v4] 3) = V at B1 ⊢
      generalize wr.heap.size = g at B1 ⊢
      clear B0
      go_wp2_with fail
      clear m0 m1 m2 m3 m4 m5 m6 m7 s0 s1 s2 s3 s4
      go_loopw [50] (fun iv wq => ∃ k : Nat, Hid (k ≤ 6) ∧ iv = .int .i64 (k : Int) ∧ Hid (Below V.heap.size V wq)) (fun iv _ => 6 - (intOf iv).toNat)
      case atStart => exact ⟨0, Lib.hid (Nat.zero_le _), rfl, Lib.hid (Below.refl _ _)⟩
      case round =>
        obtain ⟨k, HK, rfl, B2⟩ := hrel
        by_cases hlt : k < 6
        · have hk9 : (k : Int) < 6 := Int.ofNat_lt.2 hlt
          have d1 : decide ((k : Int) < 6) = true := decide_eq_true hk9
          have d1' : decide (k < 6) = true := decide_eq_true hlt
          have hk5 : (k : Int) ≤ 5 := Int.lt_add_one_iff.1 hk9
          have hcut := fun w => run_cutr E_ii (some ⟨g, 0, none⟩) 5 5 k (Nat.le_of_lt_succ hlt) w
          have hc1 := cut_one g
          have har := arr_at g
          have HLT2 := Lib.hid hlt
          have A5 := B1.out.2.step B2.out
          have hsee : Sees wr 1 (some ⟨g, 0, none⟩) k 5 (([v0, v1, v2, v3, v4].take k).map (Value.int .i64)) := by
            have h := (sees_block A5 rfl (Nat.le_refl _) (by decide) ⟨[], rfl⟩ : Sees wr 1 _ 5 5 ([v0, v1, v2, v3, v4].map (Value.int .i64))).pre (k := k) (Nat.le_of_lt_succ hlt)
            rwa [Nat.mul_one, ← List.map_take] at h
          have HSEE := Lib.hid hsee
          have hS0 : C5 g v0 v1 v2 v3 v4 wr ∧ Below wr.heap.size wr wr := ⟨⟨⟨A5.c 0, A5.c 1⟩, A5.c 2, A5.c 3, A5.c 4⟩, Below.refl _ _⟩
          clear hlt A5 hsee
          go_wp2_with fail
          go_region_held3 (fun w' => C5 g v0 v1 v2 v3 v4 w' ∧ Below wr.heap.size wr w') (first | exact keep50 hS0 | exact keep5 (by assumption) (by assumption) | assumption) (first | (go_at_call 26; refine (tells4 _ k 5 _ _ _ _ _ _ _ (HSEE.out.below (And.right (by assumption)) (Nat.le_refl _)) (Nat.le_trans (Nat.le_of_lt HLT2.out) (by decide))).mono ?_; rintro e w' ⟨rfl, kk⟩))
          rename_i hH
          have B3 := Lib.hid (below_step B2.out hH.2)
          clear hH hS0 kk
          go_wp2_with fail
          go_roundw
          case rel => exact ⟨k + 1, Lib.hid HLT2.out, by go_num, B3⟩
          case measure => have h1 := HLT2.out; clear m8; simp [intOf]; omega
        · obtain rfl : k = 6 := Nat.le_antisymm HK.out (Nat.not_lt.1 hlt)
          clear hlt HK
          obtain ⟨C1, hC1⟩ : ∃ C, cs [v0, v1, v2, v3, v4] 5 = C := ⟨_, rfl⟩
          obtain ⟨C2, hC2⟩ : ∃ C, cs [v2, v3, v4] 3 = C := ⟨_, rfl⟩
          have HS1 : Hid (szc C1 ≤ 1125899906842624 ∧ szc C2 ≤ 1125899906842624) := Lib.hid ⟨by rw [← hC1]; exact Nat.le_trans (szc_cs _ _) (sz5 HV.out).1, by rw [← hC2]; exact Nat.le_trans (szc_cs _ _) (sz5 HV.out).2⟩
          have HC1 := Lib.hid hC1
          have HC2 := Lib.hid hC2
          have hc2 := cut_two g
          have A5 := Lib.hid (And.intro (below_step B1.out.1 B2.out) (B1.out.2.step B2.out))
          clear hC1 hC2 B2
          go_upto_region 12 with (go_at_call 15; refine (Of_right _ 5 5 [v0, v1, v2, v3, v4] C1 _ (sees_block A5.out.2 rfl (Nat.le_refl _) (by decide) ⟨[], rfl⟩ : Sees _ 1 _ 5 5 ([v0, v1, v2, v3, v4].map (Value.int .i64))) (sz5 HV.out).1 (fun r _ => by rw [HC1.out])).mono ?_; rintro e w1 ⟨x, y, rfl, f, kk⟩; have F1 := Lib.hid f; have B3 : Hid (Below w.heap.size w (w1.alloc (.cells #[.complex .f64 (x 0) (y 0), .complex .f64 (x 1) (y 1), .complex .f64 (x 2) (y 2), .complex .f64 (x 3) (y 3)] 26)) ∧ Arr 3 (w1.alloc (.cells #[.complex .f64 (x 0) (y 0), .complex .f64 (x 1) (y 1), .complex .f64 (x 2) (y 2), .complex .f64 (x 3) (y 3)] 26)) g #[.int .i64 v0, .int .i64 v1, .int .i64 v2, .int .i64 v3, .int .i64 v4] ∧ Arr 26 (w1.alloc (.cells #[.complex .f64 (x 0) (y 0), .complex .f64 (x 1) (y 1), .complex .f64 (x 2) (y 2), .complex .f64 (x 3) (y 3)] 26)) w1.heap.size #[.complex .f64 (x 0) (y 0), .complex .f64 (x 1) (y 1), .complex .f64 (x 2) (y 2), .complex .f64 (x 3) (y 3)]) := Lib.hid ⟨below_al (below_step A5.out.1 kk) _, (A5.out.2.step kk).al _, Arr.new _ _ _⟩; clear f kk)
          generalize w1.alloc (.cells #[.complex .f64 (x 0) (y 0), .complex .f64 (x 1) (y 1), .complex .f64 (x 2) (y 2), .complex .f64 (x 3) (y 3)] 26) = V1 at B3 ⊢
          generalize w1.heap.size = g1 at B3 ⊢
          clear A5
          go_upto_region 13 with (go_at_call 15; refine (Of_right _ 3 3 [v2, v3, v4] C2 _ (sees_two B3.out.2.1) (sz5 HV.out).2 (fun r _ => by rw [HC2.out])).mono ?_; rintro e w2 ⟨x', y', rfl, f, kk⟩; have F2 := Lib.hid f; have B4 : Hid (Below w.heap.size w (w2.alloc (.cells #[.complex .f64 (x' 0) (y' 0), .complex .f64 (x' 1) (y' 1), .complex .f64 (x' 2) (y' 2), .complex .f64 (x' 3) (y' 3)] 26)) ∧ Arr 26 (w2.alloc (.cells #[.complex .f64 (x' 0) (y' 0), .complex .f64 (x' 1) (y' 1), .complex .f64 (x' 2) (y' 2), .complex .f64 (x' 3) (y' 3)] 26)) g1 #[.complex .f64 (x 0) (y 0), .complex .f64 (x 1) (y 1), .complex .f64 (x 2) (y 2), .complex .f64 (x 3) (y 3)] ∧ Arr 26 (w2.alloc (.cells #[.complex .f64 (x' 0) (y' 0), .complex .f64 (x' 1) (y' 1), .complex .f64 (x' 2) (y' 2), .complex .f64 (x' 3) (y' 3)] 26)) w2.heap.size #[.complex .f64 (x' 0) (y' 0), .complex .f64 (x' 1) (y' 1), .complex .f64 (x' 2) (y' 2), .complex .f64 (x' 3) (y' 3)]) := Lib.hid ⟨below_al (below_step B3.out.1 kk) _, (B3.out.2.2.step kk).al _, Arr.new _ _ _⟩; clear f kk)
          generalize w2.alloc (.cells #[.complex .f64 (x' 0) (y' 0), .complex .f64 (x' 1) (y' 1), .complex .f64 (x' 2) (y' 2), .complex .f64 (x' 3) (y' 3)] 26) = V2 at B4 ⊢
          generalize w2.heap.size = g2 at B4 ⊢
          clear B3
          obtain ⟨c1, k1, HK1⟩ := Kn.of_cif F1.out HS1.out.1
          obtain ⟨c2, k2, HK2⟩ := Kn.of_cif F2.out HS1.out.2
          have HKK := Lib.hid (And.intro HK1 HK2)
          clear HK1 HK2
          have B5 : Hid (Below w.heap.size w (V2.alloc (.cells #[.int .i64 (-9223372036854775808), .int .i64 (-5), .int .i64 (-1), .int .i64 0, .int .i64 1, .int .i64 2, .int .i64 3, .int .i64 4, .int .i64 7, .int .i64 9223372036854775807] 3)) ∧ Arr 26 (V2.alloc (.cells #[.int .i64 (-9223372036854775808), .int .i64 (-5), .int .i64 (-1), .int .i64 0, .int .i64 1, .int .i64 2, .int .i64 3, .int .i64 4, .int .i64 7, .int .i64 9223372036854775807] 3)) g1 #[.complex .f64 (x 0) (y 0), .complex .f64 (x 1) (y 1), .complex .f64 (x 2) (y 2), .complex .f64 (x 3) (y 3)] ∧ Arr 26 (V2.alloc (.cells #[.int .i64 (-9223372036854775808), .int .i64 (-5), .int .i64 (-1), .int .i64 0, .int .i64 1, .int .i64 2, .int .i64 3, .int .i64 4, .int .i64 7, .int .i64 9223372036854775807] 3)) g2 #[.complex .f64 (x' 0) (y' 0), .complex .f64 (x' 1) (y' 1), .complex .f64 (x' 2) (y' 2), .complex .f64 (x' 3) (y' 3)] ∧ Arr 3 (V2.alloc (.cells #[.int .i64 (-9223372036854775808), .int .i64 (-5), .int .i64 (-1), .int .i64 0, .int .i64 1, .int .i64 2, .int .i64 3, .int .i64 4, .int .i64 7, .int .i64 9223372036854775807] 3)) V2.heap.size #[.int .i64 (-9223372036854775808), .int .i64 (-5), .int .i64 (-1), .int .i64 0, .int .i64 1, .int .i64 2, .int .i64 3, .int .i64 4, .int .i64 7, .int .i64 9223372036854775807]) := Lib.hid ⟨below_al B4.out.1 _, B4.out.2.1.al _, B4.out.2.2.al _, Arr.new _ _ _⟩
          go_upto_region 14 with fail
          generalize V2.alloc (.cells #[.int .i64 (-9223372036854775808), .int .i64 (-5), .int .i64 (-1), .int .i64 0, .int .i64 1, .int .i64 2, .int .i64 3, .int .i64 4, .int .i64 7, .int .i64 9223372036854775807] 3) = V3 at B5 ⊢
          generalize V2.heap.size = g3 at B5 ⊢
          clear B4
          go_loopw [79] (fun iv wr => ∃ i : Nat, Hid (i ≤ 10) ∧ iv = .int .i64 (i : Int) ∧ Hid (Below w.heap.size w wr ∧ Arr 26 wr g1 #[.complex .f64 (x 0) (y 0), .complex .f64 (x 1) (y 1), .complex .f64 (x 2) (y 2), .complex .f64 (x 3) (y 3)] ∧ Arr 26 wr g2 #[.complex .f64 (x' 0) (y' 0), .complex .f64 (x' 1) (y' 1), .complex .f64 (x' 2) (y' 2), .complex .f64 (x' 3) (y' 3)] ∧ Arr 3 wr g3 #[.int .i64 (-9223372036854775808), .int .i64 (-5), .int .i64 (-1), .int .i64 0, .int .i64 1, .int .i64 2, .int .i64 3, .int .i64 4, .int .i64 7, .int .i64 9223372036854775807])) (fun iv _ => 10 - (intOf iv).toNat)
          case atStart => exact ⟨0, Lib.hid (Nat.zero_le _), rfl, B5⟩
          case round =>
            clear B5
            obtain ⟨i, HI, rfl, B5⟩ := hrel
            by_cases hlt : i < 10
            · have hi9 : (i : Int) < 10 := Int.ofNat_lt.2 hlt
              have d2 : decide ((i : Int) < 10) = true := decide_eq_true hi9
              have d2' : decide (i < 10) = true := decide_eq_true hlt
              obtain ⟨mv, hmv, hb1, hb2⟩ := shifts_at i hlt
              have e0 := (B5.out.2.2.2.c i).trans hmv
              have HB := Lib.hid (And.intro hb1 hb2)
              have HLT2 := Lib.hid hlt
              obtain ⟨⟨p0, p1, p2, p3⟩, -⟩ := B5.out.2.1.four
              obtain ⟨⟨q0, q1, q2, q3⟩, -⟩ := B5.out.2.2.1.four
              clear hlt hmv hb1 hb2
              go_wp2_with (go_at_call 28; refine (sumsK HKK.out.1 HKK.out.2 mv _ HB.out).mono ?_; rintro e w5 ⟨rfl, kk⟩; have B6 : Hid (Below w.heap.size w w5 ∧ Arr 26 w5 g1 #[.complex .f64 (x 0) (y 0), .complex .f64 (x 1) (y 1), .complex .f64 (x 2) (y 2), .complex .f64 (x 3) (y 3)] ∧ Arr 26 w5 g2 #[.complex .f64 (x' 0) (y' 0), .complex .f64 (x' 1) (y' 1), .complex .f64 (x' 2) (y' 2), .complex .f64 (x' 3) (y' 3)] ∧ Arr 3 w5 g3 #[.int .i64 (-9223372036854775808), .int .i64 (-5), .int .i64 (-1), .int .i64 0, .int .i64 1, .int .i64 2, .int .i64 3, .int .i64 4, .int .i64 7, .int .i64 9223372036854775807]) := Lib.hid ⟨below_step B5.out.1 kk, B5.out.2.1.step kk, B5.out.2.2.1.step kk, B5.out.2.2.2.step kk⟩; clear kk)
              go_roundw
              case rel => exact ⟨i + 1, Lib.hid HLT2.out, by go_num, B6⟩
              case measure => have h1 := HLT2.out; clear m8; simp [intOf]; omega
            · obtain rfl : i = 10 := Nat.le_antisymm HI.out (Nat.not_lt.1 hlt)
              clear hlt HI
              go_wp2_with fail
              go_roundw
              case rel => exact ⟨n + 1, Lib.hid HLT.out, by go_num, Lib.hid B5.out.1⟩
              case measure => have h1 := HLT.out; clear m8; simp [intOf]; omega
    · obtain rfl : n = 243 := Nat.le_antisymm HN.out (Nat.not_lt.1 hlt)
      clear hlt HN
      rw [show ((243 : Nat) : Int) = 243 from rfl]
      obtain ⟨x, y, hz, hpt⟩ := z_lit
      have HPT := Lib.hid hpt
      have B1 : Hid (Below w.heap.size w (wr.alloc (.cells #[.complex .f64 4624633867356078080 0, .complex .f64 4613937818241073152 13835058055282163712, .complex .f64 4613937818241073152 0, .complex .f64 4613937818241073152 4611686018427387904] 26)) ∧ Arr 26 (wr.alloc (.cells #[.complex .f64 4624633867356078080 0, .complex .f64 4613937818241073152 13835058055282163712, .complex .f64 4613937818241073152 0, .complex .f64 4613937818241073152 4611686018427387904] 26)) wr.heap.size #[.complex .f64 (x 0) (y 0), .complex .f64 (x 1) (y 1), .complex .f64 (x 2) (y 2), .complex .f64 (x 3) (y 3)]) := Lib.hid ⟨below_al B0.out _, by rw [← hz]; exact Arr.new _ _ _⟩
      clear hz hpt
      go_upto_region 21 with fail
      generalize wr.alloc (.cells #[.complex .f64 4624633867356078080 0, .complex .f64 4613937818241073152 13835058055282163712, .complex .f64 4613937818241073152 0, .complex .f64 4613937818241073152 4611686018427387904] 26) = V at B1 ⊢
      generalize wr.heap.size = gz at B1 ⊢
      clear B0
      obtain ⟨cz, kz, hkz⟩ := Kn.ex HPT.out
      have HKZ := Lib.hid hkz
      clear hkz
      go_wp2_with fail
      go_loopw [91] (fun iv wr => ∃ j : Nat, Hid (j ≤ 4) ∧ iv = .int .i64 (j : Int) ∧ Hid (Below w.heap.size w wr ∧ Arr 26 wr gz #[.complex .f64 (x 0) (y 0), .complex .f64 (x 1) (y 1), .complex .f64 (x 2) (y 2), .complex .f64 (x 3) (y 3)])) (fun iv _ => 4 - (intOf iv).toNat)
      case atStart => exact ⟨0, Lib.hid (Nat.zero_le _), rfl, B1⟩
      case round =>
        clear B1
        obtain ⟨j, HJ, rfl, B1⟩ := hrel
        by_cases hlt : j < 4
        · have hj9 : (j : Int) < 4 := Int.ofNat_lt.2 hlt
          have d0 : decide ((j : Int) < 4) = true := decide_eq_true hj9
          have d0' : decide (j < 4) = true := decide_eq_true hlt
          have HLT := Lib.hid hlt
          have B2 : Hid (Below w.heap.size w (wr.alloc (.cells #[.float .f64 9221120237041090561, .float .f64 9218868437227405312, .float .f64 18442240474082181120, .float .f64 4602678819172646912, .float .f64 4607182418800017408, .float .f64 13830554455654793216, .float .f64 4613937818241073152, .float .f64 4611686018427387904, .float .f64 13821547256400052224, .float .f64 4619567317775286272, .float .f64 4832362400168542208, .float .f64 4832362400168542212, .float .f64 14060238036650688512, .float .f64 4886405595696988160, .float .f64 9094988921128908188, .float .f64 9223372036854775808] 50)) ∧ Arr 26 (wr.alloc (.cells #[.float .f64 9221120237041090561, .float .f64 9218868437227405312, .float .f64 18442240474082181120, .float .f64 4602678819172646912, .float .f64 4607182418800017408, .float .f64 13830554455654793216, .float .f64 4613937818241073152, .float .f64 4611686018427387904, .float .f64 13821547256400052224, .float .f64 4619567317775286272, .float .f64 4832362400168542208, .float .f64 4832362400168542212, .float .f64 14060238036650688512, .float .f64 4886405595696988160, .float .f64 9094988921128908188, .float .f64 9223372036854775808] 50)) gz #[.complex .f64 (x 0) (y 0), .complex .f64 (x 1) (y 1), .complex .f64 (x 2) (y 2), .complex .f64 (x 3) (y 3)] ∧ Arr 50 (wr.alloc (.cells #[.float .f64 9221120237041090561, .float .f64 9218868437227405312, .float .f64 18442240474082181120, .float .f64 4602678819172646912, .float .f64 4607182418800017408, .float .f64 13830554455654793216, .float .f64 4613937818241073152, .float .f64 4611686018427387904, .float .f64 13821547256400052224, .float .f64 4619567317775286272, .float .f64 4832362400168542208, .float .f64 4832362400168542212, .float .f64 14060238036650688512, .float .f64 4886405595696988160, .float .f64 9094988921128908188, .float .f64 9223372036854775808] 50)) wr.heap.size #[.float .f64 9221120237041090561, .float .f64 9218868437227405312, .float .f64 18442240474082181120, .float .f64 4602678819172646912, .float .f64 4607182418800017408, .float .f64 13830554455654793216, .float .f64 4613937818241073152, .float .f64 4611686018427387904, .float .f64 13821547256400052224, .float .f64 4619567317775286272, .float .f64 4832362400168542208, .float .f64 4832362400168542212, .float .f64 14060238036650688512, .float .f64 4886405595696988160, .float .f64 9094988921128908188, .float .f64 9223372036854775808]) := Lib.hid ⟨below_al B1.out.1 _, B1.out.2.al _, Arr.new _ _ _⟩
          clear hlt
          go_upto_region 25 with (first
            | (go_at_call 29; refine (NaN_any _).mono ?_; rintro e w2 ⟨rfl, rfl⟩)
            | (go_at_call_of 30 (Value.int .i64 1); refine (Inf_pos _).mono ?_; rintro e w2 ⟨rfl, rfl⟩)
            | (go_at_call 30; refine (Inf_neg _).mono ?_; rintro e w2 ⟨rfl, rfl⟩)
            | (go_at_call 31; refine (Copysign_zero _).mono ?_; rintro e w2 ⟨rfl, rfl⟩))
          generalize w2.alloc (.cells #[.float .f64 9221120237041090561, .float .f64 9218868437227405312, .float .f64 18442240474082181120, .float .f64 4602678819172646912, .float .f64 4607182418800017408, .float .f64 13830554455654793216, .float .f64 4613937818241073152, .float .f64 4611686018427387904, .float .f64 13821547256400052224, .float .f64 4619567317775286272, .float .f64 4832362400168542208, .float .f64 4832362400168542212, .float .f64 14060238036650688512, .float .f64 4886405595696988160, .float .f64 9094988921128908188, .float .f64 9223372036854775808] 50) = V2 at B2 ⊢
          generalize w2.heap.size = gx at B2 ⊢
          clear B1
          go_loopw [100] (fun iv wr => ∃ i : Nat, Hid (i ≤ 16) ∧ iv = .int .i64 (i : Int) ∧ Hid (Below w.heap.size w (wr) ∧ Arr 26 (wr) gz #[.complex .f64 (x 0) (y 0), .complex .f64 (x 1) (y 1), .complex .f64 (x 2) (y 2), .complex .f64 (x 3) (y 3)] ∧ Arr 50 (wr) gx #[.float .f64 9221120237041090561, .float .f64 9218868437227405312, .float .f64 18442240474082181120, .float .f64 4602678819172646912, .float .f64 4607182418800017408, .float .f64 13830554455654793216, .float .f64 4613937818241073152, .float .f64 4611686018427387904, .float .f64 13821547256400052224, .float .f64 4619567317775286272, .float .f64 4832362400168542208, .float .f64 4832362400168542212, .float .f64 14060238036650688512, .float .f64 4886405595696988160, .float .f64 9094988921128908188, .float .f64 9223372036854775808])) (fun iv _ => 16 - (intOf iv).toNat)
          case atStart => exact ⟨0, Lib.hid (Nat.zero_le _), rfl, B2⟩
          case round =>
            clear B2
            obtain ⟨i, HI, rfl, B2⟩ := hrel
            by_cases hlt : i < 16
            · have hi9 : (i : Int) < 16 := Int.ofNat_lt.2 hlt
              have d1 : decide ((i : Int) < 16) = true := decide_eq_true hi9
              have d1' : decide (i < 16) = true := decide_eq_true hlt
              obtain ⟨b, hb, hpb⟩ := xs_at i hlt
              have e0 := (B2.out.2.2.c i).trans hb
              have HPB := Lib.hid hpb
              have HLT2 := Lib.hid hlt
              clear hlt hb hpb
              obtain ⟨⟨z0, z1, z2, z3⟩, -⟩ := B2.out.2.1.four
              have B3 : Hid ((Below w.heap.size w (wr.alloc (.cells #[.complex .f64 (x 0) (y 0), .complex .f64 (x 1) (y 1), .complex .f64 (x 2) (y 2), .complex .f64 (x 3) (y 3)] 26)) ∧ Arr 26 (wr.alloc (.cells #[.complex .f64 (x 0) (y 0), .complex .f64 (x 1) (y 1), .complex .f64 (x 2) (y 2), .complex .f64 (x 3) (y 3)] 26)) gz #[.complex .f64 (x 0) (y 0), .complex .f64 (x 1) (y 1), .complex .f64 (x 2) (y 2), .complex .f64 (x 3) (y 3)] ∧ Arr 50 (wr.alloc (.cells #[.complex .f64 (x 0) (y 0), .complex .f64 (x 1) (y 1), .complex .f64 (x 2) (y 2), .complex .f64 (x 3) (y 3)] 26)) gx #[.float .f64 9221120237041090561, .float .f64 9218868437227405312, .float .f64 18442240474082181120, .float .f64 4602678819172646912, .float .f64 4607182418800017408, .float .f64 13830554455654793216, .float .f64 4613937818241073152, .float .f64 4611686018427387904, .float .f64 13821547256400052224, .float .f64 4619567317775286272, .float .f64 4832362400168542208, .float .f64 4832362400168542212, .float .f64 14060238036650688512, .float .f64 4886405595696988160, .float .f64 9094988921128908188, .float .f64 9223372036854775808] ∧ Arr 26 (wr.alloc (.cells #[.complex .f64 (x 0) (y 0), .complex .f64 (x 1) (y 1), .complex .f64 (x 2) (y 2), .complex .f64 (x 3) (y 3)] 26)) wr.heap.size #[.complex .f64 (x 0) (y 0), .complex .f64 (x 1) (y 1), .complex .f64 (x 2) (y 2), .complex .f64 (x 3) (y 3)]) ∧ (gz < wr.heap.size ∧ gx < wr.heap.size ∧ w.heap.size ≤ wr.heap.size)) := Lib.hid ⟨⟨below_al B2.out.1 _, B2.out.2.1.al _, B2.out.2.2.al _, Arr.new _ _ _⟩, B2.out.2.1.lt, B2.out.2.2.lt, B2.out.1.size⟩
              go_upto_region 28 with fail
              generalize wr.alloc (.cells #[.complex .f64 (x 0) (y 0), .complex .f64 (x 1) (y 1), .complex .f64 (x 2) (y 2), .complex .f64 (x 3) (y 3)] 26) = V3 at B3 ⊢
              generalize wr.heap.size = gy at B3 ⊢
              clear B2 e0 z0 z1 z2 z3
              have hsy := zc_set x y j b (y j) HLT.out
              have ez := (B3.out.1.2.1.c j).trans (zc_get2 x y j HLT.out)
              have ey := (B3.out.1.2.2.2.c j).trans (zc_get2 x y j HLT.out)
              have fy := B3.out.1.2.2.2.f j
              go_upto_region 29 with fail
              have B4 : Hid ((Below w.heap.size w (V3.setCell ⟨gy, j, none⟩ (.complex .f64 b (y j))) ∧ Arr 26 (V3.setCell ⟨gy, j, none⟩ (.complex .f64 b (y j))) gz #[.complex .f64 (x 0) (y 0), .complex .f64 (x 1) (y 1), .complex .f64 (x 2) (y 2), .complex .f64 (x 3) (y 3)] ∧ Arr 50 (V3.setCell ⟨gy, j, none⟩ (.complex .f64 b (y j))) gx #[.float .f64 9221120237041090561, .float .f64 9218868437227405312, .float .f64 18442240474082181120, .float .f64 4602678819172646912, .float .f64 4607182418800017408, .float .f64 13830554455654793216, .float .f64 4613937818241073152, .float .f64 4611686018427387904, .float .f64 13821547256400052224, .float .f64 4619567317775286272, .float .f64 4832362400168542208, .float .f64 4832362400168542212, .float .f64 14060238036650688512, .float .f64 4886405595696988160, .float .f64 9094988921128908188, .float .f64 9223372036854775808] ∧ Arr 26 (V3.setCell ⟨gy, j, none⟩ (.complex .f64 b (y j))) gy #[.complex .f64 ((updn x j b) 0) ((updn y j (y j)) 0), .complex .f64 ((updn x j b) 1) ((updn y j (y j)) 1), .complex .f64 ((updn x j b) 2) ((updn y j (y j)) 2), .complex .f64 ((updn x j b) 3) ((updn y j (y j)) 3)]) ∧ (gz < gy ∧ gx < gy ∧ w.heap.size ≤ gy)) := Lib.hid ⟨⟨B3.out.1.1.setCell (show w.heap.size ≤ (⟨gy, j, none⟩ : Addr).block from B3.out.2.2.2) _, B3.out.1.2.1.other (k := j) _ (Nat.ne_of_lt B3.out.2.1), B3.out.1.2.2.1.other (k := j) _ (Nat.ne_of_lt B3.out.2.2.1), by rw [← hsy]; exact B3.out.1.2.2.2.set j _⟩, B3.out.2⟩
              generalize V3.setCell ⟨gy, j, none⟩ (.complex .f64 b (y j)) = V4 at B4 ⊢
              clear B3 hsy ez ey fy
              obtain ⟨⟨z0, z1, z2, z3⟩, -⟩ := B4.out.1.2.1.four
              have B5 : Hid ((Below w.heap.size w (V4.alloc (.cells #[.complex .f64 (x 0) (y 0), .complex .f64 (x 1) (y 1), .complex .f64 (x 2) (y 2), .complex .f64 (x 3) (y 3)] 26)) ∧ Arr 26 (V4.alloc (.cells #[.complex .f64 (x 0) (y 0), .complex .f64 (x 1) (y 1), .complex .f64 (x 2) (y 2), .complex .f64 (x 3) (y 3)] 26)) gz #[.complex .f64 (x 0) (y 0), .complex .f64 (x 1) (y 1), .complex .f64 (x 2) (y 2), .complex .f64 (x 3) (y 3)] ∧ Arr 50 (V4.alloc (.cells #[.complex .f64 (x 0) (y 0), .complex .f64 (x 1) (y 1), .complex .f64 (x 2) (y 2), .complex .f64 (x 3) (y 3)] 26)) gx #[.float .f64 9221120237041090561, .float .f64 9218868437227405312, .float .f64 18442240474082181120, .float .f64 4602678819172646912, .float .f64 4607182418800017408, .float .f64 13830554455654793216, .float .f64 4613937818241073152, .float .f64 4611686018427387904, .float .f64 13821547256400052224, .float .f64 4619567317775286272, .float .f64 4832362400168542208, .float .f64 4832362400168542212, .float .f64 14060238036650688512, .float .f64 4886405595696988160, .float .f64 9094988921128908188, .float .f64 9223372036854775808] ∧ Arr 26 (V4.alloc (.cells #[.complex .f64 (x 0) (y 0), .complex .f64 (x 1) (y 1), .complex .f64 (x 2) (y 2), .complex .f64 (x 3) (y 3)] 26)) gy #[.complex .f64 ((updn x j b) 0) ((updn y j (y j)) 0), .complex .f64 ((updn x j b) 1) ((updn y j (y j)) 1), .complex .f64 ((updn x j b) 2) ((updn y j (y j)) 2), .complex .f64 ((updn x j b) 3) ((updn y j (y j)) 3)] ∧ Arr 26 (V4.alloc (.cells #[.complex .f64 (x 0) (y 0), .complex .f64 (x 1) (y 1), .complex .f64 (x 2) (y 2), .complex .f64 (x 3) (y 3)] 26)) V4.heap.size #[.complex .f64 (x 0) (y 0), .complex .f64 (x 1) (y 1), .complex .f64 (x 2) (y 2), .complex .f64 (x 3) (y 3)]) ∧ (gz < V4.heap.size ∧ gx < V4.heap.size ∧ gy < V4.heap.size ∧ w.heap.size ≤ V4.heap.size)) := Lib.hid ⟨⟨below_al B4.out.1.1 _, B4.out.1.2.1.al _, B4.out.1.2.2.1.al _, B4.out.1.2.2.2.al _, Arr.new _ _ _⟩, B4.out.1.2.1.lt, B4.out.1.2.2.1.lt, B4.out.1.2.2.2.lt, B4.out.1.1.size⟩
              go_upto_region 30 with fail
              generalize V4.alloc (.cells #[.complex .f64 (x 0) (y 0), .complex .f64 (x 1) (y 1), .complex .f64 (x 2) (y 2), .complex .f64 (x 3) (y 3)] 26) = V5 at B5 ⊢
              generalize V4.heap.size = gw at B5 ⊢
              clear B4 z0 z1 z2 z3
              have hsw := zc_set x y j (x j) b HLT.out
              have ez := (B5.out.1.2.1.c j).trans (zc_get2 x y j HLT.out)
              have ew := (B5.out.1.2.2.2.2.c j).trans (zc_get2 x y j HLT.out)
              have fw := B5.out.1.2.2.2.2.f j
              go_upto_region 31 with fail
              have B7 : Hid (Below w.heap.size w (V5.setCell ⟨gw, j, none⟩ (.complex .f64 (x j) b)) ∧ Arr 26 (V5.setCell ⟨gw, j, none⟩ (.complex .f64 (x j) b)) gz #[.complex .f64 (x 0) (y 0), .complex .f64 (x 1) (y 1), .complex .f64 (x 2) (y 2), .complex .f64 (x 3) (y 3)] ∧ Arr 50 (V5.setCell ⟨gw, j, none⟩ (.complex .f64 (x j) b)) gx #[.float .f64 9221120237041090561, .float .f64 9218868437227405312, .float .f64 18442240474082181120, .float .f64 4602678819172646912, .float .f64 4607182418800017408, .float .f64 13830554455654793216, .float .f64 4613937818241073152, .float .f64 4611686018427387904, .float .f64 13821547256400052224, .float .f64 4619567317775286272, .float .f64 4832362400168542208, .float .f64 4832362400168542212, .float .f64 14060238036650688512, .float .f64 4886405595696988160, .float .f64 9094988921128908188, .float .f64 9223372036854775808] ∧ Arr 26 (V5.setCell ⟨gw, j, none⟩ (.complex .f64 (x j) b)) gy #[.complex .f64 ((updn x j b) 0) ((updn y j (y j)) 0), .complex .f64 ((updn x j b) 1) ((updn y j (y j)) 1), .complex .f64 ((updn x j b) 2) ((updn y j (y j)) 2), .complex .f64 ((updn x j b) 3) ((updn y j (y j)) 3)] ∧ Arr 26 (V5.setCell ⟨gw, j, none⟩ (.complex .f64 (x j) b)) gw #[.complex .f64 ((updn x j (x j)) 0) ((updn y j b) 0), .complex .f64 ((updn x j (x j)) 1) ((updn y j b) 1), .complex .f64 ((updn x j (x j)) 2) ((updn y j b) 2), .complex .f64 ((updn x j (x j)) 3) ((updn y j b) 3)]) := Lib.hid ⟨B5.out.1.1.setCell (show w.heap.size ≤ (⟨gw, j, none⟩ : Addr).block from B5.out.2.2.2.2) _, B5.out.1.2.1.other (k := j) _ (Nat.ne_of_lt B5.out.2.1), B5.out.1.2.2.1.other (k := j) _ (Nat.ne_of_lt B5.out.2.2.1), B5.out.1.2.2.2.1.other (k := j) _ (Nat.ne_of_lt B5.out.2.2.2.1), by rw [← hsw]; exact B5.out.1.2.2.2.2.set j _⟩
              generalize V5.setCell ⟨gw, j, none⟩ (.complex .f64 (x j) b) = V6 at B7 ⊢
              clear B5 hsw ez ew fw
              obtain ⟨cy, ky, hky⟩ := Kn.ex (pt_upd HPT.out j HPB.out (HPT.out j HLT.out).2)
              obtain ⟨cw, kw, hkw⟩ := Kn.ex (pt_upd HPT.out j (HPT.out j HLT.out).1 HPB.out)
              have HKY := Lib.hid hky
              have HKW := Lib.hid hkw
              clear hky hkw
              obtain ⟨⟨oz0, oz1, oz2, oz3⟩, -⟩ := (B7.out.2.1).four; obtain ⟨⟨oy0, oy1, oy2, oy3⟩, -⟩ := (B7.out.2.2.2.1).four; obtain ⟨⟨ow0, ow1, ow2, ow3⟩, -⟩ := (B7.out.2.2.2.2).four
              go_wp2_with (first
                | (go_at_call 28; have _q := K4; refine (sumsK HKW.out HKY.out (5) _ (by decide)).mono ?_; rintro e w85 ⟨rfl, kk⟩; have K5 : Hid (Below w.heap.size w (w85) ∧ Arr 26 (w85) gz #[.complex .f64 (x 0) (y 0), .complex .f64 (x 1) (y 1), .complex .f64 (x 2) (y 2), .complex .f64 (x 3) (y 3)] ∧ Arr 50 (w85) gx #[.float .f64 9221120237041090561, .float .f64 9218868437227405312, .float .f64 18442240474082181120, .float .f64 4602678819172646912, .float .f64 4607182418800017408, .float .f64 13830554455654793216, .float .f64 4613937818241073152, .float .f64 4611686018427387904, .float .f64 13821547256400052224, .float .f64 4619567317775286272, .float .f64 4832362400168542208, .float .f64 4832362400168542212, .float .f64 14060238036650688512, .float .f64 4886405595696988160, .float .f64 9094988921128908188, .float .f64 9223372036854775808] ∧ Arr 26 (w85) gy #[.complex .f64 ((updn x j b) 0) ((updn y j (y j)) 0), .complex .f64 ((updn x j b) 1) ((updn y j (y j)) 1), .complex .f64 ((updn x j b) 2) ((updn y j (y j)) 2), .complex .f64 ((updn x j b) 3) ((updn y j (y j)) 3)] ∧ Arr 26 (w85) gw #[.complex .f64 ((updn x j (x j)) 0) ((updn y j b) 0), .complex .f64 ((updn x j (x j)) 1) ((updn y j b) 1), .complex .f64 ((updn x j (x j)) 2) ((updn y j b) 2), .complex .f64 ((updn x j (x j)) 3) ((updn y j b) 3)]) := Lib.hid ⟨below_step K4.out.1 kk, K4.out.2.1.step kk, K4.out.2.2.1.step kk, K4.out.2.2.2.1.step kk, K4.out.2.2.2.2.step kk⟩; clear kk)
                | (go_at_call 28; have _q := K3; refine (sumsK HKZ.out HKW.out (-1) _ (by decide)).mono ?_; rintro e w84 ⟨rfl, kk⟩; have K4 : Hid (Below w.heap.size w (w84) ∧ Arr 26 (w84) gz #[.complex .f64 (x 0) (y 0), .complex .f64 (x 1) (y 1), .complex .f64 (x 2) (y 2), .complex .f64 (x 3) (y 3)] ∧ Arr 50 (w84) gx #[.float .f64 9221120237041090561, .float .f64 9218868437227405312, .float .f64 18442240474082181120, .float .f64 4602678819172646912, .float .f64 4607182418800017408, .float .f64 13830554455654793216, .float .f64 4613937818241073152, .float .f64 4611686018427387904, .float .f64 13821547256400052224, .float .f64 4619567317775286272, .float .f64 4832362400168542208, .float .f64 4832362400168542212, .float .f64 14060238036650688512, .float .f64 4886405595696988160, .float .f64 9094988921128908188, .float .f64 9223372036854775808] ∧ Arr 26 (w84) gy #[.complex .f64 ((updn x j b) 0) ((updn y j (y j)) 0), .complex .f64 ((updn x j b) 1) ((updn y j (y j)) 1), .complex .f64 ((updn x j b) 2) ((updn y j (y j)) 2), .complex .f64 ((updn x j b) 3) ((updn y j (y j)) 3)] ∧ Arr 26 (w84) gw #[.complex .f64 ((updn x j (x j)) 0) ((updn y j b) 0), .complex .f64 ((updn x j (x j)) 1) ((updn y j b) 1), .complex .f64 ((updn x j (x j)) 2) ((updn y j b) 2), .complex .f64 ((updn x j (x j)) 3) ((updn y j b) 3)]) := Lib.hid ⟨below_step K3.out.1 kk, K3.out.2.1.step kk, K3.out.2.2.1.step kk, K3.out.2.2.2.1.step kk, K3.out.2.2.2.2.step kk⟩; obtain ⟨⟨dz0, dz1, dz2, dz3⟩, -⟩ := (K4.out.2.1).four; obtain ⟨⟨dy0, dy1, dy2, dy3⟩, -⟩ := (K4.out.2.2.2.1).four; obtain ⟨⟨dw0, dw1, dw2, dw3⟩, -⟩ := (K4.out.2.2.2.2).four; clear kk)
                | (go_at_call 28; have _q := K2; refine (sumsK HKW.out HKZ.out (3) _ (by decide)).mono ?_; rintro e w83 ⟨rfl, kk⟩; have K3 : Hid (Below w.heap.size w (w83) ∧ Arr 26 (w83) gz #[.complex .f64 (x 0) (y 0), .complex .f64 (x 1) (y 1), .complex .f64 (x 2) (y 2), .complex .f64 (x 3) (y 3)] ∧ Arr 50 (w83) gx #[.float .f64 9221120237041090561, .float .f64 9218868437227405312, .float .f64 18442240474082181120, .float .f64 4602678819172646912, .float .f64 4607182418800017408, .float .f64 13830554455654793216, .float .f64 4613937818241073152, .float .f64 4611686018427387904, .float .f64 13821547256400052224, .float .f64 4619567317775286272, .float .f64 4832362400168542208, .float .f64 4832362400168542212, .float .f64 14060238036650688512, .float .f64 4886405595696988160, .float .f64 9094988921128908188, .float .f64 9223372036854775808] ∧ Arr 26 (w83) gy #[.complex .f64 ((updn x j b) 0) ((updn y j (y j)) 0), .complex .f64 ((updn x j b) 1) ((updn y j (y j)) 1), .complex .f64 ((updn x j b) 2) ((updn y j (y j)) 2), .complex .f64 ((updn x j b) 3) ((updn y j (y j)) 3)] ∧ Arr 26 (w83) gw #[.complex .f64 ((updn x j (x j)) 0) ((updn y j b) 0), .complex .f64 ((updn x j (x j)) 1) ((updn y j b) 1), .complex .f64 ((updn x j (x j)) 2) ((updn y j b) 2), .complex .f64 ((updn x j (x j)) 3) ((updn y j b) 3)]) := Lib.hid ⟨below_step K2.out.1 kk, K2.out.2.1.step kk, K2.out.2.2.1.step kk, K2.out.2.2.2.1.step kk, K2.out.2.2.2.2.step kk⟩; obtain ⟨⟨cz0, cz1, cz2, cz3⟩, -⟩ := (K3.out.2.1).four; obtain ⟨⟨cy0, cy1, cy2, cy3⟩, -⟩ := (K3.out.2.2.2.1).four; obtain ⟨⟨cw0, cw1, cw2, cw3⟩, -⟩ := (K3.out.2.2.2.2).four; clear kk)
                | (go_at_call 28; have _q := K1; refine (sumsK HKZ.out HKY.out (2) _ (by decide)).mono ?_; rintro e w82 ⟨rfl, kk⟩; have K2 : Hid (Below w.heap.size w (w82) ∧ Arr 26 (w82) gz #[.complex .f64 (x 0) (y 0), .complex .f64 (x 1) (y 1), .complex .f64 (x 2) (y 2), .complex .f64 (x 3) (y 3)] ∧ Arr 50 (w82) gx #[.float .f64 9221120237041090561, .float .f64 9218868437227405312, .float .f64 18442240474082181120, .float .f64 4602678819172646912, .float .f64 4607182418800017408, .float .f64 13830554455654793216, .float .f64 4613937818241073152, .float .f64 4611686018427387904, .float .f64 13821547256400052224, .float .f64 4619567317775286272, .float .f64 4832362400168542208, .float .f64 4832362400168542212, .float .f64 14060238036650688512, .float .f64 4886405595696988160, .float .f64 9094988921128908188, .float .f64 9223372036854775808] ∧ Arr 26 (w82) gy #[.complex .f64 ((updn x j b) 0) ((updn y j (y j)) 0), .complex .f64 ((updn x j b) 1) ((updn y j (y j)) 1), .complex .f64 ((updn x j b) 2) ((updn y j (y j)) 2), .complex .f64 ((updn x j b) 3) ((updn y j (y j)) 3)] ∧ Arr 26 (w82) gw #[.complex .f64 ((updn x j (x j)) 0) ((updn y j b) 0), .complex .f64 ((updn x j (x j)) 1) ((updn y j b) 1), .complex .f64 ((updn x j (x j)) 2) ((updn y j b) 2), .complex .f64 ((updn x j (x j)) 3) ((updn y j b) 3)]) := Lib.hid ⟨below_step K1.out.1 kk, K1.out.2.1.step kk, K1.out.2.2.1.step kk, K1.out.2.2.2.1.step kk, K1.out.2.2.2.2.step kk⟩; obtain ⟨⟨bz0, bz1, bz2, bz3⟩, -⟩ := (K2.out.2.1).four; obtain ⟨⟨by0, by1, by2, by3⟩, -⟩ := (K2.out.2.2.2.1).four; obtain ⟨⟨bw0, bw1, bw2, bw3⟩, -⟩ := (K2.out.2.2.2.2).four; clear kk)
                | (go_at_call 28; refine (sumsK HKY.out HKZ.out (1) _ (by decide)).mono ?_; rintro e w81 ⟨rfl, kk⟩; have K1 : Hid (Below w.heap.size w (w81) ∧ Arr 26 (w81) gz #[.complex .f64 (x 0) (y 0), .complex .f64 (x 1) (y 1), .complex .f64 (x 2) (y 2), .complex .f64 (x 3) (y 3)] ∧ Arr 50 (w81) gx #[.float .f64 9221120237041090561, .float .f64 9218868437227405312, .float .f64 18442240474082181120, .float .f64 4602678819172646912, .float .f64 4607182418800017408, .float .f64 13830554455654793216, .float .f64 4613937818241073152, .float .f64 4611686018427387904, .float .f64 13821547256400052224, .float .f64 4619567317775286272, .float .f64 4832362400168542208, .float .f64 4832362400168542212, .float .f64 14060238036650688512, .float .f64 4886405595696988160, .float .f64 9094988921128908188, .float .f64 9223372036854775808] ∧ Arr 26 (w81) gy #[.complex .f64 ((updn x j b) 0) ((updn y j (y j)) 0), .complex .f64 ((updn x j b) 1) ((updn y j (y j)) 1), .complex .f64 ((updn x j b) 2) ((updn y j (y j)) 2), .complex .f64 ((updn x j b) 3) ((updn y j (y j)) 3)] ∧ Arr 26 (w81) gw #[.complex .f64 ((updn x j (x j)) 0) ((updn y j b) 0), .complex .f64 ((updn x j (x j)) 1) ((updn y j b) 1), .complex .f64 ((updn x j (x j)) 2) ((updn y j b) 2), .complex .f64 ((updn x j (x j)) 3) ((updn y j b) 3)]) := Lib.hid ⟨below_step B7.out.1 kk, B7.out.2.1.step kk, B7.out.2.2.1.step kk, B7.out.2.2.2.1.step kk, B7.out.2.2.2.2.step kk⟩; obtain ⟨⟨az0, az1, az2, az3⟩, -⟩ := (K1.out.2.1).four; obtain ⟨⟨ay0, ay1, ay2, ay3⟩, -⟩ := (K1.out.2.2.2.1).four; obtain ⟨⟨aw0, aw1, aw2, aw3⟩, -⟩ := (K1.out.2.2.2.2).four; clear kk))
              go_roundw
              case rel => exact ⟨i + 1, Lib.hid HLT2.out, by go_num, Lib.hid ⟨K5.out.1, K5.out.2.1, K5.out.2.2.1⟩⟩
              case measure => have h1 := HLT2.out; simp [intOf]; omega
            · obtain rfl : i = 16 := Nat.le_antisymm HI.out (Nat.not_lt.1 hlt)
              clear hlt HI
              go_wp2_with fail
              go_roundw
              case rel => exact ⟨j + 1, Lib.hid HLT.out, by go_num, Lib.hid ⟨B2.out.1, B2.out.2.1⟩⟩
              case measure => have h1 := HLT.out; simp [intOf]; omega
        · obtain rfl : j = 4 := Nat.le_antisymm HJ.out (Nat.not_lt.1 hlt)
          clear hlt HJ
          rw [show ((4 : Nat) : Int) = 4 from rfl]
          have B2 : Hid (Below w.heap.size w (wr.alloc (.cells #[.int .i64 16777216, .int .i64 16777217, .int .i64 1125899906842624, .int .i64 1125899906842625, .int .i64 9223372036854775807, .int .i64 (-9223372036854775808), .int .i64 562949953421312, .int .i64 562949953421313] 3)) ∧ Arr 26 (wr.alloc (.cells #[.int .i64 16777216, .int .i64 16777217, .int .i64 1125899906842624, .int .i64 1125899906842625, .int .i64 9223372036854775807, .int .i64 (-9223372036854775808), .int .i64 562949953421312, .int .i64 562949953421313] 3)) gz #[.complex .f64 (x 0) (y 0), .complex .f64 (x 1) (y 1), .complex .f64 (x 2) (y 2), .complex .f64 (x 3) (y 3)] ∧ Arr 3 (wr.alloc (.cells #[.int .i64 16777216, .int .i64 16777217, .int .i64 1125899906842624, .int .i64 1125899906842625, .int .i64 9223372036854775807, .int .i64 (-9223372036854775808), .int .i64 562949953421312, .int .i64 562949953421313] 3)) wr.heap.size #[.int .i64 16777216, .int .i64 16777217, .int .i64 1125899906842624, .int .i64 1125899906842625, .int .i64 9223372036854775807, .int .i64 (-9223372036854775808), .int .i64 562949953421312, .int .i64 562949953421313]) := Lib.hid ⟨below_al B1.out.1 _, B1.out.2.al _, Arr.new _ _ _⟩
          go_upto_region 36 with fail
          generalize wr.alloc (.cells #[.int .i64 16777216, .int .i64 16777217, .int .i64 1125899906842624, .int .i64 1125899906842625, .int .i64 9223372036854775807, .int .i64 (-9223372036854775808), .int .i64 562949953421312, .int .i64 562949953421313] 3) = V2 at B2 ⊢
          generalize wr.heap.size = gx at B2 ⊢
          clear B1
          go_loopw [154] (fun iv wr => ∃ i : Nat, Hid (i ≤ 8) ∧ iv = .int .i64 (i : Int) ∧ Hid (Below w.heap.size w wr ∧ Arr 26 wr gz #[.complex .f64 (x 0) (y 0), .complex .f64 (x 1) (y 1), .complex .f64 (x 2) (y 2), .complex .f64 (x 3) (y 3)] ∧ Arr 3 wr gx #[.int .i64 16777216, .int .i64 16777217, .int .i64 1125899906842624, .int .i64 1125899906842625, .int .i64 9223372036854775807, .int .i64 (-9223372036854775808), .int .i64 562949953421312, .int .i64 562949953421313])) (fun iv _ => 8 - (intOf iv).toNat)
          case atStart => exact ⟨0, Lib.hid (Nat.zero_le _), rfl, B2⟩
          case round =>
            clear B2
            obtain ⟨i, HI, rfl, B2⟩ := hrel
            by_cases hlt : i < 8
            · have hi9 : (i : Int) < 8 := Int.ofNat_lt.2 hlt
              have d1 : decide ((i : Int) < 8) = true := decide_eq_true hi9
              have d1' : decide (i < 8) = true := decide_eq_true hlt
              obtain ⟨v, h, u, k, hv, m1, m2, m3, m4, m5, m6, m7, m8⟩ := x8_at i hlt
              have e0 := (B2.out.2.2.c i).trans hv
              have HLT := Lib.hid hlt
              clear hlt hv
              go_wp2_with fail
              clear e0
              go_loopw [158] (fun iv wr => ∃ r : Nat, Hid (r ≤ 4) ∧ iv = .int .i64 (r : Int) ∧ Hid (Below w.heap.size w wr ∧ Arr 26 wr gz #[.complex .f64 (x 0) (y 0), .complex .f64 (x 1) (y 1), .complex .f64 (x 2) (y 2), .complex .f64 (x 3) (y 3)] ∧ Arr 3 wr gx #[.int .i64 16777216, .int .i64 16777217, .int .i64 1125899906842624, .int .i64 1125899906842625, .int .i64 9223372036854775807, .int .i64 (-9223372036854775808), .int .i64 562949953421312, .int .i64 562949953421313])) (fun iv _ => 4 - (intOf iv).toNat)
              case atStart => exact ⟨0, Lib.hid (Nat.zero_le _), rfl, B2⟩
              case round =>
                clear B2
                obtain ⟨r, HR, rfl, B2⟩ := hrel
                by_cases hlt : r < 4
                · have hr9 : (r : Int) < 4 := Int.ofNat_lt.2 hlt
                  have d2 : decide ((r : Int) < 4) = true := decide_eq_true hr9
                  have d2' : decide (r < 4) = true := decide_eq_true hlt
                  obtain ⟨q, s, hq4, hq9, hs, hws, hws2, hsq, hwq, dq, dq'⟩ := rq_facts hlt
                  have HLT2 := Lib.hid (And.intro hlt hq4)
                  have B3 : Hid ((Below w.heap.size w ((wr.alloc (.cells (ic4 zc0) 40)).alloc (.cells (ic4 zc0) 40)) ∧ Arr 26 ((wr.alloc (.cells (ic4 zc0) 40)).alloc (.cells (ic4 zc0) 40)) gz #[.complex .f64 (x 0) (y 0), .complex .f64 (x 1) (y 1), .complex .f64 (x 2) (y 2), .complex .f64 (x 3) (y 3)] ∧ Arr 3 ((wr.alloc (.cells (ic4 zc0) 40)).alloc (.cells (ic4 zc0) 40)) gx #[.int .i64 16777216, .int .i64 16777217, .int .i64 1125899906842624, .int .i64 1125899906842625, .int .i64 9223372036854775807, .int .i64 (-9223372036854775808), .int .i64 562949953421312, .int .i64 562949953421313] ∧ Arr 40 ((wr.alloc (.cells (ic4 zc0) 40)).alloc (.cells (ic4 zc0) 40)) wr.heap.size (ic4 zc0) ∧ Arr 40 ((wr.alloc (.cells (ic4 zc0) 40)).alloc (.cells (ic4 zc0) 40)) (wr.heap.size + 1) (ic4 zc0)) ∧ (gz < wr.heap.size ∧ gx < wr.heap.size ∧ w.heap.size ≤ wr.heap.size)) := Lib.hid ⟨⟨below_al (below_al B2.out.1 _) _, (B2.out.2.1.al _).al _, (B2.out.2.2.al _).al _, (Arr.new _ _ _).al _, Arr.new1 _ _ _ _⟩, B2.out.2.1.lt, B2.out.2.2.lt, B2.out.1.size⟩
                  clear hlt
                  go_upto_region 42 with fail
                  generalize (wr.alloc (.cells #[.int .i64 0, .int .i64 0, .int .i64 0, .int .i64 0] 40)).alloc (.cells #[.int .i64 0, .int .i64 0, .int .i64 0, .int .i64 0] 40) = V3 at B3 ⊢
                  generalize wr.heap.size = gc at B3 ⊢
                  clear B2
                  have ec := (B3.out.1.2.2.2.1.c r).trans (cs_get zc0 r HLT2.out.1)
                  have ed := (B3.out.1.2.2.2.2.c r).trans (cs_get zc0 r HLT2.out.1)
                  have fc := B3.out.1.2.2.2.1.f r
                  have fd := B3.out.1.2.2.2.2.f r
                  go_upto_region 43 with fail
                  have HNE := Lib.hid B3.out.2
                  have B4 : Hid (Below w.heap.size w ((V3.setCell ⟨gc, r, none⟩ (.int .i64 v)).setCell ⟨gc + 1, r, none⟩ (.int .i64 h)) ∧ Arr 26 ((V3.setCell ⟨gc, r, none⟩ (.int .i64 v)).setCell ⟨gc + 1, r, none⟩ (.int .i64 h)) gz #[.complex .f64 (x 0) (y 0), .complex .f64 (x 1) (y 1), .complex .f64 (x 2) (y 2), .complex .f64 (x 3) (y 3)] ∧ Arr 3 ((V3.setCell ⟨gc, r, none⟩ (.int .i64 v)).setCell ⟨gc + 1, r, none⟩ (.int .i64 h)) gx #[.int .i64 16777216, .int .i64 16777217, .int .i64 1125899906842624, .int .i64 1125899906842625, .int .i64 9223372036854775807, .int .i64 (-9223372036854775808), .int .i64 562949953421312, .int .i64 562949953421313] ∧ Arr 40 ((V3.setCell ⟨gc, r, none⟩ (.int .i64 v)).setCell ⟨gc + 1, r, none⟩ (.int .i64 h)) gc (ic4 (putc zc0 r v)) ∧ Arr 40 ((V3.setCell ⟨gc, r, none⟩ (.int .i64 v)).setCell ⟨gc + 1, r, none⟩ (.int .i64 h)) (gc + 1) (ic4 (putc zc0 r h))) := Lib.hid ⟨(B3.out.1.1.setCell (show w.heap.size ≤ (⟨gc, r, none⟩ : Addr).block by show w.heap.size ≤ gc; have n := HNE.out; omega) _).setCell (show w.heap.size ≤ (⟨gc + 1, r, none⟩ : Addr).block by show w.heap.size ≤ gc + 1; have n := HNE.out; omega) _, (B3.out.1.2.1.other (k := r) _ (by have n := HNE.out; omega)).other (k := r) _ (by have n := HNE.out; omega), (B3.out.1.2.2.1.other (k := r) _ (by have n := HNE.out; omega)).other (k := r) _ (by have n := HNE.out; omega), by rw [← putc_set zc0 r HLT2.out.1 v]; exact (B3.out.1.2.2.2.1.set r _).other (k := r) _ (by have n := HNE.out; omega), by rw [← putc_set zc0 r HLT2.out.1 h]; exact (B3.out.1.2.2.2.2.other (k := r) _ (by have n := HNE.out; omega)).set r _⟩
                  generalize (V3.setCell ⟨gc, r, none⟩ (.int .i64 v)).setCell ⟨gc + 1, r, none⟩ (.int .i64 h) = V4 at B4 ⊢
                  clear ec ed fc fd B3
                  have e2 := (B4.out.2.2.2.2.c q).trans (cs_get (putc zc0 r h) q HLT2.out.2)
                  have f2 := B4.out.2.2.2.2.f q
                  have B5 : Hid (Below w.heap.size w (V4.setCell ⟨gc + 1, q, none⟩ (.int .i64 k)) ∧ Arr 26 (V4.setCell ⟨gc + 1, q, none⟩ (.int .i64 k)) gz #[.complex .f64 (x 0) (y 0), .complex .f64 (x 1) (y 1), .complex .f64 (x 2) (y 2), .complex .f64 (x 3) (y 3)] ∧ Arr 3 (V4.setCell ⟨gc + 1, q, none⟩ (.int .i64 k)) gx #[.int .i64 16777216, .int .i64 16777217, .int .i64 1125899906842624, .int .i64 1125899906842625, .int .i64 9223372036854775807, .int .i64 (-9223372036854775808), .int .i64 562949953421312, .int .i64 562949953421313] ∧ Arr 40 (V4.setCell ⟨gc + 1, q, none⟩ (.int .i64 k)) gc (ic4 (putc zc0 r v)) ∧ Arr 40 (V4.setCell ⟨gc + 1, q, none⟩ (.int .i64 k)) (gc + 1) (ic4 (putc (putc zc0 r h) q k))) := Lib.hid ⟨B4.out.1.setCell (show w.heap.size ≤ (⟨gc + 1, q, none⟩ : Addr).block by show w.heap.size ≤ gc + 1; have n := HNE.out; omega) _, B4.out.2.1.other (k := q) _ (by have n := HNE.out; omega), B4.out.2.2.1.other (k := q) _ (by have n := HNE.out; omega), B4.out.2.2.2.1.other (k := q) _ (by have n := HNE.out; omega), by rw [← putc_set (putc zc0 r h) q HLT2.out.2 k]; exact B4.out.2.2.2.2.set q _⟩
                  go_upto_region 44 with fail
                  generalize V4.setCell ⟨gc + 1, q, none⟩ (.int .i64 k) = V5 at B5 ⊢
                  clear B4 e2 f2 m1 m2 m3 m4 m5 m6 m7 m8 hq4 hq9 hs hws hws2 hsq hwq dq dq'
                  obtain ⟨C, hC⟩ : ∃ C, putc zc0 r v = C := ⟨_, rfl⟩
                  obtain ⟨D, hD⟩ : ∃ D, putc (putc zc0 r h) q k = D := ⟨_, rfl⟩
                  rw [hC, hD] at B5
                  clear hC hD
                  obtain ⟨⟨c0, c1, c2, c3⟩, -⟩ := (B5.out.2.2.2.1).four
                  go_upto_region 45 with (go_at_call 32; refine (refRow_any C _).mono ?_; rintro e w91 ⟨p1, q1, er1, rfl, hnum, kk⟩; have N1 := Lib.hid hnum.le; have B6 : Hid (Below w.heap.size w (w91.alloc (.cells #[.int .i64 (p1 0), .int .i64 (q1 0), .int .i64 (p1 1), .int .i64 (q1 1), .int .i64 (p1 2), .int .i64 (q1 2), .int .i64 (p1 3), .int .i64 (q1 3)] 63)) ∧ Arr 26 (w91.alloc (.cells #[.int .i64 (p1 0), .int .i64 (q1 0), .int .i64 (p1 1), .int .i64 (q1 1), .int .i64 (p1 2), .int .i64 (q1 2), .int .i64 (p1 3), .int .i64 (q1 3)] 63)) gz #[.complex .f64 (x 0) (y 0), .complex .f64 (x 1) (y 1), .complex .f64 (x 2) (y 2), .complex .f64 (x 3) (y 3)] ∧ Arr 3 (w91.alloc (.cells #[.int .i64 (p1 0), .int .i64 (q1 0), .int .i64 (p1 1), .int .i64 (q1 1), .int .i64 (p1 2), .int .i64 (q1 2), .int .i64 (p1 3), .int .i64 (q1 3)] 63)) gx #[.int .i64 16777216, .int .i64 16777217, .int .i64 1125899906842624, .int .i64 1125899906842625, .int .i64 9223372036854775807, .int .i64 (-9223372036854775808), .int .i64 562949953421312, .int .i64 562949953421313] ∧ Arr 40 (w91.alloc (.cells #[.int .i64 (p1 0), .int .i64 (q1 0), .int .i64 (p1 1), .int .i64 (q1 1), .int .i64 (p1 2), .int .i64 (q1 2), .int .i64 (p1 3), .int .i64 (q1 3)] 63)) gc (ic4 C) ∧ Arr 40 (w91.alloc (.cells #[.int .i64 (p1 0), .int .i64 (q1 0), .int .i64 (p1 1), .int .i64 (q1 1), .int .i64 (p1 2), .int .i64 (q1 2), .int .i64 (p1 3), .int .i64 (q1 3)] 63)) (gc + 1) (ic4 D) ∧ Arr 63 (w91.alloc (.cells #[.int .i64 (p1 0), .int .i64 (q1 0), .int .i64 (p1 1), .int .i64 (q1 1), .int .i64 (p1 2), .int .i64 (q1 2), .int .i64 (p1 3), .int .i64 (q1 3)] 63)) w91.heap.size #[.int .i64 (p1 0), .int .i64 (q1 0), .int .i64 (p1 1), .int .i64 (q1 1), .int .i64 (p1 2), .int .i64 (q1 2), .int .i64 (p1 3), .int .i64 (q1 3)]) := Lib.hid ⟨below_al (below_step (B5.out.1) kk) _, (B5.out.2.1.step kk).al _, (B5.out.2.2.1.step kk).al _, (B5.out.2.2.2.1.step kk).al _, (B5.out.2.2.2.2.step kk).al _, Arr.new _ _ _⟩; clear hnum kk)
                  generalize w91.alloc (.cells #[.int .i64 (p1 0), .int .i64 (q1 0), .int .i64 (p1 1), .int .i64 (q1 1), .int .i64 (p1 2), .int .i64 (q1 2), .int .i64 (p1 3), .int .i64 (q1 3)] 63) = V6 at B6 ⊢
                  generalize w91.heap.size = g1 at B6 ⊢
                  clear B5 c0 c1 c2 c3
                  obtain ⟨⟨c0, c1, c2, c3⟩, -⟩ := (B6.out.2.2.2.2.1).four
                  go_upto_region 46 with (go_at_call 32; refine (refRow_any D _).mono ?_; rintro e w92 ⟨p2, q2, er2, rfl, hnum, kk⟩; have N2 := Lib.hid hnum.le; have B7 : Hid (Below w.heap.size w (w92.alloc (.cells #[.int .i64 (p2 0), .int .i64 (q2 0), .int .i64 (p2 1), .int .i64 (q2 1), .int .i64 (p2 2), .int .i64 (q2 2), .int .i64 (p2 3), .int .i64 (q2 3)] 63)) ∧ Arr 26 (w92.alloc (.cells #[.int .i64 (p2 0), .int .i64 (q2 0), .int .i64 (p2 1), .int .i64 (q2 1), .int .i64 (p2 2), .int .i64 (q2 2), .int .i64 (p2 3), .int .i64 (q2 3)] 63)) gz #[.complex .f64 (x 0) (y 0), .complex .f64 (x 1) (y 1), .complex .f64 (x 2) (y 2), .complex .f64 (x 3) (y 3)] ∧ Arr 3 (w92.alloc (.cells #[.int .i64 (p2 0), .int .i64 (q2 0), .int .i64 (p2 1), .int .i64 (q2 1), .int .i64 (p2 2), .int .i64 (q2 2), .int .i64 (p2 3), .int .i64 (q2 3)] 63)) gx #[.int .i64 16777216, .int .i64 16777217, .int .i64 1125899906842624, .int .i64 1125899906842625, .int .i64 9223372036854775807, .int .i64 (-9223372036854775808), .int .i64 562949953421312, .int .i64 562949953421313] ∧ Arr 40 (w92.alloc (.cells #[.int .i64 (p2 0), .int .i64 (q2 0), .int .i64 (p2 1), .int .i64 (q2 1), .int .i64 (p2 2), .int .i64 (q2 2), .int .i64 (p2 3), .int .i64 (q2 3)] 63)) gc (ic4 C) ∧ Arr 40 (w92.alloc (.cells #[.int .i64 (p2 0), .int .i64 (q2 0), .int .i64 (p2 1), .int .i64 (q2 1), .int .i64 (p2 2), .int .i64 (q2 2), .int .i64 (p2 3), .int .i64 (q2 3)] 63)) (gc + 1) (ic4 D) ∧ Arr 63 (w92.alloc (.cells #[.int .i64 (p2 0), .int .i64 (q2 0), .int .i64 (p2 1), .int .i64 (q2 1), .int .i64 (p2 2), .int .i64 (q2 2), .int .i64 (p2 3), .int .i64 (q2 3)] 63)) g1 #[.int .i64 (p1 0), .int .i64 (q1 0), .int .i64 (p1 1), .int .i64 (q1 1), .int .i64 (p1 2), .int .i64 (q1 2), .int .i64 (p1 3), .int .i64 (q1 3)] ∧ Arr 63 (w92.alloc (.cells #[.int .i64 (p2 0), .int .i64 (q2 0), .int .i64 (p2 1), .int .i64 (q2 1), .int .i64 (p2 2), .int .i64 (q2 2), .int .i64 (p2 3), .int .i64 (q2 3)] 63)) w92.heap.size #[.int .i64 (p2 0), .int .i64 (q2 0), .int .i64 (p2 1), .int .i64 (q2 1), .int .i64 (p2 2), .int .i64 (q2 2), .int .i64 (p2 3), .int .i64 (q2 3)]) := Lib.hid ⟨below_al (below_step (B6.out.1) kk) _, (B6.out.2.1.step kk).al _, (B6.out.2.2.1.step kk).al _, (B6.out.2.2.2.1.step kk).al _, (B6.out.2.2.2.2.1.step kk).al _, (B6.out.2.2.2.2.2.step kk).al _, Arr.new _ _ _⟩; clear hnum kk)
                  generalize w92.alloc (.cells #[.int .i64 (p2 0), .int .i64 (q2 0), .int .i64 (p2 1), .int .i64 (q2 1), .int .i64 (p2 2), .int .i64 (q2 2), .int .i64 (p2 3), .int .i64 (q2 3)] 63) = V7 at B7 ⊢
                  generalize w92.heap.size = g2 at B7 ⊢
                  clear B6 c0 c1 c2 c3
                  obtain ⟨xa, ya, hfa⟩ : ∃ xa ya : Nat → Nat, ∀ j < 4, floatOfInt .f64 (p1 j) = xa j ∧ floatOfInt .f64 (q1 j) = ya j := ⟨_, _, fun _ _ => ⟨rfl, rfl⟩⟩
                  obtain ⟨xb, yb, hfb⟩ : ∃ xb yb : Nat → Nat, ∀ j < 4, floatOfInt .f64 (p2 j) = xb j ∧ floatOfInt .f64 (q2 j) = yb j := ⟨_, _, fun _ _ => ⟨rfl, rfl⟩⟩
                  obtain ⟨ca, ka, hka⟩ := Kn.made N1.out hfa
                  obtain ⟨cb, kb, hkb⟩ := Kn.made N2.out hfb
                  have HFA := Lib.hid hfa
                  have HFB := Lib.hid hfb
                  have HKA := Lib.hid hka
                  have HKB := Lib.hid hkb
                  clear hfa hfb hka hkb N1 N2
                  have HD0 : Hid (Below V7.heap.size V7 V7.drew) := Lib.hid (Below.refl _ _).drew
                  have HD1 : Hid (Below V7.heap.size V7 (V7.alloc (.cells #[.complex .f64 0 0, .complex .f64 0 0, .complex .f64 0 0, .complex .f64 0 0] 26)).drew) := Lib.hid (below_al (Below.refl _ _) _).drew
                  have HD2 : Hid (Below V7.heap.size V7 ((V7.alloc (.cells #[.complex .f64 0 0, .complex .f64 0 0, .complex .f64 0 0, .complex .f64 0 0] 26)).alloc (.cells #[.complex .f64 0 0, .complex .f64 0 0, .complex .f64 0 0, .complex .f64 0 0] 26)).drew) := Lib.hid (below_al (below_al (Below.refl _ _) _) _).drew
                  have Y1 : Hid (Zs (V7.alloc (.cells #[.complex .f64 0 0, .complex .f64 0 0, .complex .f64 0 0, .complex .f64 0 0] 26)).drew V7.heap.size) := Lib.hid (Zs.new V7)
                  have Y2 : Hid (Zs ((V7.alloc (.cells #[.complex .f64 0 0, .complex .f64 0 0, .complex .f64 0 0, .complex .f64 0 0] 26)).alloc (.cells #[.complex .f64 0 0, .complex .f64 0 0, .complex .f64 0 0, .complex .f64 0 0] 26)).drew V7.heap.size ∧ Zs ((V7.alloc (.cells #[.complex .f64 0 0, .complex .f64 0 0, .complex .f64 0 0, .complex .f64 0 0] 26)).alloc (.cells #[.complex .f64 0 0, .complex .f64 0 0, .complex .f64 0 0, .complex .f64 0 0] 26)).drew (V7.heap.size + 1)) := Lib.hid ⟨(Zs.new V7).al _, Zs.new1 V7 _⟩
                  go_cut [25, 26] from 187 to 191 (fun va vb wx => ∃ (ga gb : Nat), va = .pointer (some ⟨ga, 0, none⟩) ∧ vb = .pointer (some ⟨gb, 0, none⟩) ∧ Hid (Two4 V7 wx ga gb xa ya xb yb))
                  case first =>
                    have hS0 : C8 g1 p1 q1 V7 ∧ C8 g2 p2 q2 V7 := ⟨(B7.out.2.2.2.2.2.1).C8, (B7.out.2.2.2.2.2.2).C8⟩
                    go_region_held3 (fun W => (C8 g1 p1 q1 W ∧ C8 g2 p2 q2 W) ∧ Below V7.heap.size V7 W) ((refine keepS hS0 ?_; first | with_reducible exact HD0.out | with_reducible exact HD1.out | with_reducible exact HD2.out | with_reducible exact KW1.out | with_reducible exact KX1.out | with_reducible exact KY1.out | with_reducible exact KW2.out | with_reducible exact KN1.out | with_reducible exact below_al KW2.out _ | with_reducible exact below_al (below_al KW2.out _) _ | with_reducible exact below_set4 KW2.out (by have h1 := LS1.out; have h2 := LS2.out; (try simp only [alloc_sizeU, drew_sizeU] at h1); (try simp only [alloc_sizeU, drew_sizeU] at h2); (try simp only [alloc_sizeU, drew_sizeU]); omega) _ _ _ _ | with_reducible exact below_set4 KN1.out (by have h1 := LS1.out; have h2 := LS2.out; (try simp only [alloc_sizeU, drew_sizeU] at h1); (try simp only [alloc_sizeU, drew_sizeU] at h2); (try simp only [alloc_sizeU, drew_sizeU]); omega) _ _ _ _ | with_reducible exact below_set4 (below_al KW2.out _) (by have h1 := LS1.out; have h2 := LS2.out; (try simp only [alloc_sizeU, drew_sizeU] at h1); (try simp only [alloc_sizeU, drew_sizeU] at h2); (try simp only [alloc_sizeU, drew_sizeU]); omega) _ _ _ _ | with_reducible exact below_set4 (below_set4 KW2.out (by have h1 := LS1.out; have h2 := LS2.out; (try simp only [alloc_sizeU, drew_sizeU] at h1); (try simp only [alloc_sizeU, drew_sizeU] at h2); (try simp only [alloc_sizeU, drew_sizeU]); omega) _ _ _ _) (by have h1 := LS1.out; have h2 := LS2.out; (try simp only [alloc_sizeU, drew_sizeU] at h1); (try simp only [alloc_sizeU, drew_sizeU] at h2); (try simp only [alloc_sizeU, drew_sizeU]); omega) _ _ _ _ | with_reducible exact below_set4 (below_set4 KN1.out (by have h1 := LS1.out; have h2 := LS2.out; (try simp only [alloc_sizeU, drew_sizeU] at h1); (try simp only [alloc_sizeU, drew_sizeU] at h2); (try simp only [alloc_sizeU, drew_sizeU]); omega) _ _ _ _) (by have h1 := LS1.out; have h2 := LS2.out; (try simp only [alloc_sizeU, drew_sizeU] at h1); (try simp only [alloc_sizeU, drew_sizeU] at h2); (try simp only [alloc_sizeU, drew_sizeU]); omega) _ _ _ _)) (first
                      | (go_at_call 33; have _q := KW1; refine (made_any p2 q2 xb yb _ HFB.out).mono ?_; rintro e wb ⟨rfl, k2⟩; have KW2 : Hid (Below V7.heap.size V7 wb) := Lib.hid (by first | with_reducible exact below_step KW1.out k2 | with_reducible exact below_step KX1.out k2 | with_reducible exact below_step KY1.out k2); (try (with_reducible have PX1 := Lib.hid (Arr.step X1.out k2))); (try (have _q := PX1; obtain ⟨⟨PX10c0, PX10c1, PX10c2, PX10c3⟩, PX10f0, PX10f1, PX10f2, PX10f3⟩ := (PX1.out).four; obtain ⟨⟨PX11c0, PX11c1, PX11c2, PX11c3⟩, PX11f0, PX11f1, PX11f2, PX11f3⟩ := (Arr.al PX1.out (.cells #[.complex .f64 0 0, .complex .f64 0 0, .complex .f64 0 0, .complex .f64 0 0] 26)).four; obtain ⟨⟨PX12c0, PX12c1, PX12c2, PX12c3⟩, PX12f0, PX12f1, PX12f2, PX12f3⟩ := (Arr.al PX1.out (.cells #[.complex .f64 (xa 0) (ya 0), .complex .f64 (xa 1) (ya 1), .complex .f64 (xa 2) (ya 2), .complex .f64 (xa 3) (ya 3)] 26)).four)); (try (with_reducible have PXB := Lib.hid (Arr.step (Arr.al X1.out (.cells #[.complex .f64 0 0, .complex .f64 0 0, .complex .f64 0 0, .complex .f64 0 0] 26)) k2))); (try (have PX1 := PXB; obtain ⟨⟨PX10c0, PX10c1, PX10c2, PX10c3⟩, PX10f0, PX10f1, PX10f2, PX10f3⟩ := (PX1.out).four)); (try (with_reducible have PZ1 := Lib.hid (Arr.step Z1.out k2))); (try (have _q := PZ1; obtain ⟨⟨PZ10c0, PZ10c1, PZ10c2, PZ10c3⟩, PZ10f0, PZ10f1, PZ10f2, PZ10f3⟩ := (PZ1.out).four; obtain ⟨⟨PZ11c0, PZ11c1, PZ11c2, PZ11c3⟩, PZ11f0, PZ11f1, PZ11f2, PZ11f3⟩ := (Arr.al PZ1.out (.cells #[.complex .f64 0 0, .complex .f64 0 0, .complex .f64 0 0, .complex .f64 0 0] 26)).four; obtain ⟨⟨PZ12c0, PZ12c1, PZ12c2, PZ12c3⟩, PZ12f0, PZ12f1, PZ12f2, PZ12f3⟩ := (Arr.al PZ1.out (.cells #[.complex .f64 (xa 0) (ya 0), .complex .f64 (xa 1) (ya 1), .complex .f64 (xa 2) (ya 2), .complex .f64 (xa 3) (ya 3)] 26)).four)); (try (with_reducible have PU := Lib.hid (Arr.step X2.out.1 k2))); (try (have _q := PU; obtain ⟨⟨PU0c0, PU0c1, PU0c2, PU0c3⟩, PU0f0, PU0f1, PU0f2, PU0f3⟩ := (PU.out).four; obtain ⟨⟨PU1c0, PU1c1, PU1c2, PU1c3⟩, PU1f0, PU1f1, PU1f2, PU1f3⟩ := (Arr.al PU.out (.cells #[.complex .f64 0 0, .complex .f64 0 0, .complex .f64 0 0, .complex .f64 0 0] 26)).four)); (try (with_reducible have PV := Lib.hid (Arr.step X2.out.2 k2))); (try (have _q := PV; obtain ⟨⟨PV0c0, PV0c1, PV0c2, PV0c3⟩, PV0f0, PV0f1, PV0f2, PV0f3⟩ := (PV.out).four; obtain ⟨⟨PV1c0, PV1c1, PV1c2, PV1c3⟩, PV1f0, PV1f1, PV1f2, PV1f3⟩ := (Arr.al PV.out (.cells #[.complex .f64 0 0, .complex .f64 0 0, .complex .f64 0 0, .complex .f64 0 0] 26)).four)); (try (with_reducible have PS := Lib.hid (Arr.step Z2.out.1 k2))); (try (have _q := PS; obtain ⟨⟨PS0c0, PS0c1, PS0c2, PS0c3⟩, PS0f0, PS0f1, PS0f2, PS0f3⟩ := (PS.out).four; obtain ⟨⟨PS1c0, PS1c1, PS1c2, PS1c3⟩, PS1f0, PS1f1, PS1f2, PS1f3⟩ := (Arr.al PS.out (.cells #[.complex .f64 0 0, .complex .f64 0 0, .complex .f64 0 0, .complex .f64 0 0] 26)).four)); (try (with_reducible have PT := Lib.hid (Arr.step Z2.out.2 k2))); (try (have _q := PT; obtain ⟨⟨PT0c0, PT0c1, PT0c2, PT0c3⟩, PT0f0, PT0f1, PT0f2, PT0f3⟩ := (PT.out).four; obtain ⟨⟨PT1c0, PT1c1, PT1c2, PT1c3⟩, PT1f0, PT1f1, PT1f2, PT1f3⟩ := (Arr.al PT.out (.cells #[.complex .f64 0 0, .complex .f64 0 0, .complex .f64 0 0, .complex .f64 0 0] 26)).four)); have LS2 := Lib.hid k2.size; (try (have NE0 : V7.heap.size ≠ wb.heap.size := by have h1 := LS1.out; have h2 := LS2.out; (try simp only [alloc_sizeU, drew_sizeU] at h1); (try simp only [alloc_sizeU, drew_sizeU] at h2); (try simp only [alloc_sizeU, drew_sizeU]); omega)); (try (have NF0 := Ne.symm NE0)); (try (have NE1 : V7.heap.size ≠ wa.heap.size := by have h1 := LS1.out; have h2 := LS2.out; (try simp only [alloc_sizeU, drew_sizeU] at h1); (try simp only [alloc_sizeU, drew_sizeU] at h2); (try simp only [alloc_sizeU, drew_sizeU]); omega)); (try (have NF1 := Ne.symm NE1)); (try (have NE2 : wa.heap.size ≠ wb.heap.size := by have h1 := LS1.out; have h2 := LS2.out; (try simp only [alloc_sizeU, drew_sizeU] at h1); (try simp only [alloc_sizeU, drew_sizeU] at h2); (try simp only [alloc_sizeU, drew_sizeU]); omega)); (try (have NF2 := Ne.symm NE2)); have KN1 := Lib.hid (below_al KW2.out (.cells #[.complex .f64 0 0, .complex .f64 0 0, .complex .f64 0 0, .complex .f64 0 0] 26)); clear k2)
                      | (go_at_call 33; refine (made_any p1 q1 xa ya _ HFA.out).mono ?_; rintro e wa ⟨rfl, k1⟩; have KW1 : Hid (Below V7.heap.size V7 wa) := Lib.hid (by first | with_reducible exact below_step HD0.out k1 | with_reducible exact below_step HD1.out k1 | with_reducible exact below_step HD2.out k1); have KX1 := Lib.hid (below_al KW1.out (.cells #[.complex .f64 0 0, .complex .f64 0 0, .complex .f64 0 0, .complex .f64 0 0] 26)); have KY1 := Lib.hid (below_al KX1.out (.cells #[.complex .f64 0 0, .complex .f64 0 0, .complex .f64 0 0, .complex .f64 0 0] 26)); (try (with_reducible have X1 := Lib.hid (Y1.out.step k1))); (try (with_reducible have X2 := Lib.hid (And.intro (Y2.out.1.step k1) (Y2.out.2.step k1)))); have Z1 := Lib.hid (Zs.new wa); have Z2 := Lib.hid (And.intro ((Zs.new wa).al (.cells #[.complex .f64 0 0, .complex .f64 0 0, .complex .f64 0 0, .complex .f64 0 0] 26)) (Zs.new1 wa (.cells #[.complex .f64 0 0, .complex .f64 0 0, .complex .f64 0 0, .complex .f64 0 0] 26))); have LS1 := Lib.hid k1.size; clear k1))
                    all_goals (try simp only [Act.put, List.getElem_toArray, List.getElem_cons_succ, List.getElem_cons_zero, List.setIfInBounds_toArray, List.set_cons_succ, List.set_cons_zero])
                    all_goals go_wp2_with fail
                    all_goals go_meet
                    all_goals first
                      | with_reducible exact ⟨V7.heap.size, V7.heap.size + 1, rfl, rfl, Lib.hid (two8 (W := wb) KW2.out PU.out PV.out (by have h1 := LS1.out; have h2 := LS2.out; (try simp only [alloc_sizeU, drew_sizeU] at h1); (try simp only [alloc_sizeU, drew_sizeU] at h2); (try simp only [alloc_sizeU, drew_sizeU]); omega) (by have h1 := LS1.out; have h2 := LS2.out; (try simp only [alloc_sizeU, drew_sizeU] at h1); (try simp only [alloc_sizeU, drew_sizeU] at h2); (try simp only [alloc_sizeU, drew_sizeU]); omega) (by have h1 := LS1.out; have h2 := LS2.out; (try simp only [alloc_sizeU, drew_sizeU] at h1); (try simp only [alloc_sizeU, drew_sizeU] at h2); (try simp only [alloc_sizeU, drew_sizeU]); omega))⟩
                      | with_reducible exact ⟨V7.heap.size + 1, V7.heap.size, rfl, rfl, Lib.hid (two8 (W := wb) KW2.out PV.out PU.out (by have h1 := LS1.out; have h2 := LS2.out; (try simp only [alloc_sizeU, drew_sizeU] at h1); (try simp only [alloc_sizeU, drew_sizeU] at h2); (try simp only [alloc_sizeU, drew_sizeU]); omega) (by have h1 := LS1.out; have h2 := LS2.out; (try simp only [alloc_sizeU, drew_sizeU] at h1); (try simp only [alloc_sizeU, drew_sizeU] at h2); (try simp only [alloc_sizeU, drew_sizeU]); omega) (by have h1 := LS1.out; have h2 := LS2.out; (try simp only [alloc_sizeU, drew_sizeU] at h1); (try simp only [alloc_sizeU, drew_sizeU] at h2); (try simp only [alloc_sizeU, drew_sizeU]); omega))⟩
                      | with_reducible exact ⟨wa.heap.size, wa.heap.size + 1, rfl, rfl, Lib.hid (two8 (W := wb) KW2.out PS.out PT.out (by have h1 := LS1.out; have h2 := LS2.out; (try simp only [alloc_sizeU, drew_sizeU] at h1); (try simp only [alloc_sizeU, drew_sizeU] at h2); (try simp only [alloc_sizeU, drew_sizeU]); omega) (by have h1 := LS1.out; have h2 := LS2.out; (try simp only [alloc_sizeU, drew_sizeU] at h1); (try simp only [alloc_sizeU, drew_sizeU] at h2); (try simp only [alloc_sizeU, drew_sizeU]); omega) (by have h1 := LS1.out; have h2 := LS2.out; (try simp only [alloc_sizeU, drew_sizeU] at h1); (try simp only [alloc_sizeU, drew_sizeU] at h2); (try simp only [alloc_sizeU, drew_sizeU]); omega))⟩
                      | with_reducible exact ⟨wa.heap.size + 1, wa.heap.size, rfl, rfl, Lib.hid (two8 (W := wb) KW2.out PT.out PS.out (by have h1 := LS1.out; have h2 := LS2.out; (try simp only [alloc_sizeU, drew_sizeU] at h1); (try simp only [alloc_sizeU, drew_sizeU] at h2); (try simp only [alloc_sizeU, drew_sizeU]); omega) (by have h1 := LS1.out; have h2 := LS2.out; (try simp only [alloc_sizeU, drew_sizeU] at h1); (try simp only [alloc_sizeU, drew_sizeU] at h2); (try simp only [alloc_sizeU, drew_sizeU]); omega) (by have h1 := LS1.out; have h2 := LS2.out; (try simp only [alloc_sizeU, drew_sizeU] at h1); (try simp only [alloc_sizeU, drew_sizeU] at h2); (try simp only [alloc_sizeU, drew_sizeU]); omega))⟩
                      | with_reducible exact ⟨V7.heap.size, wa.heap.size, rfl, rfl, Lib.hid (two8 (W := wb) KW2.out PX1.out PZ1.out (by have h1 := LS1.out; have h2 := LS2.out; (try simp only [alloc_sizeU, drew_sizeU] at h1); (try simp only [alloc_sizeU, drew_sizeU] at h2); (try simp only [alloc_sizeU, drew_sizeU]); omega) (by have h1 := LS1.out; have h2 := LS2.out; (try simp only [alloc_sizeU, drew_sizeU] at h1); (try simp only [alloc_sizeU, drew_sizeU] at h2); (try simp only [alloc_sizeU, drew_sizeU]); omega) (by have h1 := LS1.out; have h2 := LS2.out; (try simp only [alloc_sizeU, drew_sizeU] at h1); (try simp only [alloc_sizeU, drew_sizeU] at h2); (try simp only [alloc_sizeU, drew_sizeU]); omega))⟩
                      | with_reducible exact ⟨wa.heap.size, V7.heap.size, rfl, rfl, Lib.hid (two8 (W := wb) KW2.out PZ1.out PX1.out (by have h1 := LS1.out; have h2 := LS2.out; (try simp only [alloc_sizeU, drew_sizeU] at h1); (try simp only [alloc_sizeU, drew_sizeU] at h2); (try simp only [alloc_sizeU, drew_sizeU]); omega) (by have h1 := LS1.out; have h2 := LS2.out; (try simp only [alloc_sizeU, drew_sizeU] at h1); (try simp only [alloc_sizeU, drew_sizeU] at h2); (try simp only [alloc_sizeU, drew_sizeU]); omega) (by have h1 := LS1.out; have h2 := LS2.out; (try simp only [alloc_sizeU, drew_sizeU] at h1); (try simp only [alloc_sizeU, drew_sizeU] at h2); (try simp only [alloc_sizeU, drew_sizeU]); omega))⟩
                      | with_reducible exact ⟨V7.heap.size, wb.heap.size, rfl, rfl, Lib.hid (two8 (W := wb.alloc (.cells #[.complex .f64 0 0, .complex .f64 0 0, .complex .f64 0 0, .complex .f64 0 0] 26)) KN1.out (Arr.al PX1.out (.cells #[.complex .f64 0 0, .complex .f64 0 0, .complex .f64 0 0, .complex .f64 0 0] 26)) (Zs.new wb) (by have h1 := LS1.out; have h2 := LS2.out; (try simp only [alloc_sizeU, drew_sizeU] at h1); (try simp only [alloc_sizeU, drew_sizeU] at h2); (try simp only [alloc_sizeU, drew_sizeU]); omega) (by have h1 := LS1.out; have h2 := LS2.out; (try simp only [alloc_sizeU, drew_sizeU] at h1); (try simp only [alloc_sizeU, drew_sizeU] at h2); (try simp only [alloc_sizeU, drew_sizeU]); omega) (by have h1 := LS1.out; have h2 := LS2.out; (try simp only [alloc_sizeU, drew_sizeU] at h1); (try simp only [alloc_sizeU, drew_sizeU] at h2); (try simp only [alloc_sizeU, drew_sizeU]); omega))⟩
                      | with_reducible exact ⟨wb.heap.size, V7.heap.size, rfl, rfl, Lib.hid (twoA (W := wb) KW2.out PX1.out (by have h1 := LS1.out; have h2 := LS2.out; (try simp only [alloc_sizeU, drew_sizeU] at h1); (try simp only [alloc_sizeU, drew_sizeU] at h2); (try simp only [alloc_sizeU, drew_sizeU]); omega))⟩
                      | with_reducible exact ⟨wa.heap.size, wb.heap.size, rfl, rfl, Lib.hid (two8 (W := wb.alloc (.cells #[.complex .f64 0 0, .complex .f64 0 0, .complex .f64 0 0, .complex .f64 0 0] 26)) KN1.out (Arr.al PZ1.out (.cells #[.complex .f64 0 0, .complex .f64 0 0, .complex .f64 0 0, .complex .f64 0 0] 26)) (Zs.new wb) (by have h1 := LS1.out; have h2 := LS2.out; (try simp only [alloc_sizeU, drew_sizeU] at h1); (try simp only [alloc_sizeU, drew_sizeU] at h2); (try simp only [alloc_sizeU, drew_sizeU]); omega) (by have h1 := LS1.out; have h2 := LS2.out; (try simp only [alloc_sizeU, drew_sizeU] at h1); (try simp only [alloc_sizeU, drew_sizeU] at h2); (try simp only [alloc_sizeU, drew_sizeU]); omega) (by have h1 := LS1.out; have h2 := LS2.out; (try simp only [alloc_sizeU, drew_sizeU] at h1); (try simp only [alloc_sizeU, drew_sizeU] at h2); (try simp only [alloc_sizeU, drew_sizeU]); omega))⟩
                      | with_reducible exact ⟨wb.heap.size, wa.heap.size, rfl, rfl, Lib.hid (twoA (W := wb) KW2.out PZ1.out (by have h1 := LS1.out; have h2 := LS2.out; (try simp only [alloc_sizeU, drew_sizeU] at h1); (try simp only [alloc_sizeU, drew_sizeU] at h2); (try simp only [alloc_sizeU, drew_sizeU]); omega))⟩
                      | with_reducible exact ⟨wb.heap.size, wb.heap.size + 1, rfl, rfl, Lib.hid (twoB (W := wb) KW2.out)⟩
                      | with_reducible exact ⟨wb.heap.size + 1, wb.heap.size, rfl, rfl, Lib.hid (twoC (W := wb) KW2.out)⟩
                  case rest =>
                    obtain ⟨ga, gb, rfl, rfl, BT⟩ := hcut
                    have B8 : Hid (Below w.heap.size w (wc) ∧ Arr 26 (wc) gz #[.complex .f64 (x 0) (y 0), .complex .f64 (x 1) (y 1), .complex .f64 (x 2) (y 2), .complex .f64 (x 3) (y 3)] ∧ Arr 3 (wc) gx #[.int .i64 16777216, .int .i64 16777217, .int .i64 1125899906842624, .int .i64 1125899906842625, .int .i64 9223372036854775807, .int .i64 (-9223372036854775808), .int .i64 562949953421312, .int .i64 562949953421313] ∧ Arr 40 (wc) gc (ic4 C) ∧ Arr 40 (wc) (gc + 1) (ic4 D) ∧ Arr 26 (wc) ga #[.complex .f64 (xa 0) (ya 0), .complex .f64 (xa 1) (ya 1), .complex .f64 (xa 2) (ya 2), .complex .f64 (xa 3) (ya 3)] ∧ Arr 26 (wc) gb #[.complex .f64 (xb 0) (yb 0), .complex .f64 (xb 1) (yb 1), .complex .f64 (xb 2) (yb 2), .complex .f64 (xb 3) (yb 3)]) := Lib.hid ⟨below_step B7.out.1 BT.out.1, (B7.out.2.1).step BT.out.1, (B7.out.2.2.1).step BT.out.1, (B7.out.2.2.2.1).step BT.out.1, (B7.out.2.2.2.2.1).step BT.out.1, BT.out.2.1, BT.out.2.2⟩
                    clear B7 BT HD0 HD1 HD2 Y1 Y2
                    have hS0 : (I4 gc C wc ∧ I4 (gc + 1) D wc ∧ C4 ga xa ya wc ∧ C4 gb xb yb wc) ∧ Below wc.heap.size wc wc := ⟨⟨(B8.out.2.2.2.1).four.1, (B8.out.2.2.2.2.1).four.1, (B8.out.2.2.2.2.2.1).four.1, (B8.out.2.2.2.2.2.2).four.1⟩, Below.refl _ _⟩
                    have HSC : Hid (∀ W, Below wc.heap.size wc W → Sees W 1 (some ⟨gc, 0, none⟩) 4 4 ([C 0, C 1, C 2, C 3].map (Value.int .i64))) := Lib.hid fun W hb => (Arr.al4 B8.out.2.2.2.1).below hb (Nat.le_refl _)
                    obtain ⟨l1, m1, hl1⟩ := Kn.ex (x := fun j => 4607182418800017408) (y := fun j => 0) (all4 ⟨Pt.fi fi1 (by decide), Pt.fi fi0 (by decide)⟩ ⟨Pt.fi fi1 (by decide), Pt.fi fi0 (by decide)⟩ ⟨Pt.fi fi1 (by decide), Pt.fi fi0 (by decide)⟩ ⟨Pt.fi fi1 (by decide), Pt.fi fi0 (by decide)⟩)
                    obtain ⟨l2, m2, hl2⟩ := Kn.ex (x := fun j => if j = 1 then 13830554455654793216 else if j = 3 then 13830554455654793216 else 4607182418800017408) (y := fun j => 0) (all4 ⟨Pt.fi fi1 (by decide), Pt.fi fi0 (by decide)⟩ ⟨Pt.fi fim (by decide), Pt.fi fi0 (by decide)⟩ ⟨Pt.fi fi1 (by decide), Pt.fi fi0 (by decide)⟩ ⟨Pt.fi fim (by decide), Pt.fi fi0 (by decide)⟩)
                    have HL := Lib.hid (And.intro hl1 hl2)
                    clear hl1 hl2
                    go_upto_region 47 with fail
                    go_region_held3 (fun w' => (I4 gc C w' ∧ I4 (gc + 1) D w' ∧ C4 ga xa ya w' ∧ C4 gb xb yb w') ∧ Below wc.heap.size wc w') (first | exact keepR0 hS0 | exact keepR (by assumption) (by assumption) | exact keepR (by assumption) (below_al (Below.refl _ _) _) | assumption) (first
                      | (have _q := T5; go_at_call 28; refine (sumsK HKB.out HL.out.2 3 _ (by decide)).mono ?_; rintro e w6 ⟨rfl, kk⟩; have T6 := T5)
                      | (have _q := T4; go_at_call 28; refine (sumsK HKA.out HL.out.1 4 _ (by decide)).mono ?_; rintro e w5 ⟨rfl, kk⟩; have T5 := T4)
                      | (have _q := T3; go_at_call 28; refine (sumsK HKB.out HKA.out 1 _ (by decide)).mono ?_; rintro e w4 ⟨rfl, kk⟩; have T4 := T3)
                      | (have _q := T2; go_at_call 28; refine (sumsK HKA.out HKB.out (r : Int) _ (by have := HLT2.out.1; omega)).mono ?_; rintro e w3 ⟨rfl, kk⟩; have T3 := T2)
                      | (have _q := T1; go_at_call 26; refine (tells_any A7 5 c7 [C 0, C 1, C 2, C 3, 1] C 1 _ T1.out (by decide)).mono ?_; rintro e w2 ⟨rfl, kk⟩; have T2 := T1)
                      | (have _q := T0; refine step_appVH E_ii (by first | rfl | kernel_rfl) _ _ rfl rfl (HSC.out _ (And.right (by assumption))) rfl (Sees.one _ _ _) (by simp [Value.oneCell']) (by decide) (by decide) ?_; intro A7 c7 w1 hs7 kk; have T1 : Hid (Sees w1 1 A7 5 c7 ([C 0, C 1, C 2, C 3, 1].map (Value.int .i64))) := Lib.hid hs7; clear hs7)
                      | (go_at_call 26; refine (tells_any (some ⟨gc, 0, none⟩) 4 4 [C 0, C 1, C 2, C 3] D v _ (HSC.out _ (And.right (by assumption))) (by decide)).mono ?_; rintro e w0 ⟨rfl, kk⟩; have T0 := Lib.hid True.intro))
                    rename_i hH
                    have B9 := Lib.hid (And.intro (below_step B8.out.1 hH.2) (And.intro ((B8.out.2.1).step hH.2) ((B8.out.2.2.1).step hH.2)))
                    clear hH hS0 B8 HSC
                    go_wp2_with fail
                    go_roundw
                    case rel => exact ⟨r + 1, Lib.hid HLT2.out.1, by go_num, B9⟩
                    case measure => have h1 := HLT2.out.1; simp [intOf]; omega
                · obtain rfl : r = 4 := Nat.le_antisymm HR.out (Nat.not_lt.1 hlt)
                  clear hlt HR
                  go_wp2_with fail
                  go_roundw
                  case rel => exact ⟨i + 1, Lib.hid HLT.out, by go_num, B2⟩
                  case measure => have h1 := HLT.out; clear m1 m2 m3 m4 m5 m6 m7 m8; simp [intOf]; omega
            · obtain rfl : i = 8 := Nat.le_antisymm HI.out (Nat.not_lt.1 hlt)
              clear hlt HI
              have hm1 : ∀ w, (binOp .mul 25 (.complex .f64 4832362400168542208 0) (.complex .f64 0 4607182418800017408)).run Try.prog w = .ok (.complex .f64 0 4832362400168542208) w := fun w => by kernel_rfl
              have hm2 : ∀ w, (binOp .mul 25 (.complex .f64 4832362400168542208 0) (.complex .f64 0 13830554455654793216)).run Try.prog w = .ok (.complex .f64 0 14055734437023318016) w := fun w => by kernel_rfl
              obtain ⟨ca, ka, hka⟩ := Kn.ex (x := fun j => if j = 0 then 4832362400168542208 else if j = 2 then 4832362400168542208 else 0) (y := fun j => if j = 1 then 4832362400168542208 else if j = 3 then 14055734437023318016 else 0) (all4 ⟨Pt.fi fi50 (by decide), Pt.fi fi0 (by decide)⟩ ⟨Pt.fi fi0 (by decide), Pt.fi fi50 (by decide)⟩ ⟨Pt.fi fi50 (by decide), Pt.fi fi0 (by decide)⟩ ⟨Pt.fi fi0 (by decide), Pt.fi fm50 (by decide)⟩)
              obtain ⟨cb, kb, hkb⟩ := Kn.ex (x := fun j => if j = 1 then 4832362400168542208 else if j = 3 then 4832362400168542208 else 0) (y := fun j => 0) (all4 ⟨Pt.fi fi0 (by decide), Pt.fi fi0 (by decide)⟩ ⟨Pt.fi fi50 (by decide), Pt.fi fi0 (by decide)⟩ ⟨Pt.fi fi0 (by decide), Pt.fi fi0 (by decide)⟩ ⟨Pt.fi fi50 (by decide), Pt.fi fi0 (by decide)⟩)
              have HKA := Lib.hid (And.intro hka hkb)
              clear hka hkb
              obtain ⟨⟨z0, z1, z2, z3⟩, -⟩ := B2.out.2.1.four
              go_wp2_with (first
                | (go_at_call 13; have _q := K2; refine (awake_any _).mono ?_; rintro e w7 ⟨rfl, kk⟩; have K3 := Lib.hid (below_step K2.out kk); clear kk)
                | (go_at_call 28; have _q := K1; refine (sumsK HKA.out.2 HKZ.out 1 _ (by decide)).mono ?_; rintro e w6 ⟨rfl, kk⟩; have K2 := Lib.hid (below_step K1.out.1 kk); clear kk)
                | (go_at_call 28; refine (sumsK HKA.out.1 HKZ.out 1 _ (by decide)).mono ?_; rintro e w5 ⟨rfl, kk⟩; have K1 := Lib.hid (And.intro (below_step B2.out.1 kk) (B2.out.2.1.step kk)); clear kk z0 z1 z2 z3; obtain ⟨⟨z0, z1, z2, z3⟩, -⟩ := K1.out.2.four))
              go_ret
              exact ⟨rfl, K3.out⟩
end Go.Proofs.Ythidfmkmklnhhaa
