/- Words put together, a bit put in or taken out, runs of members: plain laws. No program is named here. -/
import Derived.Test.YtemhoaleeefhhaaBa
namespace Go.Proofs.Ytemhoaleeefhhaa

theorem e64 : (2 : Nat) ^ 64 = 18446744073709551616 := by decide
theorem W64.of_nat {f : List Nat} (h : ∀ x ∈ f, x < 2 ^ 64) : W64 (f.map fun n : Nat => (n : Int)) := by
  intro x hx
  obtain ⟨n, hn, rfl⟩ := List.mem_map.1 hx
  have := h n hn
  have := e64
  omega
theorem W64.set {l : List Int} (h : W64 l) (k n : Nat) (hn : n < 2 ^ 64) : W64 (l.set k (n : Int)) := fun x hx => (List.mem_or_eq_of_mem_set hx).elim (h x) (fun e => by subst e; have := e64; omega)
theorem W64.zeros (n : Nat) : W64 (List.replicate n 0) := fun x hx => by rw [List.eq_of_mem_replicate hx]; decide
theorem bt_zeros (n i : Nat) : bt (List.replicate n 0) i = false := by
  unfold bt
  by_cases h : i / 64 < n
  · rw [List.getD, List.getElem?_replicate]; simp [h]
  · rw [List.getD, List.getElem?_eq_none (by simpa using h)]; simp
/-- A word in its place. -/
theorem bt_set {l : List Int} {k n : Nat} (hk : k < l.length) (i : Nat) : bt (l.set k (n : Int)) i = if i / 64 = k then n.testBit (i % 64) else bt l i := by
  unfold bt
  rw [List.getD, List.getD, List.getElem?_set]
  by_cases h : k = i / 64
  · rw [if_pos h, if_pos (by omega), if_pos h.symm]; simp
  · rw [if_neg h, if_neg (fun e => h e.symm)]
/-- The word of a number. -/
abbrev wd (l : List Int) (i : Nat) : Nat := (l.getD (i / 64) 0).toNat
/-- A number put in. -/
def inB (l : List Int) (i : Nat) : List Int := l.set (i / 64) ((wd l i ||| 2 ^ (i % 64) : Nat) : Int)
/-- A number taken out. -/
def offB (l : List Int) (i : Nat) : List Int := l.set (i / 64) ((wd l i ^^^ (wd l i &&& 2 ^ (i % 64)) : Nat) : Int)
theorem p64 (i : Nat) : 2 ^ (i % 64) < 2 ^ 64 := Nat.pow_lt_pow_right (by decide) (by omega)
theorem inB_w {l : List Int} (h : W64 l) (i : Nat) : W64 (inB l i) := h.set _ _ (Nat.or_lt_two_pow (h.nat _) (p64 i))
theorem offB_w {l : List Int} (h : W64 l) (i : Nat) : W64 (offB l i) := h.set _ _ (Nat.xor_lt_two_pow (h.nat _) (Nat.and_lt_two_pow _ (p64 i)))
theorem inB_len (l : List Int) (i : Nat) : (inB l i).length = l.length := List.length_set
theorem offB_len (l : List Int) (i : Nat) : (offB l i).length = l.length := List.length_set
theorem inB_bt {l : List Int} {i : Nat} (hi : i < 64 * l.length) (j : Nat) : bt (inB l i) j = (bt l j || decide (j = i)) := by
  unfold inB
  rw [bt_set (by omega)]
  by_cases h : j / 64 = i / 64
  · rw [if_pos h, Nat.testBit_or, Nat.testBit_two_pow]
    unfold bt wd
    rw [h]
    congr 1
    rw [Bool.eq_iff_iff]; simp; omega
  · rw [if_neg h]
    have : decide (j = i) = false := decide_eq_false (fun e => h (by rw [e]))
    rw [this, Bool.or_false]
theorem offB_bt {l : List Int} {i : Nat} (hi : i < 64 * l.length) (j : Nat) : bt (offB l i) j = (bt l j && !decide (j = i)) := by
  unfold offB
  rw [bt_set (by omega)]
  by_cases h : j / 64 = i / 64
  · rw [if_pos h, Nat.testBit_xor, Nat.testBit_and, Nat.testBit_two_pow]
    unfold bt wd
    rw [h]
    have e : decide (i % 64 = j % 64) = decide (j = i) := by rw [Bool.eq_iff_iff]; simp; omega
    rw [e]
    cases (l.getD (i / 64) 0).toNat.testBit (j % 64) <;> cases decide (j = i) <;> rfl
  · rw [if_neg h]
    have : decide (j = i) = false := decide_eq_false (fun e => h (by rw [e]))
    rw [this]; simp

/-- Words put together. -/
def zipB (f : Nat → Nat → Nat) (a b : List Int) : List Int := List.zipWith (fun x y : Int => ((f x.toNat y.toNat : Nat) : Int)) a b
def fOr (x y : Nat) : Nat := x ||| y
def fAnd (x y : Nat) : Nat := x &&& y
def fMin (x y : Nat) : Nat := x ^^^ (x &&& y)
theorem zipB_len {f : Nat → Nat → Nat} {a b : List Int} (h : a.length = b.length) : (zipB f a b).length = a.length := by
  unfold zipB; rw [List.length_zipWith]; omega
theorem zipB_get {f : Nat → Nat → Nat} (h0 : f 0 0 = 0) {a b : List Int} (h : a.length = b.length) (k : Nat) : ((zipB f a b).getD k 0).toNat = f (a.getD k 0).toNat (b.getD k 0).toNat := by
  unfold zipB
  rw [List.getD, List.getD, List.getD, List.getElem?_zipWith]
  by_cases hk : k < a.length
  · rw [List.getElem?_eq_getElem hk, List.getElem?_eq_getElem (by omega)]; simp
  · rw [List.getElem?_eq_none (by omega), List.getElem?_eq_none (by omega)]; simp [h0]
theorem zipB_bt {f : Nat → Nat → Nat} {g : Bool → Bool → Bool} (h0 : f 0 0 = 0) (hf : ∀ x y i, (f x y).testBit i = g (x.testBit i) (y.testBit i)) {a b : List Int} (h : a.length = b.length) (i : Nat) : bt (zipB f a b) i = g (bt a i) (bt b i) := by
  unfold bt
  rw [zipB_get h0 h, hf]
theorem zipB_w {f : Nat → Nat → Nat} (hf : ∀ x y, x < 2 ^ 64 → y < 2 ^ 64 → f x y < 2 ^ 64) {a b : List Int} (ha : W64 a) (hb : W64 b) : W64 (zipB f a b) := by
  intro x hx
  unfold zipB at hx
  rw [List.mem_iff_getElem?] at hx
  obtain ⟨k, hk⟩ := hx
  rw [List.getElem?_zipWith] at hk
  cases h1 : a[k]? with
  | none => rw [h1] at hk; simp at hk
  | some u =>
    cases h2 : b[k]? with
    | none => rw [h1, h2] at hk; simp at hk
    | some v =>
      rw [h1, h2] at hk
      simp at hk
      have a1 := ha u (List.mem_of_getElem? h1)
      have b1 := hb v (List.mem_of_getElem? h2)
      have := e64
      have := hf u.toNat v.toNat (by omega) (by omega)
      omega
theorem or_bt {a b : List Int} (h : a.length = b.length) (i : Nat) : bt (zipB fOr a b) i = (bt a i || bt b i) := zipB_bt (g := or) rfl (fun _ _ _ => Nat.testBit_or ..) h i
theorem and_bt {a b : List Int} (h : a.length = b.length) (i : Nat) : bt (zipB fAnd a b) i = (bt a i && bt b i) := zipB_bt (g := and) rfl (fun _ _ _ => Nat.testBit_and ..) h i
theorem min_bt {a b : List Int} (h : a.length = b.length) (i : Nat) : bt (zipB fMin a b) i = (bt a i && !bt b i) := zipB_bt (g := fun x y => x && !y) rfl (fun x y i => by
  unfold fMin
  rw [Nat.testBit_xor, Nat.testBit_and]
  cases x.testBit i <;> cases y.testBit i <;> rfl) h i
theorem or_w {a b : List Int} (ha : W64 a) (hb : W64 b) : W64 (zipB fOr a b) := zipB_w (fun _ _ h k => Nat.or_lt_two_pow h k) ha hb
theorem and_w {a b : List Int} (ha : W64 a) (hb : W64 b) : W64 (zipB fAnd a b) := zipB_w (fun _ _ h k => Nat.and_lt_two_pow _ k) ha hb
theorem min_w {a b : List Int} (ha : W64 a) (hb : W64 b) : W64 (zipB fMin a b) := zipB_w (fun _ _ h k => Nat.xor_lt_two_pow h (Nat.and_lt_two_pow _ k)) ha hb

/-- All numbers below N. -/
def allW (N : Nat) : List Int := (List.range ((N + 63) / 64)).map fun k : Nat => if 64 * (k + 1) ≤ N then 18446744073709551615 else ((2 ^ (N % 64) - 1 : Nat) : Int)
theorem allW_len (N : Nat) : (allW N).length = (N + 63) / 64 := by simp [allW]
theorem allW_w (N : Nat) : W64 (allW N) := by
  intro x hx
  obtain ⟨k, hk, rfl⟩ := List.mem_map.1 hx
  split
  · decide
  · have := p64 N; have := e64; omega
theorem allW_bt (N i : Nat) : bt (allW N) i = decide (i < N) := by
  by_cases h : i / 64 < (N + 63) / 64
  · unfold bt allW
    rw [List.getD, List.getElem?_map, List.getElem?_range h]
    simp only [Option.map_some, Option.getD_some]
    split
    · rename_i h1
      have e : (18446744073709551615 : Int).toNat = 2 ^ 64 - 1 := by decide
      rw [e, Nat.testBit_two_pow_sub_one]
      rw [Bool.eq_iff_iff]; simp; omega
    · rename_i h1
      rw [Int.toNat_natCast, Nat.testBit_two_pow_sub_one]
      rw [Bool.eq_iff_iff]; simp; omega
  · rw [bt_big (by rw [allW_len]; omega)]
    rw [Bool.eq_iff_iff]; simp; omega
/-- What is not in the set. -/
def notW (N : Nat) (l : List Int) : List Int := zipB fMin (allW N) l
theorem notW_w (N : Nat) {l : List Int} (h : W64 l) : W64 (notW N l) := min_w (allW_w N) h
theorem notW_len {N : Nat} {l : List Int} (h : (l.length : Int) = ((N : Int) + 63) / 64) : (notW N l).length = l.length := by
  unfold notW
  rw [zipB_len (by rw [allW_len]; omega), allW_len]; omega
theorem notW_bt {N : Nat} {l : List Int} (h : (l.length : Int) = ((N : Int) + 63) / 64) (i : Nat) : bt (notW N l) i = (decide (i < N) && !bt l i) := by
  unfold notW
  rw [min_bt (by rw [allW_len]; omega), allW_bt]

/-- A run grows by a number, or a new one begins. -/
def addRun (rs : List (Nat × Nat)) (i : Nat) : List (Nat × Nat) := match rs.getLast? with
  | some r => if r.2 = i then rs.dropLast ++ [(r.1, i + 1)] else rs ++ [(i, i + 1)]
  | none => [(i, i + 1)]
def runsL (ms : List Nat) : List (Nat × Nat) := ms.foldl addRun []
theorem runsL_snoc (ms : List Nat) (i : Nat) : runsL (ms ++ [i]) = addRun (runsL ms) i := by
  unfold runsL; rw [List.foldl_append]; rfl
theorem addRun_new {rs : List (Nat × Nat)} {i : Nat} (h : ∀ r, rs.getLast? = some r → r.2 ≠ i) : addRun rs i = rs ++ [(i, i + 1)] := by
  unfold addRun
  cases hr : rs.getLast? with
  | none => have : rs = [] := by simpa using hr
            rw [this]; rfl
  | some r => simp only [if_neg (h r hr)]
theorem addRun_on {rs : List (Nat × Nat)} {a i : Nat} : addRun (rs ++ [(a, i)]) i = rs ++ [(a, i + 1)] := by
  unfold addRun
  simp
/-- The runs of the members below i. -/
abbrev rn (l : List Int) (i : Nat) : List (Nat × Nat) := runsL (mem l i)
theorem rn_none {l : List Int} {i : Nat} (h : bt l i = false) : rn l (i + 1) = rn l i := by
  unfold rn mem
  rw [memF_succ, h]; simp
theorem rn_some {l : List Int} {i : Nat} (h : bt l i = true) : rn l (i + 1) = addRun (rn l i) i := by
  unfold rn mem
  rw [memF_succ, h, ← runsL_snoc]; simp
theorem rn_zero (l : List Int) : rn l 0 = [] := rfl
theorem rn_last (l : List Int) (i : Nat) : ∀ r, (rn l i).getLast? = some r → r.2 ≤ i := by
  induction i with
  | zero => intro r h; rw [rn_zero] at h; simp at h
  | succ i ih =>
    cases h : bt l i with
    | false => rw [rn_none h]; intro r hr; have := ih r hr; omega
    | true =>
      rw [rn_some h]
      intro r hr
      unfold addRun at hr
      split at hr
      · split at hr
        · simp at hr; subst hr; simp
        · simp at hr; subst hr; simp
      · simp at hr; subst hr; simp
theorem rn_last_bt (l : List Int) (i : Nat) : ∀ r, (rn l i).getLast? = some r → r.2 = i → 0 < i ∧ bt l (i - 1) = true := by
  cases i with
  | zero => intro r h; rw [rn_zero] at h; simp at h
  | succ i =>
    intro r hr h
    cases hb : bt l i with
    | true => exact ⟨by omega, by simpa using hb⟩
    | false => rw [rn_none hb] at hr; have := rn_last l i r hr; omega
/-- A whole run. -/
theorem rn_run {l : List Int} {f j : Nat} (h0 : ∀ r, (rn l f).getLast? = some r → r.2 ≠ f) (hj : f < j) (h : ∀ i, f ≤ i → i < j → bt l i = true) : rn l j = rn l f ++ [(f, j)] := by
  obtain ⟨d, rfl⟩ := Nat.exists_eq_add_of_lt hj
  clear hj
  induction d with
  | zero => rw [Nat.add_zero, rn_some (h f (by omega) (by omega)), addRun_new h0]
  | succ d ih =>
    rw [show f + (d + 1) + 1 = (f + d + 1) + 1 by omega, rn_some (h _ (by omega) (by omega)), ih (fun i h1 h2 => h i h1 (by omega)), addRun_on]
theorem rn_skip {l : List Int} {i j : Nat} (hij : i ≤ j) (h : ∀ k, i ≤ k → k < j → bt l k = false) : rn l j = rn l i := by
  unfold rn mem
  rw [memF_skip l 0 i j hij h]
end Go.Proofs.Ytemhoaleeefhhaa
