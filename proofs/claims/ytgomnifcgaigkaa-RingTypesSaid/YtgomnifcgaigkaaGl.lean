/- Walks: RingRuns. -/
import Derived.Test.YtgomnifcgaigkaaProg
import Derived.Test.YtgomnifcgaigkaaGk
namespace Go.Proofs.Ytgomnifcgaigkaa
open Go.RowKit Go.Shelf
set_option linter.unusedVariables false

theorem E_u8 : Elem Try.prog 22 5 (.int .u8 0) 1 1 := elem_of Try.underlying22 (by kernel_rfl) rfl (by decide)
def Bytes (l : List Int) : Prop := ∀ x ∈ l, 0 ≤ x ∧ x ≤ 255
theorem Bytes.at_ {l : List Int} (h : Bytes l) {k : Nat} (hk : k < l.length) : 0 ≤ l.getD k 0 ∧ l.getD k 0 ≤ 255 := h _ (by rw [List.getD, List.getElem?_eq_getElem hk]; exact List.getElem_mem _)

theorem put_ways {α : Type} (mk : Int → α) (S : RS α) : (putR mk S).2 = 0 ∨ (putR mk S).2 = 4 := by
  unfold putR; split
  · exact .inr rfl
  · exact .inl rfl

/-- What holds between two acts. -/
def RunsI (w : World) (B p g Bn : Nat) (num : Int) (wr : World) : Prop := ∃ (S : RS (Int × Int)) (nx e : Int), RngI wr B p g S ∧ Cnt num S ∧ S.ac + S.rf = num ∧ Boxed wr Bn 3 (.int .i64 nx) ∧ Chain nx S.L e ∧ e + S.o = num ∧ 0 ≤ nx ∧ Bn ≠ p ∧ Bn ≠ g ∧ Below w.heap.size w wr

theorem RunsI.put {w wr w' : World} {B p g g' Bn : Nat} {num : Int} {S : RS (Int × Int)} {nx e : Int} (h2 : Cnt num S) (h3 : S.ac + S.rf = num) (h4 : Boxed wr Bn 3 (.int .i64 nx)) (h5 : Chain nx S.L e) (h6 : e + S.o = num) (h7 : 0 ≤ nx) (h8 : Bn ≠ p) (h9 : Bn ≠ g)
    (k1 : RngI w' B p g' (putR (fun o => (num, o)) S).1) (k2 : g' = g ∨ wr.heap.size ≤ g') (k3 : Spared p g wr w') (k4 : Below w.heap.size w w') (k5 : Cnt (num + 1) (putR (fun o => (num, o)) S).1) : RunsI w B p g' Bn (num + 1) w' := by
  have h10 := h4.lt
  by_cases hl : (S.L.length : Int) = S.cap
  · have e1 : putR (fun o => (num, o)) S = ({ S with o := S.o + 1, rf := S.rf + 1 }, 4) := if_pos hl
    rw [e1] at k1 k5
    exact ⟨_, nx, e, k1, k5, by simp only []; omega, k3.box h4 h8 h9, h5, by simp only []; omega, h7, h8, by rcases k2 with rfl | k2 <;> omega, k4⟩
  · have e1 : putR (fun o => (num, o)) S = ({ S with o := 0, ac := S.ac + 1, L := S.L ++ [(num, S.o)] }, 0) := if_neg hl
    rw [e1] at k1 k5
    have := h5.snoc S.o h2.1
    rw [h6] at this
    exact ⟨_, nx, num + 1, k1, k5, by simp only []; omega, k3.box h4 h8 h9, this, by simp only []; omega, h7, h8, by rcases k2 with rfl | k2 <;> omega, k4⟩

theorem RunsI.take {w w6 w' : World} {B p g Bn m : Nat} {num d : Int} {S : RS (Int × Int)} {e : Int} (h3 : S.ac + S.rf = num) (h5 : Chain d (S.L.drop m) e) (h6 : e + S.o = num) (h7 : 0 ≤ d) (h8 : Bn ≠ p) (h9 : Bn ≠ g)
    (k1 : RngI w6 B p g { S with L := S.L.drop m }) (k5 : Cnt num { S with L := S.L.drop m }) (k4 : Below w.heap.size w w6) (q1 : Boxed w' Bn 3 (.int .i64 (d + 0))) (q2 : Spared Bn Bn w6 w') (q3 : w.heap.size ≤ Bn) (q4 : w.heap.size ≤ w6.heap.size) : RunsI w B p g Bn num w' := by
  rw [Int.add_zero] at q1
  exact ⟨_, d, e, k1.spared q2 (Ne.symm h8) (Ne.symm h9), k5, h3, q1, h5, h6, h7, h8, h9, q2.below q3 q3 k4 q4⟩
theorem RunsI.drain {w w6 w' : World} {B p g Bn : Nat} {num : Int} {S : RS (Int × Int)} {e : Int} (h3 : S.ac + S.rf = num) (h6 : e + S.o = num) (h7 : 0 ≤ num) (h8 : Bn ≠ p) (h9 : Bn ≠ g)
    (k1 : RngI w6 B p g (drainR S).1) (k5 : Cnt num (drainR S).1) (k4 : Below w.heap.size w w6) (q1 : Boxed w' Bn 3 (.int .i64 (e + S.o))) (q2 : Spared Bn Bn w6 w') (q3 : w.heap.size ≤ Bn) (q4 : w.heap.size ≤ w6.heap.size) : RunsI w B p g Bn num w' := by
  rw [h6] at q1
  exact ⟨_, num, num, k1.spared q2 (Ne.symm h8) (Ne.symm h9), k5, h3, q1, rfl, by show num + 0 = num; omega, h7, h8, h9, q2.below q3 q3 k4 q4⟩

set_option maxRecDepth 100000 in
set_option maxHeartbeats 3200000 in
theorem RingRuns_any (c : Nat) (A : Option Addr) (n0 cp : Nat) (l : List Int) (w : World) (hc : c < 256) (h : Sees w 1 A n0 cp (l.map (Value.int .u8))) (hl : Bytes l) :
    Calls Try.prog 3 #[.int .u8 (c : Int), .slice A n0 cp] w fun e w' => e = .returned (.bool true) ∧ Below w.heap.size w w' := by
  obtain ⟨n, hm0, hm20, hmin, hmc⟩ := min_is n0 300
  have hmi : (if (300 : Int) < (n0 : Int) then (300 : Int) else (n0 : Int)) = (n : Int) := by split <;> omega
  have hmi' : (if 300 < n0 then (300 : Int) else (n0 : Int)) = (n : Int) := by split <;> omega
  have hcut := fun w => run_cutr E_u8 A n0 cp n (Nat.le_trans hm0 h.cap) w
  have hs := h.pre hm0
  rw [Nat.mul_one, ← List.map_take] at hs
  have hb := (show Bytes (l.take n) from fun y hy => hl y (List.mem_of_mem_take hy))
  generalize l.take n = r at hs hb
  have HS := Lib.hid hs
  have HB := Lib.hid hb
  have HK := Lib.hid hm20
  have HC := Lib.hid hc
  have hn3 : (n : Int) ≤ 300 := by omega
  clear hs hb h hl hm0 hm20 hmin hmc hc
  have hmf : ∀ (fn : Fn) (first cap : Array Value) (w : World), (Instr.makeFunc fn first cap).run Try.prog w = .ok (.func fn first cap) w := fun _ _ _ _ => rfl
  go_enter Try.func3, Try.ntmps3
  go_wp2_with (first
    | (go_at_call 12; refine (made_any c _ HC.out).mono ?_; rintro e w2 ⟨p, rfl, hr, b2⟩)
    | (go_at_call 11; refine (awake_any _).mono ?_; rintro e w1 ⟨rfl, b1⟩))
  have hB : w.heap.size ≤ w1.heap.size := b1.size
  have hb2 := b1.trans (b2.mono b1.size)
  have hpl := hr.plt
  have hbp := hr.bp
  have hst : RunsI w w1.heap.size p p w2.heap.size 0 (w2.alloc (.cells #[.int .i64 0] 3)) :=
    ⟨_, 0, 0, hr.below ((Below.refl _ _).alloc (Nat.le_refl _) _) hpl hpl, Cnt.zero _, rfl, Boxed.new _ _ _, rfl, rfl, Int.le_refl _, by omega, by omega, hb2.alloc hb2.size _⟩
  have HST := Lib.hid hst
  have HBB := Lib.hid hB
  have hbn := hb2.size
  have HBN := Lib.hid hbn
  clear hst hB hr b1 b2 hb2 hpl hbp hbn
  generalize w1.heap.size = B at HST HBB
  generalize w2.heap.size = Bn at HST HBN ⊢
  go_loopw [8, 39] (fun v i wr => ∃ (k g : Nat) (num : Int), Hid (k ≤ n ∧ num ≤ (k : Int)) ∧ i = .int .i64 (k : Int) ∧ v = .int .i64 num ∧ 0 ≤ num ∧ Hid (RunsI w B p g Bn num wr)) (fun _ i _ => n - (intOf i).toNat)
  case atStart => exact ⟨0, p, 0, Lib.hid ⟨Nat.zero_le _, by simp⟩, rfl, rfl, Int.le_refl _, HST.out⟩
  case round =>
    obtain ⟨k, g, num, HI, rfl, rfl, hnum, HR⟩ := hrel
    obtain ⟨S, nx, e, h1, h2, h3, h4, h5, h6, h7, h8, h9, hb⟩ := HR.out
    have hnum2 : num ≤ 300 := by have := HI.out; have := HK.out; omega
    by_cases hlt : k < n
    · obtain ⟨b0, o0, hA, g1⟩ := (HS.out.below hb (Nat.le_refl _)).int hlt
      cases hA
      have hx := HB.out.at_ (k := k) (by rw [HS.out.length]; exact hlt)
      generalize r.getD k 0 = a at g1 hx
      obtain ⟨hx1, hx2⟩ := hx
      have d1 : decide ((k : Int) < (n : Int)) = true := by simp; omega
      have hk2 : (k : Int) < (n : Int) := by omega
      have HLT := Lib.hid hlt
      have HH := Lib.hid (And.intro h1 (And.intro h2 (And.intro h3 (And.intro h4 (And.intro h5 (And.intro h6 (And.intro h7 (And.intro h8 (And.intro h9 hb)))))))))
      clear hlt h1 h2 h3 h4 h5 h6 h7 h8 h9 hb
      by_cases ha : a < 180
      · have d2 : decide (a < 180) = true := by simpa using ha
        obtain ⟨rr, hrr⟩ : ∃ rr, (putR (fun o => (num, o)) S).2 = rr := ⟨_, rfl⟩
        have hw := put_ways (fun o => (num, o)) S
        rw [hrr] at hw
        have hP := PutI_at B p g w.heap.size num num S w wr HH.out.1 HH.out.2.1 (by omega) HH.out.2.2.2.2.2.2.2.2.2 HBB.out
        rw [hrr] at hP
        have HP := Lib.hid hP
        clear ha hP hrr
        rcases hw with rfl | rfl
        all_goals
          go_wp2_with (go_at_call 14; refine HP.out.mono ?_; rintro e1 w5 ⟨g5, rfl, r5, c5, n5, s5, b5⟩; have hq := RunsI.put HH.out.2.1 HH.out.2.2.1 HH.out.2.2.2.1 HH.out.2.2.2.2.1 HH.out.2.2.2.2.2.1 HH.out.2.2.2.2.2.2.1 HH.out.2.2.2.2.2.2.2.1 HH.out.2.2.2.2.2.2.2.2.1 r5 n5 s5 b5 c5; have HQ := Lib.hid hq; clear hq r5 c5 n5 s5 b5)
          go_roundw
          case rel => exact ⟨k + 1, g5, num + 1, Lib.hid ⟨HLT.out, by have := HI.out; omega⟩, by go_num, rfl, by omega, HQ.out⟩
          case measure => have := HLT.out; simp [intOf]; omega
      · have d2 : decide (a < 180) = false := by simpa using ha
        by_cases hb2 : a < 240
        · have d3 : decide (a < 240) = true := by simpa using hb2
          have ha0 : 0 ≤ a % 8 := by omega
          have hT := TakeI_at B p g w.heap.size num (a % 8) S w wr HH.out.1 HH.out.2.1 HH.out.2.2.2.2.2.2.2.2.2 HBB.out
          rw [show takeR (a % 8) S = ({ S with L := S.L.drop (a % 8).toNat }, S.L.take (a % 8).toNat, 0) from if_neg (by omega)] at hT
          generalize (a % 8).toNat = m at hT
          obtain ⟨d, hd1, hd2⟩ := HH.out.2.2.2.2.1.split m
          have htl : (S.L.take m).length ≤ 65536 := by have := HH.out.1.len; rw [List.length_take]; omega
          generalize S.L.take m = T at hT hd1 htl
          have HTL := Lib.hid htl
          clear htl
          have HT := Lib.hid hT
          have HD := Lib.hid (And.intro hd1 hd2)
          clear ha hb2 hT hd1 hd2
          go_wp2_with (first
            | (go_at_call 13; refine (taken_any Bn _ _ _ T nx d 0 _ (HeldRow.fresh O6.out.2.2.1 HH.out.2.2.2.1.lt HH.out.2.2.2.1.lt) rfl HTL.out (O6.out.2.2.2.1.box HH.out.2.2.2.1 HH.out.2.2.2.2.2.2.2.1 HH.out.2.2.2.2.2.2.2.2.1) HD.out.1 ⟨HH.out.2.2.2.2.2.2.1, by have := HD.out.2.le; have := HH.out.2.2.2.2.2.1; have := HH.out.2.1.1; omega⟩ (by decide)).mono ?_; rintro e1 w7 ⟨rfl, q1, q2⟩; have hq := RunsI.take HH.out.2.2.1 HD.out.2 HH.out.2.2.2.2.2.1 (by have := HD.out.1.le; have := HH.out.2.2.2.2.2.2.1; omega) HH.out.2.2.2.2.2.2.2.1 HH.out.2.2.2.2.2.2.2.2.1 O6.out.1 O6.out.2.1 O6.out.2.2.2.2 q1 q2 HBN.out O6.out.2.2.2.2.size; have HQ := Lib.hid hq; clear hq q1 q2)
            | (go_at_call 15; refine HT.out.mono ?_; rintro e1 w6 ⟨A6, c6, rfl, r6, c6', o6, s6, b6⟩; have O6 := Lib.hid (And.intro r6 (And.intro c6' (And.intro o6 (And.intro s6 b6)))); clear r6 c6' o6 s6 b6))
          go_roundw
          case rel => exact ⟨k + 1, g, num, Lib.hid ⟨HLT.out, by have := HI.out; omega⟩, by go_num, rfl, hnum, HQ.out⟩
          case measure => have := HLT.out; simp [intOf]; omega
        · have d3 : decide (a < 240) = false := by simpa using hb2
          have HT := Lib.hid (DrainI_at B p g w.heap.size num S w wr HH.out.1 HH.out.2.1 HH.out.2.2.2.2.2.2.2.2.2 HBB.out)
          clear ha hb2
          go_wp2_with (first
            | (go_at_call 13; refine (taken_any Bn _ _ _ S.L nx e S.o _ (HeldRow.fresh O6.out.2.2.1 HH.out.2.2.2.1.lt HH.out.2.2.2.1.lt) rfl (by have := HH.out.1.len; omega) (O6.out.2.2.2.1.box HH.out.2.2.2.1 HH.out.2.2.2.2.2.2.2.1 HH.out.2.2.2.2.2.2.2.2.1) HH.out.2.2.2.2.1 ⟨HH.out.2.2.2.2.2.2.1, by have := HH.out.2.2.2.2.2.1; have := HH.out.2.1.1; omega⟩ ⟨HH.out.2.1.1, by have := HH.out.2.2.2.2.2.1; have := HH.out.2.2.2.2.1.le; have := HH.out.2.2.2.2.2.2.1; omega⟩).mono ?_; rintro e1 w7 ⟨rfl, q1, q2⟩; have hq := RunsI.drain HH.out.2.2.1 HH.out.2.2.2.2.2.1 hnum HH.out.2.2.2.2.2.2.2.1 HH.out.2.2.2.2.2.2.2.2.1 O6.out.1 O6.out.2.1 O6.out.2.2.2.2 q1 q2 HBN.out O6.out.2.2.2.2.size; have HQ := Lib.hid hq; rw [HH.out.2.2.2.2.2.1] at q1; have bc := q1.cell; clear hq q1 q2)
            | (go_at_call 16; refine HT.out.mono ?_; rintro e1 w6 ⟨A6, c6, rfl, r6, c6', o6, s6, b6⟩; have O6 := Lib.hid (And.intro r6 (And.intro c6' (And.intro o6 (And.intro s6 b6)))); clear r6 c6' o6 s6 b6))
          go_roundw
          case rel => exact ⟨k + 1, g, num, Lib.hid ⟨HLT.out, by have := HI.out; omega⟩, by go_num, rfl, hnum, HQ.out⟩
          case measure => have := HLT.out; simp [intOf]; omega
    · have d1 : decide ((k : Int) < (n : Int)) = false := by simp; omega
      have d1' : decide (k < n) = false := by simp; omega
      have HT := Lib.hid (DrainI_at B p g w.heap.size num S w wr h1 h2 hb HBB.out)
      have HH := Lib.hid (And.intro h1 (And.intro h2 (And.intro h3 (And.intro h4 (And.intro h5 (And.intro h6 (And.intro h7 (And.intro h8 (And.intro h9 hb)))))))))
      have e9 : ((S.ac + S.rf) == num) = true := by simpa using h3
      have a1 : 0 ≤ S.ac := h2.2.1
      have a2 : 0 ≤ S.rf := h2.2.2.1
      have a3 : S.ac ≤ 300 := by omega
      have a4 : S.rf ≤ 300 := by omega
      clear hlt h1 h2 h3 h4 h5 h6 h7 h8 h9 hb
      go_wp2_with (first
        | (go_at_call 17; refine (AcceptedR_any B p g _ _ R7.out).mono ?_; rintro e w8 ⟨rfl, rfl⟩)
        | (go_at_call 18; refine (RefusedR_any B p g _ _ R7.out).mono ?_; rintro e w8 ⟨rfl, rfl⟩)
        | (go_at_call 13; refine (taken_any Bn _ _ _ S.L nx e S.o _ (HeldRow.fresh O6.out.2.2.1 HH.out.2.2.2.1.lt HH.out.2.2.2.1.lt) rfl (by have := HH.out.1.len; omega) (O6.out.2.2.2.1.box HH.out.2.2.2.1 HH.out.2.2.2.2.2.2.2.1 HH.out.2.2.2.2.2.2.2.2.1) HH.out.2.2.2.2.1 ⟨HH.out.2.2.2.2.2.2.1, by have := HH.out.2.2.2.2.2.1; have := HH.out.2.1.1; omega⟩ ⟨HH.out.2.1.1, by have := HH.out.2.2.2.2.2.1; have := HH.out.2.2.2.2.1.le; have := HH.out.2.2.2.2.2.2.1; omega⟩).mono ?_; rintro e1 w7 ⟨rfl, q1, q2⟩; have R7 := Lib.hid (show RngI w7 B p g ⟨0, S.ac, S.rf, S.cap, []⟩ from O6.out.1.spared q2 (Ne.symm HH.out.2.2.2.2.2.2.2.1) (Ne.symm HH.out.2.2.2.2.2.2.2.2.1)); have B7 := Lib.hid (q2.below HBN.out HBN.out O6.out.2.2.2.2 O6.out.2.2.2.2.size); rw [HH.out.2.2.2.2.2.1] at q1; have bc := q1.cell; clear q1 q2)
        | (go_at_call 16; refine HT.out.mono ?_; rintro e1 w6 ⟨A6, c6, rfl, r6, c6', o6, s6, b6⟩; have O6 := Lib.hid (And.intro r6 (And.intro c6' (And.intro o6 (And.intro s6 b6)))); clear r6 c6' o6 s6 b6))
      go_ret
      exact ⟨rfl, B7.out⟩
end Go.Proofs.Ytgomnifcgaigkaa
