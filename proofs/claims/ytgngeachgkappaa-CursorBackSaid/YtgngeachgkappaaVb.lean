/- varint.groups, its closure, Size, put, Write. -/
import Derived.Test.YtgngeachgkappaaProg
import Derived.Test.YtgngeachgkappaaR
import Derived.Test.YtgngeachgkappaaVm
namespace Go.Proofs.Ytgngeachgkappaa
open Go.RowKit Go.Shelf
set_option linter.unusedVariables false
attribute [local go_sem] Oper.semAt_some

theorem groups_any (x : Int) (w : World) :
    Calls Try.prog 53 #[.int .u64 x] w fun e w' => e = .returned (.func (.func 60) #[] #[.pointer (some ⟨w.heap.size, 0, none⟩)]) ∧ w.alloc (.cells #[.int .u64 x] 30) = w' := by
  go_enter Try.func53, Try.ntmps53
  go_wp2
  go_ret
  exact ⟨rfl, rfl⟩

set_option maxHeartbeats 1000000 in
theorem groups1_in (l bx x0 : Nat) (hx0 : x0 < 18446744073709551616) (J : List (Nat × Bool) → World → Prop) (W : World)
    (hJs : ∀ pre W u v, J pre W → W.heap[bx]? = some (.cells #[u] 30 (0, 0)) → J pre (W.setCell ⟨bx, 0, none⟩ v))
    (hY : ∀ pre x u W, J pre W → W.heap[bx]? = some (.cells #[u] 30 (0, 0)) → (pre ++ [x]) <+: glF 10 x0 → YieldAt Fence.wide 0 Try.prog l #[.int .u8 (x.1 : Int), .bool x.2] W fun e W' => e = .returned (.bool true) ∧ J (pre ++ [x]) W' ∧ KeepsBlock bx W W')
    (hW : W.heap[bx]? = some (.cells #[.int .u64 (x0 : Int)] 30 (0, 0))) (h0 : J [] W) :
    CallsIn Fence.wide 0 Try.prog 60 #[.func (.yield l) #[] #[], .pointer (some ⟨bx, 0, none⟩)] W fun e W' => (∃ v, e = .returned v) ∧ J (glF 10 x0) W' := by
  refine callsIn_of_wp Try.func60 rfl trivial ?_ rfl
  simp only [Try.ntmps60, List.size_toArray, List.length_cons, List.length_nil, Nat.reduceAdd, Nat.reduceSub, Array.replicate_succ, Array.replicate_zero, List.push_toArray, List.append_toArray, List.nil_append, List.cons_append]
  gi_wp2
  gi_loopw [3] (fun _ wr => ∃ (pre : List (Nat × Bool)) (f y : Nat), y < 128 ^ (f + 1) ∧ y < 18446744073709551616 ∧ Hid (pre ++ glF (f + 1) y = glF 10 x0) ∧ wr.heap[bx]? = some (.cells #[.int .u64 (y : Int)] 30 (0, 0)) ∧ J pre wr)
    (fun _ wr => (intOf ((wr.cell? ⟨bx, 0, none⟩).getD undef)).toNat)
  case atStart => exact ⟨[], 9, x0, lt_pow10 hx0, hx0, rfl, hW, h0⟩
  case round =>
    obtain ⟨pre, f, y, hy, hy64, HG, hbx, hJ⟩ := hrel
    have hc : wr.cell? ⟨bx, 0, none⟩ = some (.int .u64 (y : Int)) := cell_of_one hbx
    by_cases hlt : y < 128
    · have hG : pre ++ [(y, false)] = glF 10 x0 := by rw [← glF_lt (f := f) hlt]; exact HG.out
      have ha : bits .and .u64 (y : Int) 127 = (y : Int) := by rw [and127 y hy64, Nat.mod_eq_of_lt hlt]
      obtain ⟨fn, tmps, assign, body, hy1, hR⟩ := hY pre (y, false) _ wr hJ hbx (by rw [hG]; exact List.prefix_refl _)
      dsimp only at hy1
      have HGG := Lib.hid hG
      have hd : decide ((127 : Int) < (y : Int)) = false := by simp; omega
      clear hG HG hY
      gi_wp2
      refine ⟨rfl, hR.mono ?_⟩
      rintro e W1 ⟨rfl, hJ1, hb1⟩
      have hc1 : W1.cell? ⟨bx, 0, none⟩ = some (.int .u64 (y : Int)) := cell_of_one (hb1.trans hbx)
      clear hb1
      gi_wp2
      go_end0
      exact ⟨⟨_, rfl⟩, by rw [← HGG.out]; exact hJ1⟩
    · obtain ⟨g, hg⟩ : ∃ g, y % 128 = g := ⟨_, rfl⟩
      have hg1 : g < 128 := by omega
      have hG : (pre ++ [(g, true)]) ++ glF f (y / 128) = glF 10 x0 := by rw [← hg, List.append_assoc, List.singleton_append, ← glF_ge (f := f) hlt]; exact HG.out
      have ha : bits .and .u64 (y : Int) 127 = (g : Int) := by rw [and127 y hy64, hg]
      obtain ⟨fn, tmps, assign, body, hy1, hR⟩ := hY pre (g, true) _ wr hJ hbx ⟨_, hG⟩
      dsimp only at hy1
      have HGG := Lib.hid hG
      have hp := pow_step hy hlt
      obtain ⟨f', rfl⟩ : ∃ f', f = f' + 1 := ⟨f - 1, by omega⟩
      have hd : decide ((127 : Int) < (y : Int)) = true := by simp; omega
      clear hG HG hY hg
      gi_wp2
      refine ⟨rfl, hR.mono ?_⟩
      rintro e W1 ⟨rfl, hJ1, hb1⟩
      have hbx1 := hb1.trans hbx
      have hc1 : W1.cell? ⟨bx, 0, none⟩ = some (.int .u64 (y : Int)) := cell_of_one hbx1
      have hf1 : W1.frozen? ⟨bx, 0, none⟩ = false := free_of_one hbx1
      have HB := Lib.hid hbx1
      clear hb1 hbx1
      gi_wp2
      go_roundw
      case rel => exact ⟨pre ++ [(g, true)], f', y / 128, hp.1, by omega, HGG.out, one_setCell HB.out, hJs _ _ _ _ hJ1 HB.out⟩
      case measure =>
        rw [cell_of_one (one_setCell HB.out), hc]
        simp [intOf]
        omega

set_option maxHeartbeats 1000000 in
theorem Size_in (x : Nat) (hx : x < 18446744073709551616) (w : World) :
    CallsIn Fence.wide 0 Try.prog 36 #[.int .u64 (x : Int)] w fun e w' => e = .returned (.int .i64 ((enc x).length : Int)) ∧ Below w.heap.size w w' := by
  refine callsIn_of_wp_marks Try.func36 rfl trivial ?_ rfl
  simp only [Try.ntmps36, List.size_toArray, List.length_cons, List.length_nil, Nat.reduceAdd, Nat.reduceSub, Array.replicate_succ, Array.replicate_zero, List.push_toArray, List.append_toArray, List.nil_append, List.cons_append]
  have hfn : ∀ k, Fence.wide.fn k := fun _ => trivial
  have hdep : Fence.wide.depth = none := rfl
  have hcap := enc_len x
  gi_wp2_with (gi_at_call 53; refine (callsIn_wide.2 (groups_any _ _)).mono ?_; rintro e w' ⟨rfl, rfl⟩)
  refine wp_range_all (gf := 60) (lb := #[.pointer (some ⟨w.heap.size + 1, 0, none⟩)]) rfl (enters_of Try.func60 (by kernel_rfl) rfl)
    (fun x : Nat × Bool => #[.int .u8 (x.1 : Int), .bool x.2]) (fun _ => rfl) (w.heap.size + 1) 30 (by simp) (glF 10 x)
    (fun l J W hJs hY hW h0 => groups1_in l _ x hx J W hJs hY (hW.trans (by have := heap_alloc_new (w.alloc (.cells #[.int .i64 0] 3)) (.cells #[.int .u64 (x : Int)] 30); simpa using this)) h0)
    (fun pre W => W.heap[w.heap.size]? = some (.cells #[.int .i64 (pre.length : Int)] 3 (0, 0)) ∧ Below w.heap.size w W)
    ?hI ?hIs ?h0 (fun p => #[.int .u64 (x : Int), undef, .int .i64 0, .pointer (some ⟨w.heap.size, 0, none⟩), .int .u64 (x : Int), .func (.func 60) #[] #[.pointer (some ⟨w.heap.size + 1, 0, none⟩)], .int .u8 (p.1 : Int), .bool p.2, undef, undef, undef]) (fun _ => by simp) (fun p => { tmps := #[.int .u64 (x : Int), undef, .int .i64 0, .pointer (some ⟨w.heap.size, 0, none⟩), .int .u64 (x : Int), .func (.func 60) #[] #[.pointer (some ⟨w.heap.size + 1, 0, none⟩)], .int .u8 (p.1 : Int), .bool p.2, undef, undef, undef], defers := [] })
    ?assign ?body ?done
  case hI =>
    intro pre A B row hs hg hr
    refine ⟨one_kept hs.1 hg (fun r e => (hr r e).2), hs.2.grown hg hs.2.size (fun r e => ?_)⟩
    have := (hr r e).1
    simp at this
    omega
  case hIs =>
    intro pre W u v hs _
    exact ⟨(Below.heap_setCell _ _ _ _ (by simp)).trans hs.1, hs.2.setCell (by simp) _⟩
  case h0 =>
    have hb : Below w.heap.size w ((w.alloc (.cells #[.int .i64 0] 3)).alloc (.cells #[.int .u64 (x : Int)] 30)) := ((Below.refl _ w).alloc (Nat.le_refl _) _).alloc (by simp) _
    exact ⟨(Below.heap_alloc _ _ _ (by simp)).trans (heap_alloc_new w _), hb⟩
  case assign =>
    intro l x W K hK
    gi_wp2
    exact hK
  case body =>
    rintro l pre p u W ⟨hn, hb⟩ hbx hpre
    clear hbx
    have hc := cell_of_one hn
    have hf := free_of_one hn
    have hl : pre.length < 100 := by
      have h1 := hpre.length_le
      have h2 := glF_len 10 x
      have h3 := enc_len x
      unfold enc at h3
      simp at h1
      omega
    have HN := Lib.hid hn
    clear hn
    gi_wp2
    refine ⟨⟨one_setCell HN.out, hb.setCell (p := ⟨w.heap.size, 0, none⟩) (Nat.le_refl _) _⟩, KeepsOthers.setCell _ _ _, ?_⟩
    exact Below.heap_setCell W ⟨w.heap.size, 0, none⟩ _ (w.heap.size + 1) (by simp)
  case done =>
    rintro W ⟨hn, hb⟩ hD
    have hc := cell_of_one hn
    gi_wp2
    refine ⟨by simp, .inl ⟨_, _, rfl, run_takeDeferred hD, ?_⟩⟩
    refine ⟨_, results_tmp rfl _ _ _, ?_, ?_⟩
    · exact ret_int (a := ((glF 10 x).length : Int)) (by rw [glF_len]; rfl)
    · exact hb.grown (grownBy_putObj' W _ _) hb.size (fun k e => by cases e; simp; omega)

theorem Size_any (x : Nat) (hx : x < 18446744073709551616) (w : World) :
    Calls Try.prog 36 #[.int .u64 (x : Int)] w fun e w' => e = .returned (.int .i64 ((enc x).length : Int)) ∧ Below w.heap.size w w' := callsIn_wide.1 (Size_in x hx w)

theorem u8_info : (Try.prog.info? 5).map (fun i => (i.zero, i.size, i.bytes)) = some (some (.int .u8 0), 1, 1) := by kernel_rfl

/-- Between two rounds of put: the variable 'out' lies in block b, and owns what it had at first and the bytes of the groups that have come. -/
def PutI (w : World) (b base : Nat) (xs : List Int) (pre : List (Nat × Bool)) (W : World) : Prop :=
  (∃ v', W.heap[b]? = some (.cells #[v'] 31 (0, 0)) ∧ W.ownsRow base 5 1 v' (xs ++ pre.map gb).length ((xs ++ pre.map gb).map (Value.int .u8))) ∧ Below base w W

set_option maxHeartbeats 1000000 in
theorem put_in (x : Nat) (hx : x < 18446744073709551616) (v : Value) (xs : List Int) (base : Nat) (w : World) (hbase : base ≤ w.heap.size)
    (hown : w.ownsRow base 5 1 v xs.length (xs.map (Value.int .u8))) (hlen : xs.length ≤ 1000000) :
    CallsIn Fence.wide 0 Try.prog 47 #[v, .int .u64 (x : Int)] w fun e w' => ∃ v', e = .returned v' ∧ w'.ownsRow base 5 1 v' (xs ++ enc x).length ((xs ++ enc x).map (Value.int .u8)) ∧ Below base w w' := by
  refine callsIn_of_wp_marks Try.func47 rfl trivial ?_ rfl
  simp only [Try.ntmps47, List.size_toArray, List.length_cons, List.length_nil, Nat.reduceAdd, Nat.reduceSub, Array.replicate_succ, Array.replicate_zero, List.push_toArray, List.append_toArray, List.nil_append, List.cons_append]
  have hfn : ∀ k, Fence.wide.fn k := fun _ => trivial
  have hdep : Fence.wide.depth = none := rfl
  have hcap := enc_len x
  obtain ⟨A, c, rfl⟩ := own_form hown
  gi_wp2_with (gi_at_call 53; refine (callsIn_wide.2 (groups_any _ _)).mono ?_; rintro e w' ⟨rfl, rfl⟩)
  obtain ⟨i0, hi, hz0, hz1, hz2⟩ := info_parts u8_info
  have HO := Lib.hid hown
  clear hown
  refine wp_range_all (gf := 60) (lb := #[.pointer (some ⟨w.heap.size + 1, 0, none⟩)]) rfl (enters_of Try.func60 (by kernel_rfl) rfl)
    (fun x : Nat × Bool => #[.int .u8 (x.1 : Int), .bool x.2]) (fun _ => rfl) (w.heap.size + 1) 30 (by simp) (glF 10 x)
    (fun l J W hJs hY hW h0 => groups1_in l _ x hx J W hJs hY (hW.trans (by have := heap_alloc_new (w.alloc (.cells #[.slice A xs.length c] 31)) (.cells #[.int .u64 (x : Int)] 30); simpa using this)) h0)
    (PutI w w.heap.size base xs)
    ?hI ?hIs ?h0 (fun p => #[.slice A xs.length c, .int .u64 (x : Int), .pointer (some ⟨w.heap.size, 0, none⟩), undef, .slice none 0 0, undef, undef, .int .u64 (x : Int), .func (.func 60) #[] #[.pointer (some ⟨w.heap.size + 1, 0, none⟩)], .int .u8 (p.1 : Int), .bool p.2, undef, undef, undef, undef, undef, undef, undef, undef]) (fun _ => by simp)
    (fun p => { tmps := #[.slice A xs.length c, .int .u64 (x : Int), .pointer (some ⟨w.heap.size, 0, none⟩), undef, .slice none 0 0, .int .u8 (p.1 : Int), .bool p.2, .int .u64 (x : Int), .func (.func 60) #[] #[.pointer (some ⟨w.heap.size + 1, 0, none⟩)], .int .u8 (p.1 : Int), .bool p.2, undef, undef, undef, undef, undef, undef, undef, undef], defers := [] })
    ?assign ?body ?done
  case hI =>
    rintro pre X Y row ⟨⟨v', hv, ho⟩, hb⟩ hg hr
    refine ⟨⟨v', one_kept hv hg (fun r e => (hr r e).2), own_kept ho hg (fun r e => (hr r e).2)⟩, hb.grown hg (Nat.le_trans hbase hb.size) (fun r e => ?_)⟩
    have := (hr r e).1
    simp at this
    omega
  case hIs =>
    rintro pre W u z ⟨⟨v', hv, ho⟩, hb⟩ hu
    exact ⟨⟨v', (Below.heap_setCell _ _ _ _ (by simp)).trans hv, ownsRow_setCell_other ho (own_ne_block ho hu (by decide)) _⟩, hb.setCell (by simp; omega) _⟩
  case h0 =>
    refine ⟨⟨_, (Below.heap_alloc _ _ _ (by simp)).trans (heap_alloc_new w _), ?_⟩, ((Below.refl _ w).alloc hbase _).alloc (by simp; omega) _⟩
    simpa using (HO.out.alloc _).alloc _
  case assign =>
    intro l x W K hK
    gi_wp2
    exact hK
  case body =>
    rintro l pre p u W ⟨⟨v', hv, ho⟩, hb⟩ hbx hpre
    have hl : pre.length < 100 := by
      have h1 := hpre.length_le
      have h2 := glF_len 10 x
      have h3 := enc_len x
      unfold enc at h3
      simp at h1
      omega
    have hl2 : (xs ++ pre.map gb).length ≤ 1000100 := by simp; omega
    have hnew : xs ++ (pre ++ [p]).map gb = (xs ++ pre.map gb) ++ [gb p] := by simp
    have hg : p.1 < 128 := by
      have hm : p ∈ glF 10 x := hpre.subset (by simp)
      exact glF_small 10 x p hm
    generalize xs ++ pre.map gb = ys at *
    have HNEW := Lib.hid hnew
    have HBX := Lib.hid hbx
    clear hnew hpre hbx
    obtain ⟨A', c', rfl⟩ := own_form ho
    have hc := cell_of_one hv
    have hf := free_of_one hv
    have HV := Lib.hid hv
    clear hv
    obtain ⟨g, m⟩ := p
    simp only at hg
    cases m
    · gi_wp2_with (gi_at_builtin; refine wpListIn_append_own _ rfl _ _ 31 rfl base 5 i0 (.int .u8 0) 1 1 Try.underlying31 hi hz0 hz1 hz2 rfl (by decide) _ _ _ rfl (ho.alloc _) ⟨W.heap.size, 0, none⟩ 1 1 [.int .u8 (g : Int)] rfl rfl (cell_one_new _ _ _) (by simp [Value.oneCell']) (by simp [maxLen]; omega) (by omega) (by have := hb.size; simp; omega) ?_; intro v2 w1 hown' hgrow _; obtain ⟨A2, c2, rfl⟩ := own_form hown'; have hv1 := box_after hgrow HV.out (own_ne_block ho HV.out (by decide)); have hc1 := cell_of_one hv1; have hf1 := free_of_one hv1; have HV1 := Lib.hid hv1; clear hv1)
      refine ⟨⟨⟨_, one_setCell HV1.out, ?_⟩, ?_⟩, ?_, ?_⟩
      · rw [HNEW.out]
        have := ownsRow_setCell_other hown' (own_ne_block hown' HV1.out (by decide)) (a := ⟨w.heap.size, 0, none⟩) (.slice A2 (ys.length + 1) c2)
        simpa [gb] using this
      · exact ((hb.alloc (Nat.le_trans hbase hb.size) _).grown hgrow (by have := hb.size; simp; omega) (fun k e => (ho.lt k e).1)).setCell hbase _
      · exact (others_after hgrow (ho.alloc _)).trans (KeepsOthers.setCell _ _ _)
      · exact (Below.heap_setCell w1 ⟨w.heap.size, 0, none⟩ _ (w.heap.size + 1) (by simp)).trans (keeps_after hgrow (lt_of_block HBX.out) (own_ne_block ho HBX.out (by decide)))
    · have ho128 := or128 g hg
      gi_wp2_with (gi_at_builtin; refine wpListIn_append_own _ rfl _ _ 31 rfl base 5 i0 (.int .u8 0) 1 1 Try.underlying31 hi hz0 hz1 hz2 rfl (by decide) _ _ _ rfl (ho.alloc _) ⟨W.heap.size, 0, none⟩ 1 1 [.int .u8 ((g + 128 : Nat) : Int)] rfl rfl (cell_one_new _ _ _) (by simp [Value.oneCell']) (by simp [maxLen]; omega) (by omega) (by have := hb.size; simp; omega) ?_; intro v2 w1 hown' hgrow _; obtain ⟨A2, c2, rfl⟩ := own_form hown'; have hv1 := box_after hgrow HV.out (own_ne_block ho HV.out (by decide)); have hc1 := cell_of_one hv1; have hf1 := free_of_one hv1; have HV1 := Lib.hid hv1; clear hv1)
      refine ⟨⟨⟨_, one_setCell HV1.out, ?_⟩, ?_⟩, ?_, ?_⟩
      · rw [HNEW.out]
        have := ownsRow_setCell_other hown' (own_ne_block hown' HV1.out (by decide)) (a := ⟨w.heap.size, 0, none⟩) (.slice A2 (ys.length + 1) c2)
        simpa [gb] using this
      · exact ((hb.alloc (Nat.le_trans hbase hb.size) _).grown hgrow (by have := hb.size; simp; omega) (fun k e => (ho.lt k e).1)).setCell hbase _
      · exact (others_after hgrow (ho.alloc _)).trans (KeepsOthers.setCell _ _ _)
      · exact (Below.heap_setCell w1 ⟨w.heap.size, 0, none⟩ _ (w.heap.size + 1) (by simp)).trans (keeps_after hgrow (lt_of_block HBX.out) (own_ne_block ho HBX.out (by decide)))
  case done =>
    rintro W ⟨⟨v', hv, ho⟩, hb⟩ hD
    have hc := cell_of_one hv
    gi_wp2
    refine ⟨by simp, .inl ⟨_, _, rfl, run_takeDeferred hD, ?_⟩⟩
    refine ⟨_, results_tmp rfl _ _ _, _, rfl, ?_, ?_⟩
    · have h1 := own_kept (W' := W.putObj ((w.alloc (Obj.cells #[Value.slice A xs.length c] 31)).alloc (Obj.cells #[Value.int IntKind.u64 ↑x] 30)).heap.size (.deferred none)) ho (grownBy_putObj' _ _ _) (fun r e => by cases e; exact ⟨_, hD, rfl⟩)
      rw [glF_gb] at h1
      exact h1
    · exact hb.grown (grownBy_putObj' W _ _) (Nat.le_trans hbase hb.size) (fun k e => by cases e; simp; omega)

theorem put_any (x : Nat) (hx : x < 18446744073709551616) (v : Value) (xs : List Int) (base : Nat) (w : World) (hbase : base ≤ w.heap.size)
    (hown : w.ownsRow base 5 1 v xs.length (xs.map (Value.int .u8))) (hlen : xs.length ≤ 1000000) :
    Calls Try.prog 47 #[v, .int .u64 (x : Int)] w fun e w' => ∃ v', e = .returned v' ∧ w'.ownsRow base 5 1 v' (xs ++ enc x).length ((xs ++ enc x).map (Value.int .u8)) ∧ Below base w w' :=
  callsIn_wide.1 (put_in x hx v xs base w hbase hown hlen)

theorem Write_any (x : Nat) (hx : x < 18446744073709551616) (w : World) :
    Calls Try.prog 22 #[.int .u64 (x : Int)] w fun e w' => ∃ v', e = .returned v' ∧ w'.ownsRow w.heap.size 5 1 v' (enc x).length ((enc x).map (Value.int .u8)) ∧ Below w.heap.size w w' := by
  go_enter Try.func22, Try.ntmps22
  go_wp2_with (go_at_call 47; refine (put_any x hx _ [] w.heap.size _ (Nat.le_refl _) (World.ownsRow_nil _ _ _ _) (by simp)).mono ?_; rintro e w' ⟨v', rfl, hown, hb⟩)
  go_ret
  exact ⟨_, rfl, hown, hb⟩
end Go.Proofs.Ytgngeachgkappaa
