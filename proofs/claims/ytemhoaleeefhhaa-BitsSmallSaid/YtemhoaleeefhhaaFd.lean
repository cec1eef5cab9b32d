/- Walks: the flat functions of quantumkit at nil. Printed by gen_fd.py. -/
import Derived.Test.YtemhoaleeefhhaaProg
import Derived.Test.YtemhoaleeefhhaaQ3
namespace Go.Proofs.Ytemhoaleeefhhaa
open Go.RowKit
set_option linter.unusedVariables false

theorem E_Ints : Elem Try.prog 85 30 (.slice none 0 0) 1 24 := elem_of Try.underlying85 (by kernel_rfl) rfl (by decide)
set_option maxRecDepth 20000 in
set_option maxHeartbeats 800000 in
theorem flatInts_nil (w : World) : Calls Try.prog 72 #[.slice none 0 0] w fun e w' => e = .returned (.bool true) ∧ Below w.heap.size w w' := by
  go_enter Try.func72, Try.ntmps72
  go_wp2
  go_loopw [3] (fun iv wr => iv = .int .i64 0 ∧ Hid (Below w.heap.size w wr)) (fun _ _ => 0)
  case atStart => exact ⟨rfl, Lib.hid (Below.refl _ _)⟩
  case round =>
    obtain ⟨rfl, B2⟩ := hrel
    go_wp2_with (at_make; refine wpList_mk0 E_Ints rfl _ _ rfl 0 _ rfl rfl rfl (by omega) (by simp [maxLen]) ?_; intro w1 h1 h2 h3)
    have B1 := Lib.hid (below_step B2.out h3)
    clear h1 h2 h3 B2
    go_loopw [6] (fun iv wr => iv = .int .i64 0 ∧ Hid (Below w.heap.size w wr)) (fun _ _ => 0)
    case atStart => exact ⟨rfl, B1⟩
    case round =>
      obtain ⟨rfl, B2⟩ := hrel
      go_wp2
      go_loopw [9] (fun iv wr => iv = .int .i64 0 ∧ Hid (Below w.heap.size w wr)) (fun _ _ => 0)
      case atStart => exact ⟨rfl, B2⟩
      case round =>
        obtain ⟨rfl, B2⟩ := hrel
        go_wp2
        go_loopw [11] (fun iv wr => iv = .int .i64 0 ∧ Hid (Below w.heap.size w wr)) (fun _ _ => 0)
        case atStart => exact ⟨rfl, B2⟩
        case round =>
          obtain ⟨rfl, B2⟩ := hrel
          go_wp2
          go_loopw [14] (fun iv wr => iv = .int .i64 0 ∧ Hid (Below w.heap.size w wr)) (fun _ _ => 0)
          case atStart => exact ⟨rfl, B2⟩
          case round =>
            obtain ⟨rfl, B2⟩ := hrel
            go_wp2
            go_ret
            exact ⟨rfl, B2.out⟩

theorem E_Texts : Elem Try.prog 86 103 (.slice none 0 0) 1 24 := elem_of Try.underlying86 (by kernel_rfl) rfl (by decide)
set_option maxRecDepth 20000 in
set_option maxHeartbeats 800000 in
theorem flatTexts_nil (w : World) : Calls Try.prog 73 #[.slice none 0 0] w fun e w' => e = .returned (.bool true) ∧ Below w.heap.size w w' := by
  go_enter Try.func73, Try.ntmps73
  go_wp2
  go_loopw [3] (fun iv wr => iv = .int .i64 0 ∧ Hid (Below w.heap.size w wr)) (fun _ _ => 0)
  case atStart => exact ⟨rfl, Lib.hid (Below.refl _ _)⟩
  case round =>
    obtain ⟨rfl, B2⟩ := hrel
    go_wp2_with (at_make; refine wpList_mk0 E_Texts rfl _ _ rfl 0 _ rfl rfl rfl (by omega) (by simp [maxLen]) ?_; intro w1 h1 h2 h3)
    have B1 := Lib.hid (below_step B2.out h3)
    clear h1 h2 h3 B2
    go_loopw [6] (fun iv wr => iv = .int .i64 0 ∧ Hid (Below w.heap.size w wr)) (fun _ _ => 0)
    case atStart => exact ⟨rfl, B1⟩
    case round =>
      obtain ⟨rfl, B2⟩ := hrel
      go_wp2
      go_loopw [9] (fun iv wr => iv = .int .i64 0 ∧ Hid (Below w.heap.size w wr)) (fun _ _ => 0)
      case atStart => exact ⟨rfl, B2⟩
      case round =>
        obtain ⟨rfl, B2⟩ := hrel
        go_wp2
        go_loopw [11] (fun iv wr => iv = .int .i64 0 ∧ Hid (Below w.heap.size w wr)) (fun _ _ => 0)
        case atStart => exact ⟨rfl, B2⟩
        case round =>
          obtain ⟨rfl, B2⟩ := hrel
          go_wp2
          go_loopw [14] (fun iv wr => iv = .int .i64 0 ∧ Hid (Below w.heap.size w wr)) (fun _ _ => 0)
          case atStart => exact ⟨rfl, B2⟩
          case round =>
            obtain ⟨rfl, B2⟩ := hrel
            go_wp2
            go_ret
            exact ⟨rfl, B2.out⟩

theorem E_Bytes : Elem Try.prog 87 105 (.slice none 0 0) 1 24 := elem_of Try.underlying87 (by kernel_rfl) rfl (by decide)
set_option maxRecDepth 20000 in
set_option maxHeartbeats 800000 in
theorem flatBytes_nil (w : World) : Calls Try.prog 74 #[.slice none 0 0] w fun e w' => e = .returned (.bool true) ∧ Below w.heap.size w w' := by
  go_enter Try.func74, Try.ntmps74
  go_wp2
  go_loopw [3] (fun iv wr => iv = .int .i64 0 ∧ Hid (Below w.heap.size w wr)) (fun _ _ => 0)
  case atStart => exact ⟨rfl, Lib.hid (Below.refl _ _)⟩
  case round =>
    obtain ⟨rfl, B2⟩ := hrel
    go_wp2_with (at_make; refine wpList_mk0 E_Bytes rfl _ _ rfl 0 _ rfl rfl rfl (by omega) (by simp [maxLen]) ?_; intro w1 h1 h2 h3)
    have B1 := Lib.hid (below_step B2.out h3)
    clear h1 h2 h3 B2
    go_loopw [6] (fun iv wr => iv = .int .i64 0 ∧ Hid (Below w.heap.size w wr)) (fun _ _ => 0)
    case atStart => exact ⟨rfl, B1⟩
    case round =>
      obtain ⟨rfl, B2⟩ := hrel
      go_wp2
      go_loopw [9] (fun iv wr => iv = .int .i64 0 ∧ Hid (Below w.heap.size w wr)) (fun _ _ => 0)
      case atStart => exact ⟨rfl, B2⟩
      case round =>
        obtain ⟨rfl, B2⟩ := hrel
        go_wp2
        go_loopw [11] (fun iv wr => iv = .int .i64 0 ∧ Hid (Below w.heap.size w wr)) (fun _ _ => 0)
        case atStart => exact ⟨rfl, B2⟩
        case round =>
          obtain ⟨rfl, B2⟩ := hrel
          go_wp2
          go_loopw [14] (fun iv wr => iv = .int .i64 0 ∧ Hid (Below w.heap.size w wr)) (fun _ _ => 0)
          case atStart => exact ⟨rfl, B2⟩
          case round =>
            obtain ⟨rfl, B2⟩ := hrel
            go_wp2
            go_ret
            exact ⟨rfl, B2.out⟩

theorem E_Words : Elem Try.prog 88 107 (.slice none 0 0) 1 24 := elem_of Try.underlying88 (by kernel_rfl) rfl (by decide)
set_option maxRecDepth 20000 in
set_option maxHeartbeats 800000 in
theorem flatWords_nil (w : World) : Calls Try.prog 75 #[.slice none 0 0] w fun e w' => e = .returned (.bool true) ∧ Below w.heap.size w w' := by
  go_enter Try.func75, Try.ntmps75
  go_wp2
  go_loopw [3] (fun iv wr => iv = .int .i64 0 ∧ Hid (Below w.heap.size w wr)) (fun _ _ => 0)
  case atStart => exact ⟨rfl, Lib.hid (Below.refl _ _)⟩
  case round =>
    obtain ⟨rfl, B2⟩ := hrel
    go_wp2_with (at_make; refine wpList_mk0 E_Words rfl _ _ rfl 0 _ rfl rfl rfl (by omega) (by simp [maxLen]) ?_; intro w1 h1 h2 h3)
    have B1 := Lib.hid (below_step B2.out h3)
    clear h1 h2 h3 B2
    go_loopw [6] (fun iv wr => iv = .int .i64 0 ∧ Hid (Below w.heap.size w wr)) (fun _ _ => 0)
    case atStart => exact ⟨rfl, B1⟩
    case round =>
      obtain ⟨rfl, B2⟩ := hrel
      go_wp2
      go_loopw [9] (fun iv wr => iv = .int .i64 0 ∧ Hid (Below w.heap.size w wr)) (fun _ _ => 0)
      case atStart => exact ⟨rfl, B2⟩
      case round =>
        obtain ⟨rfl, B2⟩ := hrel
        go_wp2
        go_loopw [11] (fun iv wr => iv = .int .i64 0 ∧ Hid (Below w.heap.size w wr)) (fun _ _ => 0)
        case atStart => exact ⟨rfl, B2⟩
        case round =>
          obtain ⟨rfl, B2⟩ := hrel
          go_wp2
          go_loopw [14] (fun iv wr => iv = .int .i64 0 ∧ Hid (Below w.heap.size w wr)) (fun _ _ => 0)
          case atStart => exact ⟨rfl, B2⟩
          case round =>
            obtain ⟨rfl, B2⟩ := hrel
            go_wp2
            go_ret
            exact ⟨rfl, B2.out⟩

theorem E_IntLists : Elem Try.prog 89 85 (.slice none 0 0) 1 24 := elem_of Try.underlying89 (by kernel_rfl) rfl (by decide)
set_option maxRecDepth 20000 in
set_option maxHeartbeats 800000 in
theorem flatIntLists_nil (w : World) : Calls Try.prog 77 #[.slice none 0 0] w fun e w' => e = .returned (.bool true) ∧ Below w.heap.size w w' := by
  go_enter Try.func77, Try.ntmps77
  go_wp2
  go_loopw [3] (fun iv wr => iv = .int .i64 0 ∧ Hid (Below w.heap.size w wr)) (fun _ _ => 0)
  case atStart => exact ⟨rfl, Lib.hid (Below.refl _ _)⟩
  case round =>
    obtain ⟨rfl, B2⟩ := hrel
    go_wp2_with (at_make; refine wpList_mk0 E_IntLists rfl _ _ rfl 0 _ rfl rfl rfl (by omega) (by simp [maxLen]) ?_; intro w1 h1 h2 h3)
    have B1 := Lib.hid (below_step B2.out h3)
    clear h1 h2 h3 B2
    go_loopw [6] (fun iv wr => iv = .int .i64 0 ∧ Hid (Below w.heap.size w wr)) (fun _ _ => 0)
    case atStart => exact ⟨rfl, B1⟩
    case round =>
      obtain ⟨rfl, B2⟩ := hrel
      go_wp2
      go_loopw [9] (fun iv wr => iv = .int .i64 0 ∧ Hid (Below w.heap.size w wr)) (fun _ _ => 0)
      case atStart => exact ⟨rfl, B2⟩
      case round =>
        obtain ⟨rfl, B2⟩ := hrel
        go_wp2
        go_loopw [11] (fun iv wr => iv = .int .i64 0 ∧ Hid (Below w.heap.size w wr)) (fun _ _ => 0)
        case atStart => exact ⟨rfl, B2⟩
        case round =>
          obtain ⟨rfl, B2⟩ := hrel
          go_wp2
          go_loopw [14] (fun iv wr => iv = .int .i64 0 ∧ Hid (Below w.heap.size w wr)) (fun _ _ => 0)
          case atStart => exact ⟨rfl, B2⟩
          case round =>
            obtain ⟨rfl, B2⟩ := hrel
            go_wp2
            go_ret
            exact ⟨rfl, B2.out⟩

theorem E_TextLists : Elem Try.prog 90 86 (.slice none 0 0) 1 24 := elem_of Try.underlying90 (by kernel_rfl) rfl (by decide)
set_option maxRecDepth 20000 in
set_option maxHeartbeats 800000 in
theorem flatTextLists_nil (w : World) : Calls Try.prog 78 #[.slice none 0 0] w fun e w' => e = .returned (.bool true) ∧ Below w.heap.size w w' := by
  go_enter Try.func78, Try.ntmps78
  go_wp2
  go_loopw [3] (fun iv wr => iv = .int .i64 0 ∧ Hid (Below w.heap.size w wr)) (fun _ _ => 0)
  case atStart => exact ⟨rfl, Lib.hid (Below.refl _ _)⟩
  case round =>
    obtain ⟨rfl, B2⟩ := hrel
    go_wp2_with (at_make; refine wpList_mk0 E_TextLists rfl _ _ rfl 0 _ rfl rfl rfl (by omega) (by simp [maxLen]) ?_; intro w1 h1 h2 h3)
    have B1 := Lib.hid (below_step B2.out h3)
    clear h1 h2 h3 B2
    go_loopw [6] (fun iv wr => iv = .int .i64 0 ∧ Hid (Below w.heap.size w wr)) (fun _ _ => 0)
    case atStart => exact ⟨rfl, B1⟩
    case round =>
      obtain ⟨rfl, B2⟩ := hrel
      go_wp2
      go_loopw [9] (fun iv wr => iv = .int .i64 0 ∧ Hid (Below w.heap.size w wr)) (fun _ _ => 0)
      case atStart => exact ⟨rfl, B2⟩
      case round =>
        obtain ⟨rfl, B2⟩ := hrel
        go_wp2
        go_loopw [11] (fun iv wr => iv = .int .i64 0 ∧ Hid (Below w.heap.size w wr)) (fun _ _ => 0)
        case atStart => exact ⟨rfl, B2⟩
        case round =>
          obtain ⟨rfl, B2⟩ := hrel
          go_wp2
          go_loopw [14] (fun iv wr => iv = .int .i64 0 ∧ Hid (Below w.heap.size w wr)) (fun _ _ => 0)
          case atStart => exact ⟨rfl, B2⟩
          case round =>
            obtain ⟨rfl, B2⟩ := hrel
            go_wp2
            go_ret
            exact ⟨rfl, B2.out⟩

theorem E_ByteLists : Elem Try.prog 91 87 (.slice none 0 0) 1 24 := elem_of Try.underlying91 (by kernel_rfl) rfl (by decide)
set_option maxRecDepth 20000 in
set_option maxHeartbeats 800000 in
theorem flatByteLists_nil (w : World) : Calls Try.prog 79 #[.slice none 0 0] w fun e w' => e = .returned (.bool true) ∧ Below w.heap.size w w' := by
  go_enter Try.func79, Try.ntmps79
  go_wp2
  go_loopw [3] (fun iv wr => iv = .int .i64 0 ∧ Hid (Below w.heap.size w wr)) (fun _ _ => 0)
  case atStart => exact ⟨rfl, Lib.hid (Below.refl _ _)⟩
  case round =>
    obtain ⟨rfl, B2⟩ := hrel
    go_wp2_with (at_make; refine wpList_mk0 E_ByteLists rfl _ _ rfl 0 _ rfl rfl rfl (by omega) (by simp [maxLen]) ?_; intro w1 h1 h2 h3)
    have B1 := Lib.hid (below_step B2.out h3)
    clear h1 h2 h3 B2
    go_loopw [6] (fun iv wr => iv = .int .i64 0 ∧ Hid (Below w.heap.size w wr)) (fun _ _ => 0)
    case atStart => exact ⟨rfl, B1⟩
    case round =>
      obtain ⟨rfl, B2⟩ := hrel
      go_wp2
      go_loopw [9] (fun iv wr => iv = .int .i64 0 ∧ Hid (Below w.heap.size w wr)) (fun _ _ => 0)
      case atStart => exact ⟨rfl, B2⟩
      case round =>
        obtain ⟨rfl, B2⟩ := hrel
        go_wp2
        go_loopw [11] (fun iv wr => iv = .int .i64 0 ∧ Hid (Below w.heap.size w wr)) (fun _ _ => 0)
        case atStart => exact ⟨rfl, B2⟩
        case round =>
          obtain ⟨rfl, B2⟩ := hrel
          go_wp2
          go_loopw [14] (fun iv wr => iv = .int .i64 0 ∧ Hid (Below w.heap.size w wr)) (fun _ _ => 0)
          case atStart => exact ⟨rfl, B2⟩
          case round =>
            obtain ⟨rfl, B2⟩ := hrel
            go_wp2
            go_ret
            exact ⟨rfl, B2.out⟩
end Go.Proofs.Ytemhoaleeefhhaa
