/- Comparing two things. -/
import Derived.Test.YtgomnifcgaigkaaProg
import Derived.Test.YtgomnifcgaigkaaGv1
import Derived.Laws.StructEq
namespace Go.Proofs.Ytgomnifcgaigkaa
open Go.RowKit Go.Shelf
set_option linter.unusedVariables false

theorem arr2_same (w : World) (d : Nat) (a b : Int) : (Op.equalIn (d + 2) 42 (.agg #[.int .i64 a, .int .i64 b]) (.agg #[.int .i64 a, .int .i64 b])).run Try.prog w = .ok true w := by
  have e1 := Try.underlying42
  have e3 := fun w a b => run_equalIn_int (P := Try.prog) w d 3 .i64 .i64 a b Try.underlying3
  unfold Op.equalIn
  simp [run_underlying e1, go_sem, List.range', isAgg, run_underlying Try.underlying3, e3, sizeOf, show Try.t3.size = 1 from rfl]
theorem thing_same (w : World) (b : Int) (s : ByteArray) (i j : Int) :
    (binOp .neq 44 (.agg #[.int .u8 b, .string s, .int .i64 i, .int .i64 j]) (.agg #[.int .u8 b, .string s, .int .i64 i, .int .i64 j])).run Try.prog w = .ok (.bool false) w := by
  rw [run_neq_struct, run_equalIn_agg _ _ _ _ _ (by kernel_rfl) (by kernel_rfl)]
  have e1 := Try.underlying44
  have e3 := fun w a b => run_equalIn_int (P := Try.prog) w 9998 5 .u8 .u8 a b Try.underlying5
  have e4 := fun w a b => run_equalIn_string (P := Try.prog) w 9998 9 a b Try.underlying9
  have e5 := fun w a b => arr2_same w 9997 a b
  simp [Program.fieldsOf, e1, Op.eqFields, go_sem, e3, e4, e5]
end Go.Proofs.Ytgomnifcgaigkaa
