/- What is known of types: zero values, cells, bytes; printed by program (wip/tools/mk.py). -/
import Derived.Test.YtgjnaocffdhnbaaGreatRows
import Derived.Test.YtgjnaocffdhnbaaGreatA
namespace Go.Proofs.YtgjnaocffdhnbaaGreat
set_option linter.unusedVariables false
set_option linter.unusedSimpArgs false
open Go.RowKit
set_option maxRecDepth 100000
set_option maxHeartbeats 4000000

theorem ti2 : TI Tryz.prog 2 (.int .i64 0) 1 8 := by unfold TI; kernel_rfl
theorem ti3 : TI Tryz.prog 3 (.int .i64 0) 1 8 := by unfold TI; kernel_rfl
theorem ti4 : TI Tryz.prog 4 (.bool false) 1 1 := by unfold TI; kernel_rfl
theorem ti22 : TI Tryz.prog 22 (.slice none 0 0) 1 24 := by unfold TI; kernel_rfl
theorem ti27 : TI Tryz.prog 27 (.slice none 0 0) 1 24 := by unfold TI; kernel_rfl
theorem ti36 : TI Tryz.prog 36 (.agg #[.int .i64 0, .slice none 0 0, .slice none 0 0]) 3 56 := by unfold TI; kernel_rfl
theorem ti38 : TI Tryz.prog 38 (.agg #[.slice none 0 0, .slice none 0 0, .slice none 0 0]) 3 72 := by unfold TI; kernel_rfl
theorem ti111 : TI Tryz.prog 111 (.agg #[.int .i64 0, .int .i64 0, .slice none 0 0, .slice none 0 0, .slice none 0 0, .slice none 0 0, .slice none 0 0, .slice none 0 0, .bool false]) 9 168 := by unfold TI; kernel_rfl
theorem ti118 : TI Tryz.prog 118 (.slice none 0 0) 1 24 := by unfold TI; kernel_rfl
theorem ti121 : TI Tryz.prog 121 (.agg #[.int .i64 0, .int .i64 0, .slice none 0 0, .slice none 0 0, .slice none 0 0, .slice none 0 0, .slice none 0 0, .slice none 0 0, .bool false]) 9 168 := by unfold TI; kernel_rfl
theorem ti129 : TI Tryz.prog 129 (.agg #[.slice none 0 0, .slice none 0 0]) 2 48 := by unfold TI; kernel_rfl
theorem ti159 : TI Tryz.prog 159 (.agg #[.int .i64 0, .int .i64 0, .int .i64 0, .int .i64 0, .int .i64 0, .int .i64 0]) 6 48 := by unfold TI; kernel_rfl
theorem ti164 : TI Tryz.prog 164 (.agg #[.int .i64 0, .slice none 0 0]) 2 32 := by unfold TI; kernel_rfl
theorem ti166 : TI Tryz.prog 166 (.agg #[.int .i64 0, .int .i64 0, .int .i64 0, .int .i64 0, .int .i64 0, .int .i64 0]) 6 48 := by unfold TI; kernel_rfl
theorem ti190 : TI Tryz.prog 190 (.agg #[.int .i64 0, .slice none 0 0]) 2 32 := by unfold TI; kernel_rfl
theorem ti219 : TI Tryz.prog 219 (.pointer none) 1 8 := by unfold TI; kernel_rfl
theorem ti222 : TI Tryz.prog 222 (.nilFunc) 1 8 := by unfold TI; kernel_rfl
end Go.Proofs.YtgjnaocffdhnbaaGreat
