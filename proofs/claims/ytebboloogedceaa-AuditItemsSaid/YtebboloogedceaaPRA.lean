-- Written by a program of this session (a turn of the kit's print); Lean checks it.
import Derived.Test.YtebboloogedceaaPA0
namespace Go.Proofs.Ytebboloogedceaa.PA
open Go.RowKit Go.Proofs.YtebboloogedceaaW.PrintWords Go.Proofs.YtebboloogedceaaW.PrintLast Go.Proofs.YtebboloogedceaaW.PrintMore
attribute [local go_sem] max2_int min2_int max_two min_two max_three min_three max_four min_four   -- for this text's walks alone
set_option linter.unusedVariables false
set_option linter.unusedSimpArgs false

theorem info32 : (Try.prog.info? 32).map (fun i => (i.zero, i.size, i.bytes)) = some (some (.slice none 0 0), 1, 24) := by kernel_rfl
theorem k26_heap : Kd.Heap k26 := Kd.heap_iso _ (Kd.heap_pair (Kd.heap_int .i64) (Kd.heap_int .i64))
theorem k29_heap : Kd.Heap k29 := Kd.heap_iso _ (Kd.heap_slice 26 k26_heap)
theorem k39_heap : Kd.Heap k39 := Kd.heap_iso _ (Kd.heap_pair (Kd.heap_int .i64) (Kd.heap_pair (Kd.heap_int .i64) (Kd.heap_int .i64)))
end Go.Proofs.Ytebboloogedceaa.PA
