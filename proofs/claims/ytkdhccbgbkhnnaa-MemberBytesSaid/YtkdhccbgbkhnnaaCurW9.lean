/- The law's own lists: ops. -/
import Derived.Test.YtkdhccbgbkhnnaaRunA
namespace Go.Proofs.Ytkdhccbgbkhnnaa.Cur
open Go.RowKit Go.Proofs.Ytkdhccbgbkhnnaa.Segs Go.Proofs.Ytkdhccbgbkhnnaa.Own Go.Proofs.Ytkdhccbgbkhnnaa.CurP Go.Proofs.Ytkdhccbgbkhnnaa.Mem Go.Proofs.Ytkdhccbgbkhnnaa.Bits Go.Proofs.Ytkdhccbgbkhnnaa.Help Go.Proofs.YtkdhccbgbkhnnaaW.PrintWords Go.Proofs.YtkdhccbgbkhnnaaW.PrintLast Go.Proofs.YtkdhccbgbkhnnaaW.PrintMore
set_option linter.unusedVariables false
set_option linter.unusedSimpArgs false
theorem dPast15 (j : Nat) (hj : 15 ≤ j) : (j == 13 || j == 14) = false := by simp; omega
theorem info_op : (Try.prog.info? 94).map (fun i => (i.zero, i.size, i.bytes)) = some (some (.agg #[.int .i64 0, .int .i64 0]), dO.sz, 16) := by kernel_rfl
end Go.Proofs.Ytkdhccbgbkhnnaa.Cur
