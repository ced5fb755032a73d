-- laid by xprint (this session's program over the kit's print, patched); Lean checks it
import Derived.Test.YtcmibbhfocfccaaAx0
import Derived.Test.YtcmibbhfocfccaaLawsXCursorOne
import Derived.Test.YtcmibbhfocfccaaOpen
import Derived.WalkKit
namespace Go.Proofs.Ytcmibbhfocfccaa.A
open Go.RowKit Go.Proofs.YtcmibbhfocfccaaW.PrintWords Go.Proofs.YtcmibbhfocfccaaW.PrintLast Go.Proofs.YtcmibbhfocfccaaW.PrintMore
attribute [local go_sem] max2_int min2_int max_two min_two max_three min_three max_four min_four   -- for this text's walks alone
set_option linter.unusedVariables false
set_option linter.unusedSimpArgs false

/-- THE ONE PURE STATEMENT of steelyardlaw01_CursorOne. -/
def steelyardlaw01_CursorOne.Pure : Prop := ∀ (x0 : Int) (x1 : Int), (fun x => (Lit.int .u64 x).wf = true) x0 → (fun x => (Lit.int .i64 x).wf = true) x1 → steelyardlaw01_CursorOne.f x0 x1 = some true
end Go.Proofs.Ytcmibbhfocfccaa.A
