/- CursorOne, plainly. -/
import Derived.Test.YtcmibbhfocfccaaAxo
import Derived.Test.YtcmibbhfocfccaaBits
namespace Go.Proofs.Ytcmibbhfocfccaa.Pure
open Go.RowKit Go.Proofs.Ytcmibbhfocfccaa.A
set_option linter.unusedVariables false
theorem CursorOne : steelyardlaw01_CursorOne.Pure := by
  intro x0 x1 h0 h1
  have h := Bits.wf_u64.1 h0
  unfold steelyardlaw01_CursorOne.f
  exact if_pos ⟨by omega, Bits.wf_i64.1 h1⟩
end Go.Proofs.Ytcmibbhfocfccaa.Pure
