/- AddrOf, plainly. -/
import Derived.Test.YtfnpjfcfgilchaaAxo
import Derived.Test.YtfnpjfcfgilchaaWfX
namespace Go.Proofs.Ytfnpjfcfgilchaa.Pure
open Go.RowKit Go.Proofs.Ytfnpjfcfgilchaa.A Go.Proofs.Ytfnpjfcfgilchaa.WfX Go.Proofs.Ytfnpjfcfgilchaa.AddrM
set_option linter.unusedVariables false
theorem AddrOf : steelyardlaw03_AddrOf.Pure := by
  intro x0 x1 h0 h1
  unfold steelyardlaw03_AddrOf.f
  exact if_pos ⟨⟨by have := h0.2.1; omega, allB_wf h0.2.2⟩, allB23 h1.2⟩
end Go.Proofs.Ytfnpjfcfgilchaa.Pure
