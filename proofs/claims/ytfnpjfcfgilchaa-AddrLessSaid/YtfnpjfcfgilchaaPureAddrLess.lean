/- AddrLess, plainly. -/
import Derived.Test.YtfnpjfcfgilchaaAxo
import Derived.Test.YtfnpjfcfgilchaaWfX
namespace Go.Proofs.Ytfnpjfcfgilchaa.Pure
open Go.RowKit Go.Proofs.Ytfnpjfcfgilchaa.A Go.Proofs.Ytfnpjfcfgilchaa.WfX Go.Proofs.Ytfnpjfcfgilchaa.AddrM
set_option linter.unusedVariables false
theorem AddrLess : steelyardlaw03_AddrLess.Pure := by
  intro x0 x1 x2 h0 h1 h2
  unfold steelyardlaw03_AddrLess.f
  exact if_pos ⟨allB23 h0.2, allB23 h1.2, allB23 h2.2⟩
end Go.Proofs.Ytfnpjfcfgilchaa.Pure
