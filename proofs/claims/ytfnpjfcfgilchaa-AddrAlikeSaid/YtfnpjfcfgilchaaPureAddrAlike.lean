/- AddrAlike, plainly. -/
import Derived.Test.YtfnpjfcfgilchaaAxo
import Derived.Test.YtfnpjfcfgilchaaWfX
namespace Go.Proofs.Ytfnpjfcfgilchaa.Pure
open Go.RowKit Go.Proofs.Ytfnpjfcfgilchaa.A Go.Proofs.Ytfnpjfcfgilchaa.WfX Go.Proofs.Ytfnpjfcfgilchaa.AddrM
set_option linter.unusedVariables false
theorem AddrAlike : steelyardlaw03_AddrAlike.Pure := by
  intro x0 x1 x2 x3 h0 h1 h2 h3
  unfold steelyardlaw03_AddrAlike.f
  exact if_pos ⟨allB23 h0.2, allB23 h1.2, int_i64 h2, int_i64 h3⟩
end Go.Proofs.Ytfnpjfcfgilchaa.Pure
