/- AddrBytes, plainly. -/
import Derived.Test.YtfnpjfcfgilchaaAxo
import Derived.Test.YtfnpjfcfgilchaaWfX
namespace Go.Proofs.Ytfnpjfcfgilchaa.Pure
open Go.RowKit Go.Proofs.Ytfnpjfcfgilchaa.A Go.Proofs.Ytfnpjfcfgilchaa.WfX Go.Proofs.Ytfnpjfcfgilchaa.AddrM
set_option linter.unusedVariables false
theorem AddrBytes : steelyardlaw03_AddrBytes.Pure := by
  intro x0 x1 h0 h1
  unfold steelyardlaw03_AddrBytes.f
  exact if_pos ⟨allB23 h0.1.2, allB23 h0.2.1.2, int_i64 h0.2.2.1, int_i64 h0.2.2.2.1, int_i64 h0.2.2.2.2, ⟨by have := h1.2.1; omega, allB_wf h1.2.2⟩⟩
end Go.Proofs.Ytfnpjfcfgilchaa.Pure
