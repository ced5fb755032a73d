/- HashFlow, plainly. -/
import Derived.Test.YtjcmcjhfmcabnaaAxo
import Derived.Test.YtjcmcjhfmcabnaaWfX
namespace Go.Proofs.Ytjcmcjhfmcabnaa.Pure
open Go.RowKit Go.Proofs.Ytjcmcjhfmcabnaa.A Go.Proofs.Ytjcmcjhfmcabnaa.WfX Go.Proofs.Ytjcmcjhfmcabnaa.AddrM
set_option linter.unusedVariables false
theorem HashFlow : steelyardlaw09_HashFlow.Pure := by
  intro x0 x1 h0 h1
  unfold steelyardlaw09_HashFlow.f
  exact if_pos ⟨allB23 h0.1.2, allB23 h0.2.1.2, int_i64 h0.2.2.1, int_i64 h0.2.2.2.1, int_i64 h0.2.2.2.2, int_u64 h1⟩
end Go.Proofs.Ytjcmcjhfmcabnaa.Pure
