/- HashSip, plainly. -/
import Derived.Test.YtjcmcjhfmcabnaaAxo
namespace Go.Proofs.Ytjcmcjhfmcabnaa.Pure
open Go.RowKit Go.Proofs.Ytjcmcjhfmcabnaa.A
set_option linter.unusedVariables false
theorem HashSip : steelyardlaw09_HashSip.Pure := by
  intro a b xs ha hb hx
  have h := hx.2.1
  unfold steelyardlaw09_HashSip.f
  rw [if_pos (by omega)]
end Go.Proofs.Ytjcmcjhfmcabnaa.Pure
