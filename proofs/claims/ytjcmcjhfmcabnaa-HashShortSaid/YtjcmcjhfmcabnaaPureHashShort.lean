/- HashShort, plainly. -/
import Derived.Test.YtjcmcjhfmcabnaaAxo
namespace Go.Proofs.Ytjcmcjhfmcabnaa.Pure
open Go.RowKit Go.Proofs.Ytjcmcjhfmcabnaa.A
set_option linter.unusedVariables false
theorem HashShort : steelyardlaw09_HashShort.Pure := by
  intro a b xs ha hb hx
  rfl
end Go.Proofs.Ytjcmcjhfmcabnaa.Pure
