/- known says yes. -/
import Derived.Test.YtjcmcjhfmcabnaaAx2
namespace Go.Proofs.Ytjcmcjhfmcabnaa.A
open Go.RowKit Go.Proofs.Ytjcmcjhfmcabnaa.Bits Go.Proofs.Ytjcmcjhfmcabnaa.Hash
theorem known_yes : steelyardlaw09_known.f 17 = some true := by decide +kernel
end Go.Proofs.Ytjcmcjhfmcabnaa.A
