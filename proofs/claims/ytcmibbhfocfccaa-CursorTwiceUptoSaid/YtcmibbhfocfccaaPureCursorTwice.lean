/- CursorTwice, plainly. -/
import Derived.Test.YtcmibbhfocfccaaPureK2
namespace Go.Proofs.Ytcmibbhfocfccaa.Pure
open Go.RowKit Go.Proofs.Ytcmibbhfocfccaa.A
set_option linter.unusedVariables false
theorem CursorTwice : steelyardlaw01_CursorTwice.Pure := by
  intro x0 x1 x2 x3 h0 h1 h2 h3 hb
  dsimp only at hb
  unfold steelyardlaw01_CursorTwice.f
  exact if_pos ⟨VOk_of h0.2.2 (by omega), OOk_of h1.2.2 (by omega), VOk_of h2.2.2 (by omega), OOk_of h3.2.2 (by omega)⟩
end Go.Proofs.Ytcmibbhfocfccaa.Pure
