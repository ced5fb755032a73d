/- CursorCut, plainly. -/
import Derived.Test.YtcmibbhfocfccaaPureK2
namespace Go.Proofs.Ytcmibbhfocfccaa.Pure
open Go.RowKit Go.Proofs.Ytcmibbhfocfccaa.A
set_option linter.unusedVariables false
theorem CursorCut : steelyardlaw01_CursorCut.Pure := by
  intro x0 x1 x2 h0 h1 h2 hb
  dsimp only at hb
  unfold steelyardlaw01_CursorCut.f
  exact if_pos ⟨VOk_of h0.2.2 (by omega), OOk_of h1.2.2 (by omega), Bits.wf_i64.1 h2⟩
end Go.Proofs.Ytcmibbhfocfccaa.Pure
