/- CursorOne as the row wants it. -/
import Derived.Test.YtcmibbhfocfccaaAx0
import Derived.Test.YtcmibbhfocfccaaLawOne
namespace Go.Proofs.Ytcmibbhfocfccaa.A
open Go.RowKit Go.Proofs.Ytcmibbhfocfccaa.Cur Go.Proofs.YtcmibbhfocfccaaW.PrintWords Go.Proofs.YtcmibbhfocfccaaW.PrintLast Go.Proofs.YtcmibbhfocfccaaW.PrintMore
set_option linter.unusedVariables false
def steelyardlaw01_CursorOne.f (a0 : Int) (a1 : Int) : Option (Bool) :=
  if (0 ≤ a0 ∧ a0 ≤ 18446744073709551615) ∧ (-9223372036854775808 ≤ a1 ∧ a1 ≤ 9223372036854775807) then some true else none
theorem steelyardlaw01_CursorOne.calls (a0 : Int) (a1 : Int) (r : Bool) (w : World) (h : steelyardlaw01_CursorOne.f a0 a1 = some r) :
    Calls Try.prog 7 #[.int .u64 a0, .int .i64 a1] w fun e w' => e = .returned (.bool r) ∧ Below w.heap.size w w' := by
  unfold steelyardlaw01_CursorOne.f at h
  split at h
  case isFalse => cases h
  case isTrue hc =>
    obtain rfl := Option.some.inj h
    exact cursorOne_any a0 a1 w hc.1 hc.2
end Go.Proofs.Ytcmibbhfocfccaa.A
