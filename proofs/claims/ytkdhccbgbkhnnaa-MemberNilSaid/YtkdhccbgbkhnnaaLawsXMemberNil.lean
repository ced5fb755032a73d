/- MemberNil as the row wants it. -/
import Derived.Test.YtkdhccbgbkhnnaaAx0
import Derived.Test.YtkdhccbgbkhnnaaLawNil
namespace Go.Proofs.Ytkdhccbgbkhnnaa.A
open Go.RowKit Go.Proofs.Ytkdhccbgbkhnnaa.Memb Go.Proofs.YtkdhccbgbkhnnaaW.PrintWords Go.Proofs.YtkdhccbgbkhnnaaW.PrintLast Go.Proofs.YtkdhccbgbkhnnaaW.PrintMore
set_option linter.unusedVariables false
def steelyardlaw14_MemberNil.f (a0 : Int) (a1_0 : Int) (a1_1 : Int) : Option (Bool) := some true
theorem steelyardlaw14_MemberNil.calls (a0 : Int) (a1_0 : Int) (a1_1 : Int) (r : Bool) (w : World) (h : steelyardlaw14_MemberNil.f a0 a1_0 a1_1 = some r) :
    Calls Try.prog 7 #[.int .i64 a0, .agg #[.int .i64 a1_0, .int .i64 a1_1]] w fun e w' => e = .returned (.bool r) ∧ Below w.heap.size w w' := by
  obtain rfl := Option.some.inj h
  exact MemberNil_any a0 (a1_0, a1_1) w
end Go.Proofs.Ytkdhccbgbkhnnaa.A
