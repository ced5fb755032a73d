/- MemberNil, plainly. -/
import Derived.Test.YtkdhccbgbkhnnaaAxo
namespace Go.Proofs.Ytkdhccbgbkhnnaa.Pure
open Go.RowKit Go.Proofs.Ytkdhccbgbkhnnaa.A
set_option linter.unusedVariables false
theorem MemberNil : steelyardlaw14_MemberNil.Pure := fun _ _ _ _ => rfl
end Go.Proofs.Ytkdhccbgbkhnnaa.Pure
