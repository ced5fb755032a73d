/- MemberMeets, plainly. -/
import Derived.Test.YtkdhccbgbkhnnaaAxo
import Derived.Test.YtkdhccbgbkhnnaaBits
namespace Go.Proofs.Ytkdhccbgbkhnnaa.Pure
open Go.RowKit Go.Proofs.Ytkdhccbgbkhnnaa.A
set_option linter.unusedVariables false
theorem MemberMeets : steelyardlaw14_MemberMeets.Pure := by
  intro x0 x1 h0 h1
  unfold steelyardlaw14_MemberMeets.f
  exact if_pos ⟨by have := h0.2.1; omega, by have := h1.2.1; omega, fun t ht => Bits.wf_i64.1 (h1.2.2 t ht)⟩
end Go.Proofs.Ytkdhccbgbkhnnaa.Pure
