/- MemberBytes, plainly. -/
import Derived.Test.YtkdhccbgbkhnnaaAxo
import Derived.Test.YtkdhccbgbkhnnaaBits
namespace Go.Proofs.Ytkdhccbgbkhnnaa.Pure
open Go.RowKit Go.Proofs.Ytkdhccbgbkhnnaa.A
set_option linter.unusedVariables false
theorem MemberBytes : steelyardlaw14_MemberBytes.Pure := by
  intro x0 h0
  unfold steelyardlaw14_MemberBytes.f
  exact if_pos ⟨by have := h0.2.1; omega, fun x hx => by have := Bits.wf_u8.1 (h0.2.2 x hx); omega⟩
end Go.Proofs.Ytkdhccbgbkhnnaa.Pure
