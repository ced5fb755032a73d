-- laid by xprint (this session's program over the kit's print, patched); Lean checks it
import Derived.Test.YtkdhccbgbkhnnaaAx0
import Derived.Test.YtkdhccbgbkhnnaaLawsXMemberBytes
import Derived.Test.YtkdhccbgbkhnnaaOpen
import Derived.WalkKit
namespace Go.Proofs.Ytkdhccbgbkhnnaa.A
open Go.RowKit Go.Proofs.YtkdhccbgbkhnnaaW.PrintWords Go.Proofs.YtkdhccbgbkhnnaaW.PrintLast Go.Proofs.YtkdhccbgbkhnnaaW.PrintMore
attribute [local go_sem] max2_int min2_int max_two min_two max_three min_three max_four min_four   -- for this text's walks alone
set_option linter.unusedVariables false
set_option linter.unusedSimpArgs false

/-- THE ONE PURE STATEMENT of steelyardlaw14_MemberBytes. -/
def steelyardlaw14_MemberBytes.Pure : Prop := ∀ (x0 : List Int), (fun xs => xs.length ≤ 9223372036854775807 ∧ xs.length * 1 ≤ 140737488351232 ∧ ∀ x ∈ xs, (fun x => (Lit.int .u8 x).wf = true) x) x0 → steelyardlaw14_MemberBytes.f x0 = some true
end Go.Proofs.Ytkdhccbgbkhnnaa.A
