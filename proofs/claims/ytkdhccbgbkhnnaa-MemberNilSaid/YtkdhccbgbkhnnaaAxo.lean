-- laid by xprint (this session's program over the kit's print, patched); Lean checks it
import Derived.Test.YtkdhccbgbkhnnaaAx0
import Derived.Test.YtkdhccbgbkhnnaaLawsXMemberNil
import Derived.Test.YtkdhccbgbkhnnaaOpen
import Derived.WalkKit
namespace Go.Proofs.Ytkdhccbgbkhnnaa.A
open Go.RowKit Go.Proofs.YtkdhccbgbkhnnaaW.PrintWords Go.Proofs.YtkdhccbgbkhnnaaW.PrintLast Go.Proofs.YtkdhccbgbkhnnaaW.PrintMore
attribute [local go_sem] max2_int min2_int max_two min_two max_three min_three max_four min_four   -- for this text's walks alone
set_option linter.unusedVariables false
set_option linter.unusedSimpArgs false

def wf23 (x : S23) : Prop := (((fun x => (Lit.int .i64 x).wf = true) x.f0) ∧ ((fun x => (Lit.int .i64 x).wf = true) x.f1))
def bk23 (x : S23) : Nat := (((fun _ => 1) x.f0) + ((fun _ => 1) x.f1)) + 1
theorem op23 {H : Type} {enc : TypeId × Value → H} {W : World} : Open.Opens enc Try.prog W 23 k23 wf23 bk23 :=
  Open.opens_iso (wf := _) (bk := _) _ (fun a => (⟨a.1, a.2⟩ : S23)) (fun _ => rfl) (Open.opens_struct Try.underlying23 (by kernel_rfl) (Open.opensL_of (os := [(3, 0), (2, 1)]) (by kernel_rfl) (Open.opensL_cons (Open.opens_int Try.underlying3) (by kernel_rfl) (by rfl) (Open.opensL_one (Open.opens_int Try.underlying2) (by kernel_rfl)))))
/-- THE ONE PURE STATEMENT of steelyardlaw14_MemberNil. -/
def steelyardlaw14_MemberNil.Pure : Prop := ∀ (x0 : Int) (x1 : S23), (fun x => (Lit.int .i64 x).wf = true) x0 → wf23 x1 → steelyardlaw14_MemberNil.f x0 x1.f0 x1.f1 = some true
end Go.Proofs.Ytkdhccbgbkhnnaa.A
