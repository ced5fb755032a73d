-- laid by xprint (this session's program over the kit's print, patched); Lean checks it
import Derived.Test.YtjcmcjhfmcabnaaAx0
import Derived.Test.YtjcmcjhfmcabnaaAx2
import Derived.Test.YtjcmcjhfmcabnaaLawShort
import Derived.Test.YtjcmcjhfmcabnaaLawSip
import Derived.Test.YtjcmcjhfmcabnaaOpen
import Derived.WalkKit
namespace Go.Proofs.Ytjcmcjhfmcabnaa.A
open Go.RowKit Go.Proofs.YtjcmcjhfmcabnaaW.PrintWords Go.Proofs.YtjcmcjhfmcabnaaW.PrintLast Go.Proofs.YtjcmcjhfmcabnaaW.PrintMore
attribute [local go_sem] max2_int min2_int max_two min_two max_three min_three max_four min_four   -- for this text's walks alone
set_option linter.unusedVariables false
set_option linter.unusedSimpArgs false

/-- THE ONE PURE STATEMENT of steelyardlaw09_HashMix. -/
def steelyardlaw09_HashMix.Pure : Prop := ∀ (x0 : Int) (x1 : Int) (x2 : Int) (x3 : Int), (fun x => (Lit.int .u64 x).wf = true) x0 → (fun x => (Lit.int .u64 x).wf = true) x1 → (fun x => (Lit.int .u64 x).wf = true) x2 → (fun x => (Lit.int .u64 x).wf = true) x3 → ∃ k, steelyardlaw09_HashMix.f k x0 x1 x2 x3 = some true
/-- THE ONE PURE STATEMENT of steelyardlaw09_HashApart. -/
def steelyardlaw09_HashApart.Pure : Prop := ∀ (x0 : Int) (x1 : Int) (x2 : Int) (x3 : Int), (fun x => (Lit.int .u64 x).wf = true) x0 → (fun x => (Lit.int .u64 x).wf = true) x1 → (fun x => (Lit.int .u64 x).wf = true) x2 → (fun x => (Lit.int .u64 x).wf = true) x3 → ∃ k, steelyardlaw09_HashApart.f k x0 x1 x2 x3 = some true
/-- THE ONE PURE STATEMENT of steelyardlaw09_HashSip. -/
def steelyardlaw09_HashSip.Pure : Prop := ∀ (x0 : Int) (x1 : Int) (x2 : List Int), (fun x => (Lit.int .u64 x).wf = true) x0 → (fun x => (Lit.int .u64 x).wf = true) x1 → (fun xs => xs.length ≤ 9223372036854775807 ∧ xs.length * 1 ≤ 140737488351232 ∧ ∀ x ∈ xs, (fun x => (Lit.int .u8 x).wf = true) x) x2 → steelyardlaw09_HashSip.f x0 x1 x2 = some true
/-- THE ONE PURE STATEMENT of steelyardlaw09_HashShort. -/
def steelyardlaw09_HashShort.Pure : Prop := ∀ (x0 : Int) (x1 : Int) (x2 : List Int), (fun x => (Lit.int .u64 x).wf = true) x0 → (fun x => (Lit.int .u64 x).wf = true) x1 → (fun xs => xs.length ≤ 9223372036854775807 ∧ xs.length * 1 ≤ 140737488351232 ∧ ∀ x ∈ xs, (fun x => (Lit.int .u8 x).wf = true) x) x2 → steelyardlaw09_HashShort.f x0 x1 x2 = some true
end Go.Proofs.Ytjcmcjhfmcabnaa.A
