-- laid by xprint (this session's program over the kit's print, patched); Lean checks it
import Derived.Test.YtcgahbbdgcekeaaAx0
import Derived.Test.YtcgahbbdgcekeaaAx2
import Derived.Test.YtcgahbbdgcekeaaAx3
import Derived.Test.YtcgahbbdgcekeaaLawsC
import Derived.Test.YtcgahbbdgcekeaaOpen
import Derived.WalkKit
namespace Go.Proofs.Ytcgahbbdgcekeaa.A
open Go.RowKit Go.Proofs.YtcgahbbdgcekeaaW.PrintWords Go.Proofs.YtcgahbbdgcekeaaW.PrintLast Go.Proofs.YtcgahbbdgcekeaaW.PrintMore
attribute [local go_sem] max2_int min2_int max_two min_two max_three min_three max_four min_four   -- for this text's walks alone
set_option linter.unusedVariables false
set_option linter.unusedSimpArgs false

/-- THE ONE PURE STATEMENT of steelyardlaw02_SumsPieces. -/
def steelyardlaw02_SumsPieces.Pure : Prop := ∀ (x0 : List Int) (x1 : List Int) (x2 : Int), (fun xs => xs.length ≤ 9223372036854775807 ∧ xs.length * 1 ≤ 140737488351232 ∧ ∀ x ∈ xs, (fun x => (Lit.int .u8 x).wf = true) x) x0 → (fun xs => xs.length ≤ 9223372036854775807 ∧ xs.length * 1 ≤ 140737488351232 ∧ ∀ x ∈ xs, (fun x => (Lit.int .u8 x).wf = true) x) x1 → (fun x => (Lit.int .u16 x).wf = true) x2 → (fun xs => Open.bkL (fun _ => 1) xs + 1) x0 + (fun xs => Open.bkL (fun _ => 1) xs + 1) x1 + (fun _ => 1) x2 ≤ 1048576 → ∃ k, steelyardlaw02_SumsPieces.f k x0 x1 x2 = some true
/-- THE ONE PURE STATEMENT of steelyardlaw02_SumsOwn. -/
def steelyardlaw02_SumsOwn.Pure : Prop := ∀ (x0 : List Int), (fun xs => xs.length ≤ 9223372036854775807 ∧ xs.length * 1 ≤ 140737488351232 ∧ ∀ x ∈ xs, (fun x => (Lit.int .u8 x).wf = true) x) x0 → ∃ k, steelyardlaw02_SumsOwn.f k x0 = some true
/-- THE ONE PURE STATEMENT of steelyardlaw02_SumsTurned. -/
def steelyardlaw02_SumsTurned.Pure : Prop := ∀ (x0 : List Int) (x1 : Int) (x2 : Int), (fun xs => xs.length ≤ 9223372036854775807 ∧ xs.length * 1 ≤ 140737488351232 ∧ ∀ x ∈ xs, (fun x => (Lit.int .u8 x).wf = true) x) x0 → (fun x => (Lit.int .i64 x).wf = true) x1 → (fun x => (Lit.int .u32 x).wf = true) x2 → ∃ k, steelyardlaw02_SumsTurned.f k x0 x1 x2 = some true
/-- THE ONE PURE STATEMENT of steelyardlaw02_SumsUpdates. -/
def steelyardlaw02_SumsUpdates.Pure : Prop := ∀ (x0 : List Int) (x1 : Int) (x2 : Int), (fun xs => xs.length ≤ 9223372036854775807 ∧ xs.length * 1 ≤ 140737488351232 ∧ ∀ x ∈ xs, (fun x => (Lit.int .u8 x).wf = true) x) x0 → (fun x => (Lit.int .i64 x).wf = true) x1 → (fun x => (Lit.int .u16 x).wf = true) x2 → ∃ k, steelyardlaw02_SumsUpdates.f k x0 x1 x2 = some true
/-- THE ONE PURE STATEMENT of steelyardlaw02_SumsCrc. -/
def steelyardlaw02_SumsCrc.Pure : Prop := ∀ (x0 : List Int) (x1 : Int), (fun xs => xs.length ≤ 9223372036854775807 ∧ xs.length * 1 ≤ 140737488351232 ∧ ∀ x ∈ xs, (fun x => (Lit.int .u8 x).wf = true) x) x0 → (fun x => (Lit.int .u32 x).wf = true) x1 → steelyardlaw02_SumsCrc.f x0 x1 = some true
/-- THE ONE PURE STATEMENT of steelyardlaw02_SumsInet. -/
def steelyardlaw02_SumsInet.Pure : Prop := ∀ (x0 : List Int) (x1 : Int) (x2 : Int) (x3 : Int), (fun xs => xs.length ≤ 9223372036854775807 ∧ xs.length * 1 ≤ 140737488351232 ∧ ∀ x ∈ xs, (fun x => (Lit.int .u8 x).wf = true) x) x0 → (fun x => (Lit.int .u16 x).wf = true) x1 → (fun x => (Lit.int .u16 x).wf = true) x2 → (fun x => (Lit.int .u16 x).wf = true) x3 → steelyardlaw02_SumsInet.f x0 x1 x2 x3 = some true
end Go.Proofs.Ytcgahbbdgcekeaa.A
