-- laid by xprint (this session's program over the kit's print, patched); Lean checks it
import Derived.Test.YtcmibbhfocfccaaAx0
import Derived.Test.YtcmibbhfocfccaaLawsXCursorTwice
import Derived.Test.YtcmibbhfocfccaaOpen
import Derived.WalkKit
namespace Go.Proofs.Ytcmibbhfocfccaa.A
open Go.RowKit Go.Proofs.YtcmibbhfocfccaaW.PrintWords Go.Proofs.YtcmibbhfocfccaaW.PrintLast Go.Proofs.YtcmibbhfocfccaaW.PrintMore
attribute [local go_sem] max2_int min2_int max_two min_two max_three min_three max_four min_four   -- for this text's walks alone
set_option linter.unusedVariables false
set_option linter.unusedSimpArgs false

def wf66 (x : S66) : Prop := (((fun x => (Lit.int .u64 x).wf = true) x.f0) ∧ ((fun xs => xs.length ≤ 9223372036854775807 ∧ xs.length * 1 ≤ 140737488351232 ∧ ∀ x ∈ xs, (fun x => (Lit.int .u8 x).wf = true) x) x.f1))
def bk66 (x : S66) : Nat := (((fun _ => 1) x.f0) + ((fun xs => Open.bkL (fun _ => 1) xs + 1) x.f1)) + 1
theorem op66 {H : Type} {enc : TypeId × Value → H} {W : World} : Open.Opens enc Try.prog W 66 k66 wf66 bk66 :=
  Open.opens_iso (wf := _) (bk := _) _ (fun a => (⟨a.1, a.2⟩ : S66)) (fun _ => rfl) (Open.opens_struct Try.underlying66 (by kernel_rfl) (Open.opensL_of (os := [(38, 0), (22, 1)]) (by kernel_rfl) (Open.opensL_cons (Open.opens_int Try.underlying38) (by kernel_rfl) (by rfl) (Open.opensL_one (Open.opens_slice (B := 1) 0 Try.underlying22 (by kernel_rfl) (by kernel_rfl) (Open.opens_int Try.underlying5)) (by kernel_rfl)))))
def wf44 (x : S44) : Prop := (((fun x => (Lit.int .i64 x).wf = true) x.f0) ∧ ((fun x => (Lit.int .i64 x).wf = true) x.f1))
def bk44 (x : S44) : Nat := (((fun _ => 1) x.f0) + ((fun _ => 1) x.f1)) + 1
theorem op44 {H : Type} {enc : TypeId × Value → H} {W : World} : Open.Opens enc Try.prog W 44 k44 wf44 bk44 :=
  Open.opens_iso (wf := _) (bk := _) _ (fun a => (⟨a.1, a.2⟩ : S44)) (fun _ => rfl) (Open.opens_struct Try.underlying44 (by kernel_rfl) (Open.opensL_of (os := [(3, 0), (3, 1)]) (by kernel_rfl) (Open.opensL_cons (Open.opens_int Try.underlying3) (by kernel_rfl) (by rfl) (Open.opensL_one (Open.opens_int Try.underlying3) (by kernel_rfl)))))
/-- THE ONE PURE STATEMENT of steelyardlaw01_CursorTwice. -/
def steelyardlaw01_CursorTwice.Pure : Prop := ∀ (x0 : List (S66)) (x1 : List (S44)) (x2 : List (S66)) (x3 : List (S44)), (fun xs => xs.length ≤ 9223372036854775807 ∧ xs.length * 32 ≤ 140737488351232 ∧ ∀ x ∈ xs, wf66 x) x0 → (fun xs => xs.length ≤ 9223372036854775807 ∧ xs.length * 16 ≤ 140737488351232 ∧ ∀ x ∈ xs, wf44 x) x1 → (fun xs => xs.length ≤ 9223372036854775807 ∧ xs.length * 32 ≤ 140737488351232 ∧ ∀ x ∈ xs, wf66 x) x2 → (fun xs => xs.length ≤ 9223372036854775807 ∧ xs.length * 16 ≤ 140737488351232 ∧ ∀ x ∈ xs, wf44 x) x3 → (fun xs => Open.bkL bk66 xs + 1) x0 + (fun xs => Open.bkL bk44 xs + 1) x1 + (fun xs => Open.bkL bk66 xs + 1) x2 + (fun xs => Open.bkL bk44 xs + 1) x3 ≤ 1048576 → steelyardlaw01_CursorTwice.f x0 x1 x2 x3 = some true
end Go.Proofs.Ytcmibbhfocfccaa.A
