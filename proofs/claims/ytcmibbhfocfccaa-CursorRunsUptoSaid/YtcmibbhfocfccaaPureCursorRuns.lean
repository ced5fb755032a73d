/- CursorRuns, plainly. -/
import Derived.Test.YtcmibbhfocfccaaAxo
import Derived.Test.YtcmibbhfocfccaaBits
namespace Go.Proofs.Ytcmibbhfocfccaa.Pure
open Go.RowKit Go.Proofs.Ytcmibbhfocfccaa.A
set_option linter.unusedVariables false
theorem bytes_wf {xs : List Int} (h : ∀ x ∈ xs, (fun x => (Lit.int .u8 x).wf = true) x) : CurP.AllB xs := fun x hx => by have := Bits.wf_u8.1 (h x hx); omega
theorem CursorRuns : steelyardlaw01_CursorRuns.Pure := by
  intro x0 x1 h0 h1 hb
  have b0 := Open.bkL_len (fun _ => 1) (fun _ => Nat.le_refl _) x0
  have b1 := Open.bkL_len bk44 (fun _ => Nat.le_add_left _ _) x1
  dsimp only at hb
  unfold steelyardlaw01_CursorRuns.f
  exact if_pos ⟨bytes_wf h0.2.2, by omega, by omega, fun o ho => Bits.wf_i64.1 (h1.2.2 o ho).2⟩
end Go.Proofs.Ytcmibbhfocfccaa.Pure
