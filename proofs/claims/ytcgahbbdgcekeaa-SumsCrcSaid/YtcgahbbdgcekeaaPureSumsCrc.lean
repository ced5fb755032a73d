/- The sum by 32 bits of any bytes, and of more of them behind others, is what the document says. Conditions: none beyond the row's own. -/
import Derived.Test.YtcgahbbdgcekeaaAxo
import Derived.Test.YtcgahbbdgcekeaaLawsC
namespace Go.Proofs.Ytcgahbbdgcekeaa.Pure
open Go.RowKit Go.Proofs.Ytcgahbbdgcekeaa.A Go.Proofs.Ytcgahbbdgcekeaa.Bits Go.Proofs.Ytcgahbbdgcekeaa.SumsP
theorem SumsCrc : steelyardlaw02_SumsCrc.Pure := by
  intro l a hl ha
  have := wf_u32.1 ha
  unfold steelyardlaw02_SumsCrc.f
  rw [if_pos ⟨by omega, fun x hx => wf_u8.1 (hl.2.2 x hx), by omega, by omega⟩]
end Go.Proofs.Ytcgahbbdgcekeaa.Pure
