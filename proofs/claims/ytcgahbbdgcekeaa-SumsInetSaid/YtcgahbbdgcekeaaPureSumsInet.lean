/- The internet's sum of any bytes, the sum of more of them, and its update, are what the document says. Conditions: none beyond the row's own. -/
import Derived.Test.YtcgahbbdgcekeaaAxo
import Derived.Test.YtcgahbbdgcekeaaLawsC
namespace Go.Proofs.Ytcgahbbdgcekeaa.Pure
open Go.RowKit Go.Proofs.Ytcgahbbdgcekeaa.A Go.Proofs.Ytcgahbbdgcekeaa.Bits Go.Proofs.Ytcgahbbdgcekeaa.SumsP
theorem SumsInet : steelyardlaw02_SumsInet.Pure := by
  intro l a b c hl ha hb hc
  have ha := wf_u16.1 ha
  have hb := wf_u16.1 hb
  have hc := wf_u16.1 hc
  unfold steelyardlaw02_SumsInet.f
  rw [if_pos ⟨by omega, fun x hx => wf_u8.1 (hl.2.2 x hx), ha, hb, hc⟩]
end Go.Proofs.Ytcgahbbdgcekeaa.Pure
