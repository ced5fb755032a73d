/- HeaderPseudo, plainly. -/
import Derived.Test.YtjidoedlmpjmnaaAxo
import Derived.Test.YtjidoedlmpjmnaaWfP
namespace Go.Proofs.Ytjidoedlmpjmnaa.Pure
open Go.RowKit Go.Proofs.Ytjidoedlmpjmnaa.A Go.Proofs.Ytjidoedlmpjmnaa.WfX Go.Proofs.Ytjidoedlmpjmnaa.Hdr
set_option linter.unusedVariables false
theorem HeaderPseudo : steelyardlaw04_HeaderPseudo.Pure := by
  intro x0 h0
  unfold steelyardlaw04_HeaderPseudo.f
  exact if_pos (pk_ok h0)
end Go.Proofs.Ytjidoedlmpjmnaa.Pure
