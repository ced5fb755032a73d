/- What the rows know of a packet. -/
import Derived.Test.YtjidoedlmpjmnaaWfX
import Derived.Test.YtjidoedlmpjmnaaHdrX
namespace Go.Proofs.Ytjidoedlmpjmnaa.WfX
open Go.RowKit Go.Proofs.Ytjidoedlmpjmnaa.A Go.Proofs.Ytjidoedlmpjmnaa.Hdr Go.Proofs.Ytjidoedlmpjmnaa.AddrM
set_option linter.unusedVariables false
theorem pk_ok {x : S27} (h : wf27 x) : OkP (⟨x.f0, ⟨x.f1.f0, [x.f1.f1.f0, x.f1.f1.f1, x.f1.f1.f2, x.f1.f1.f3, x.f1.f1.f4, x.f1.f1.f5, x.f1.f1.f6, x.f1.f1.f7, x.f1.f1.f8, x.f1.f1.f9, x.f1.f1.f10, x.f1.f1.f11, x.f1.f1.f12, x.f1.f1.f13, x.f1.f1.f14, x.f1.f1.f15]⟩, ⟨x.f2.f0, [x.f2.f1.f0, x.f2.f1.f1, x.f2.f1.f2, x.f2.f1.f3, x.f2.f1.f4, x.f2.f1.f5, x.f2.f1.f6, x.f2.f1.f7, x.f2.f1.f8, x.f2.f1.f9, x.f2.f1.f10, x.f2.f1.f11, x.f2.f1.f12, x.f2.f1.f13, x.f2.f1.f14, x.f2.f1.f15]⟩, x.f3, x.f4, x.f5, x.f6, x.f7, x.f8, x.f9, x.f10⟩ : Pk) := by
  obtain ⟨-, h1, h2, h3, h4, h5, h6, -, h8, h9, h10⟩ := h
  exact ⟨⟨rfl, allB23 h1.2⟩, ⟨rfl, allB23 h2.2⟩, int_i64 h3, int_i64 h4, int_i64 h5, int_i64 h6, int_i64 h8, allB_wf h9.2.2, allB_wf h10.2.2, by have := h9.2.1; dsimp only; omega, by have := h10.2.1; dsimp only; omega⟩
end Go.Proofs.Ytjidoedlmpjmnaa.WfX
