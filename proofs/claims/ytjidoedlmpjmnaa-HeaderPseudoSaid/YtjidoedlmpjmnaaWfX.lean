/- What the rows know of their numbers, as bounds. -/
import Derived.Test.YtjidoedlmpjmnaaAxo
import Derived.Test.YtjidoedlmpjmnaaAddrL
import Derived.Test.YtjidoedlmpjmnaaBits
namespace Go.Proofs.Ytjidoedlmpjmnaa.WfX
open Go.RowKit Go.Proofs.Ytjidoedlmpjmnaa.A Go.Proofs.Ytjidoedlmpjmnaa.AddrM
set_option linter.unusedVariables false
theorem int_i64 {x : Int} (h : (Lit.int .i64 x).wf = true) : -9223372036854775808 ≤ x ∧ x ≤ 9223372036854775807 := Bits.wf_i64.1 h
theorem int_u64 {x : Int} (h : (Lit.int .u64 x).wf = true) : 0 ≤ x ∧ x ≤ 18446744073709551615 := Bits.wf_u64.1 h
theorem int_u8 {x : Int} (h : (Lit.int .u8 x).wf = true) : 0 ≤ x ∧ x ≤ 255 := Bits.wf_u8.1 h
theorem byte {x : Int} (h : (Lit.int .u8 x).wf = true) : 0 ≤ x ∧ x < 256 := by have := int_u8 h; omega
theorem allB_wf {xs : List Int} (h : ∀ x ∈ xs, (fun x => (Lit.int .u8 x).wf = true) x) : AllB xs := fun x hx => byte (h x hx)
theorem allB23 {x : S22} (h : wf22 x) : AllB [x.f0, x.f1, x.f2, x.f3, x.f4, x.f5, x.f6, x.f7, x.f8, x.f9, x.f10, x.f11, x.f12, x.f13, x.f14, x.f15] := by
  obtain ⟨h0, h1, h2, h3, h4, h5, h6, h7, h8, h9, h10, h11, h12, h13, h14, h15⟩ := h
  intro y hy
  simp only [List.mem_cons, List.not_mem_nil, or_false] at hy
  rcases hy with rfl | rfl | rfl | rfl | rfl | rfl | rfl | rfl | rfl | rfl | rfl | rfl | rfl | rfl | rfl | rfl <;> exact byte ‹_›
end Go.Proofs.Ytjidoedlmpjmnaa.WfX
