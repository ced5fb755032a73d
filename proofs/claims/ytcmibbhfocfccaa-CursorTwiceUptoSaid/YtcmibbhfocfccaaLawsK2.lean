/- Lists of values and of operations as the rows have them. -/
import Derived.Test.YtcmibbhfocfccaaAx0
import Derived.Test.YtcmibbhfocfccaaCurW10
namespace Go.Proofs.Ytcmibbhfocfccaa.A
open Go.RowKit Go.Proofs.Ytcmibbhfocfccaa.Cur Go.Proofs.YtcmibbhfocfccaaW.PrintWords Go.Proofs.YtcmibbhfocfccaaW.PrintLast Go.Proofs.YtcmibbhfocfccaaW.PrintMore
set_option linter.unusedVariables false
theorem k44_dO {w : World} {A : Option Addr} {l : List S44} (h : Kd.C k44 w A l.length l) : dO.C w A (l.map fun x => (x.f0, x.f1)).length (l.map fun x => (x.f0, x.f1)) := by
  refine ⟨rfl, by simpa using h.2.1, fun hp => ?_⟩
  obtain ⟨ad, hA, hc⟩ := h.2.2 (by simpa using hp)
  refine ⟨ad, hA, fun j p hj => ?_⟩
  rw [List.getElem?_map] at hj
  obtain ⟨x, hx, rfl⟩ := Option.map_eq_some_iff.1 hj
  exact hc j x hx
theorem k66_dV {w : World} {A : Option Addr} {l : List S66} (h : Kd.C k66 w A l.length l) : dV.C w A (l.map fun x => (x.f0, x.f1)).length (l.map fun x => (x.f0, x.f1)) := by
  refine ⟨rfl, by simpa using h.2.1, fun hp => ?_⟩
  obtain ⟨ad, hA, hc⟩ := h.2.2 (by simpa using hp)
  refine ⟨ad, hA, fun j p hj => ?_⟩
  rw [List.getElem?_map] at hj
  obtain ⟨x, hx, rfl⟩ := Option.map_eq_some_iff.1 hj
  exact hc j x hx
/-- What is asked of a list of values, of a list of operations. -/
def VOk (l : List S66) : Prop := l.length ≤ 1048576 ∧ ∀ v ∈ l, 0 ≤ v.f0 ∧ v.f0 ≤ 18446744073709551615 ∧ v.f1.length ≤ 1048576 ∧ CurP.AllB v.f1
def OOk (l : List S44) : Prop := l.length ≤ 1048576 ∧ ∀ o ∈ l, -9223372036854775808 ≤ o.f1 ∧ o.f1 ≤ 9223372036854775807
theorem VOk.all {l : List S66} (h : VOk l) : ∀ v ∈ l.map (fun x => (x.f0, x.f1)), 0 ≤ v.1 ∧ v.1 ≤ 18446744073709551615 ∧ v.2.length ≤ 1048576 ∧ CurP.AllB v.2 := fun v hv => by
  obtain ⟨x, hx, rfl⟩ := List.mem_map.1 hv
  exact h.2 x hx
theorem OOk.all {l : List S44} (h : OOk l) : ∀ o ∈ l.map (fun x => (x.f0, x.f1)), -9223372036854775808 ≤ o.2 ∧ o.2 ≤ 9223372036854775807 := fun o ho => by
  obtain ⟨x, hx, rfl⟩ := List.mem_map.1 ho
  exact h.2 x hx
end Go.Proofs.Ytcmibbhfocfccaa.A
