/- A drawn region: two operations that may come up in either order. -/
import Derived.Test.YtfnpjfcfgilchaaRegionI
namespace Go.Proofs.Ytfnpjfcfgilchaa.RegionI
open Go
set_option linter.unusedVariables false
section
variable {P : Program} {ops : Array Oper} {Q : Exit → Act → World → Prop} {md : Region.Mode} {S : World → Prop} {D : Nat → Bool}
/-- Two may come up. -/
theorem wpAnyI_two {i k : Nat} {o o' : Oper} {fuel : Nat} {listed : Array Bool} {a : Act} {w : World} (hr : Region.ready md ops listed = [i, k]) (ho : ops[i]? = some o) (ho' : ops[k]? = some o')
    (h : ∀ K : Act → World → Prop, (∀ a w, (D i = false → S w) ∧ wpAnyI P md ops Q S D fuel (listed.setIfInBounds i true) a w → K a w) → if Region.wanted o (yielded ops a.tmps) = true then Oper.wp P o a w K Q else K (a.put o.dst undef) w)
    (h' : ∀ K : Act → World → Prop, (∀ a w, (D k = false → S w) ∧ wpAnyI P md ops Q S D fuel (listed.setIfInBounds k true) a w → K a w) → if Region.wanted o' (yielded ops a.tmps) = true then Oper.wp P o' a w K Q else K (a.put o'.dst undef) w) : wpAnyI P md ops Q S D (fuel + 1) listed a w := by
  refine ⟨fun h0 => (by rw [hr] at h0; cases h0), fun j hj => ?_⟩
  rw [hr] at hj
  rcases List.mem_cons.1 hj with rfl | hj
  · exact wpOp_step ho (fun K hK => h K hK)
  · obtain rfl : j = k := by simpa using hj
    exact wpOp_step ho' (fun K hK => h' K hK)
end
end Go.Proofs.Ytfnpjfcfgilchaa.RegionI
