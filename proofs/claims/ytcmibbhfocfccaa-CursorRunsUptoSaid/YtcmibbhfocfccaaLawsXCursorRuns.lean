/- CursorRuns as the row wants it. -/
import Derived.Test.YtcmibbhfocfccaaAx0
import Derived.Test.YtcmibbhfocfccaaLawRuns
namespace Go.Proofs.Ytcmibbhfocfccaa.A
open Go.RowKit Go.Proofs.Ytcmibbhfocfccaa.Cur Go.Proofs.YtcmibbhfocfccaaW.PrintWords Go.Proofs.YtcmibbhfocfccaaW.PrintLast Go.Proofs.YtcmibbhfocfccaaW.PrintMore
set_option linter.unusedVariables false
open Classical in
noncomputable def steelyardlaw01_CursorRuns.f (l0 : List Int) (l1 : List (S44)) : Option (Bool) :=
  if Go.Proofs.Ytcmibbhfocfccaa.CurP.AllB l0 ∧ l0.length ≤ 1048576 ∧ l1.length ≤ 1048576 ∧ (∀ o ∈ l1, -9223372036854775808 ≤ o.f1 ∧ o.f1 ≤ 9223372036854775807) then some true else none
theorem k44_dO {w : World} {A : Option Addr} {l : List S44} (h : Kd.C k44 w A l.length l) : dO.C w A (l.map fun x => (x.f0, x.f1)).length (l.map fun x => (x.f0, x.f1)) := by
  refine ⟨rfl, by simpa using h.2.1, fun hp => ?_⟩
  obtain ⟨ad, hA, hc⟩ := h.2.2 (by simpa using hp)
  refine ⟨ad, hA, fun j p hj => ?_⟩
  rw [List.getElem?_map] at hj
  obtain ⟨x, hx, rfl⟩ := Option.map_eq_some_iff.1 hj
  exact hc j x hx
theorem steelyardlaw01_CursorRuns.calls (A0 : Option Addr) (c0 : Nat) (l0 : List Int) (A1 : Option Addr) (c1 : Nat) (l1 : List (S44)) (r : Bool) (w : World) (hr0 : Kd.C (Kd.int .u8) w A0 l0.length l0) (hc0 : l0.length ≤ c0) (hr1 : Kd.C k44 w A1 l1.length l1) (hc1 : l1.length ≤ c1) (h : steelyardlaw01_CursorRuns.f l0 l1 = some r) :
    Calls Try.prog 3 #[.slice A0 l0.length c0, .slice A1 l1.length c1] w fun e w' => e = .returned (.bool r) ∧ Below w.heap.size w w' := by
  unfold steelyardlaw01_CursorRuns.f at h
  split at h
  case isFalse => cases h
  case isTrue hc =>
    obtain rfl := Option.some.inj h
    obtain ⟨h1, h2, h3, h4⟩ := hc
    have hm := cursorRuns_any A0 c0 l0 A1 c1 (l1.map fun x => (x.f0, x.f1)) w hr0 hc0 (k44_dO hr1) (by simpa using hc1) h1 h2 (by simpa using h3) (fun o ho => by
      obtain ⟨x, hx, rfl⟩ := List.mem_map.1 ho
      exact h4 x hx)
    rw [List.length_map] at hm
    exact hm
end Go.Proofs.Ytcmibbhfocfccaa.A
