/- CursorTwice as the row wants it. -/
import Derived.Test.YtcmibbhfocfccaaLawsK2
import Derived.Test.YtcmibbhfocfccaaLawTwice
namespace Go.Proofs.Ytcmibbhfocfccaa.A
open Go.RowKit Go.Proofs.Ytcmibbhfocfccaa.Cur Go.Proofs.YtcmibbhfocfccaaW.PrintWords Go.Proofs.YtcmibbhfocfccaaW.PrintLast Go.Proofs.YtcmibbhfocfccaaW.PrintMore
set_option linter.unusedVariables false
open Classical in
noncomputable def steelyardlaw01_CursorTwice.f (l0 : List (S66)) (l1 : List (S44)) (l2 : List (S66)) (l3 : List (S44)) : Option (Bool) :=
  if VOk l0 ∧ OOk l1 ∧ VOk l2 ∧ OOk l3 then some true else none
theorem steelyardlaw01_CursorTwice.calls (A0 : Option Addr) (c0 : Nat) (l0 : List (S66)) (A1 : Option Addr) (c1 : Nat) (l1 : List (S44)) (A2 : Option Addr) (c2 : Nat) (l2 : List (S66)) (A3 : Option Addr) (c3 : Nat) (l3 : List (S44)) (r : Bool) (w : World) (hr0 : Kd.C k66 w A0 l0.length l0) (hc0 : l0.length ≤ c0) (hr1 : Kd.C k44 w A1 l1.length l1) (hc1 : l1.length ≤ c1) (hr2 : Kd.C k66 w A2 l2.length l2) (hc2 : l2.length ≤ c2) (hr3 : Kd.C k44 w A3 l3.length l3) (hc3 : l3.length ≤ c3) (h : steelyardlaw01_CursorTwice.f l0 l1 l2 l3 = some r) :
    Calls Try.prog 6 #[.slice A0 l0.length c0, .slice A1 l1.length c1, .slice A2 l2.length c2, .slice A3 l3.length c3] w fun e w' => e = .returned (.bool r) ∧ Below w.heap.size w w' := by
  unfold steelyardlaw01_CursorTwice.f at h
  split at h
  case isFalse => cases h
  case isTrue hc =>
    obtain rfl := Option.some.inj h
    obtain ⟨h1, h2, h3, h4⟩ := hc
    have hm := cursorTwice_any A0 c0 (l0.map fun x => (x.f0, x.f1)) A1 c1 (l1.map fun x => (x.f0, x.f1)) A2 c2 (l2.map fun x => (x.f0, x.f1)) A3 c3 (l3.map fun x => (x.f0, x.f1)) w (k66_dV hr0) (by simpa using hc0) (k44_dO hr1) (by simpa using hc1) (k66_dV hr2) (by simpa using hc2) (k44_dO hr3) (by simpa using hc3)
      (by simpa using h1.1) h1.all (by simpa using h2.1) h2.all (by simpa using h3.1) h3.all (by simpa using h4.1) h4.all
    rw [List.length_map, List.length_map, List.length_map, List.length_map] at hm
    exact hm
end Go.Proofs.Ytcmibbhfocfccaa.A
