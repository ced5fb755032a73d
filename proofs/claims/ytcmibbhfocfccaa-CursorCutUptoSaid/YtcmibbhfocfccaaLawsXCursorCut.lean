/- CursorCut as the row wants it. -/
import Derived.Test.YtcmibbhfocfccaaLawsK2
import Derived.Test.YtcmibbhfocfccaaLawCut
namespace Go.Proofs.Ytcmibbhfocfccaa.A
open Go.RowKit Go.Proofs.Ytcmibbhfocfccaa.Cur Go.Proofs.YtcmibbhfocfccaaW.PrintWords Go.Proofs.YtcmibbhfocfccaaW.PrintLast Go.Proofs.YtcmibbhfocfccaaW.PrintMore
set_option linter.unusedVariables false
open Classical in
noncomputable def steelyardlaw01_CursorCut.f (l0 : List (S66)) (l1 : List (S44)) (a2 : Int) : Option (Bool) :=
  if VOk l0 ∧ OOk l1 ∧ (-9223372036854775808 ≤ a2 ∧ a2 ≤ 9223372036854775807) then some true else none
theorem steelyardlaw01_CursorCut.calls (A0 : Option Addr) (c0 : Nat) (l0 : List (S66)) (A1 : Option Addr) (c1 : Nat) (l1 : List (S44)) (a2 : Int) (r : Bool) (w : World) (hr0 : Kd.C k66 w A0 l0.length l0) (hc0 : l0.length ≤ c0) (hr1 : Kd.C k44 w A1 l1.length l1) (hc1 : l1.length ≤ c1) (h : steelyardlaw01_CursorCut.f l0 l1 a2 = some r) :
    Calls Try.prog 5 #[.slice A0 l0.length c0, .slice A1 l1.length c1, .int .i64 a2] w fun e w' => e = .returned (.bool r) ∧ Below w.heap.size w w' := by
  unfold steelyardlaw01_CursorCut.f at h
  split at h
  case isFalse => cases h
  case isTrue hc =>
    obtain rfl := Option.some.inj h
    obtain ⟨h1, h2, h3⟩ := hc
    have hm := cursorCut_any A0 c0 (l0.map fun x => (x.f0, x.f1)) A1 c1 (l1.map fun x => (x.f0, x.f1)) a2 w (k66_dV hr0) (by simpa using hc0) (k44_dO hr1) (by simpa using hc1) (by simpa using h1.1) h1.all (by simpa using h2.1) h2.all h3.1 h3.2
    rw [List.length_map, List.length_map] at hm
    exact hm
end Go.Proofs.Ytcmibbhfocfccaa.A
