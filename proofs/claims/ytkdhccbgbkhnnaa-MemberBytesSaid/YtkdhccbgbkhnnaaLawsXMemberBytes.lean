/- MemberBytes as the row wants it. -/
import Derived.Test.YtkdhccbgbkhnnaaAx0
import Derived.Test.YtkdhccbgbkhnnaaLawBytes
namespace Go.Proofs.Ytkdhccbgbkhnnaa.A
open Go.RowKit Go.Proofs.Ytkdhccbgbkhnnaa.Memb Go.Proofs.Ytkdhccbgbkhnnaa.CurP Go.Proofs.YtkdhccbgbkhnnaaW.PrintWords Go.Proofs.YtkdhccbgbkhnnaaW.PrintLast Go.Proofs.YtkdhccbgbkhnnaaW.PrintMore
set_option linter.unusedVariables false
def BOk (l : List Int) : Prop := l.length ≤ 140737488351232 ∧ AllB l
open Classical in
noncomputable def steelyardlaw14_MemberBytes.f (l0 : List Int) : Option (Bool) := if BOk l0 then some true else none
theorem steelyardlaw14_MemberBytes.calls (A0 : Option Addr) (c0 : Nat) (l0 : List Int) (r : Bool) (w : World) (hr0 : Kd.C (Kd.int .u8) w A0 l0.length l0) (hc0 : l0.length ≤ c0) (h : steelyardlaw14_MemberBytes.f l0 = some r) :
    Calls Try.prog 5 #[.slice A0 l0.length c0] w fun e w' => e = .returned (.bool r) ∧ Below w.heap.size w w' := by
  unfold steelyardlaw14_MemberBytes.f at h
  split at h
  case isFalse => cases h
  case isTrue hc =>
    obtain rfl := Option.some.inj h
    exact MemberBytes_any A0 c0 l0 w hr0 hc0 hc.1 hc.2
end Go.Proofs.Ytkdhccbgbkhnnaa.A
