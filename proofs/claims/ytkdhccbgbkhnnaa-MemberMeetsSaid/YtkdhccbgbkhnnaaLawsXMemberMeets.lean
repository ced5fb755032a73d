/- MemberMeets as the row wants it. -/
import Derived.Test.YtkdhccbgbkhnnaaAx0
import Derived.Test.YtkdhccbgbkhnnaaLawMeets
namespace Go.Proofs.Ytkdhccbgbkhnnaa.A
open Go.RowKit Go.Proofs.Ytkdhccbgbkhnnaa.Memb Go.Proofs.YtkdhccbgbkhnnaaW.PrintWords Go.Proofs.YtkdhccbgbkhnnaaW.PrintLast Go.Proofs.YtkdhccbgbkhnnaaW.PrintMore
set_option linter.unusedVariables false
theorem k23_dI {w : World} {A : Option Addr} {l : List S23} (h : Kd.C k23 w A l.length l) : dI.C w A (l.map fun x => (x.f0, x.f1)).length (l.map fun x => (x.f0, x.f1)) := by
  refine ⟨rfl, by simpa using h.2.1, fun hp => ?_⟩
  obtain ⟨ad, hA, hc⟩ := h.2.2 (by simpa using hp)
  refine ⟨ad, hA, fun j p hj => ?_⟩
  rw [List.getElem?_map] at hj
  obtain ⟨x, hx, rfl⟩ := Option.map_eq_some_iff.1 hj
  exact hc j x hx
def MOk (l : List S23) (ts : List Int) : Prop := l.length ≤ 8796093022000 ∧ ts.length ≤ 17592186044000 ∧ ∀ t ∈ ts, -9223372036854775808 ≤ t ∧ t ≤ 9223372036854775807
open Classical in
noncomputable def steelyardlaw14_MemberMeets.f (l0 : List (S23)) (l1 : List Int) : Option (Bool) := if MOk l0 l1 then some true else none
theorem steelyardlaw14_MemberMeets.calls (A0 : Option Addr) (c0 : Nat) (l0 : List (S23)) (A1 : Option Addr) (c1 : Nat) (l1 : List Int) (r : Bool) (w : World) (hr0 : Kd.C k23 w A0 l0.length l0) (hc0 : l0.length ≤ c0) (hr1 : Kd.C (Kd.int .i64) w A1 l1.length l1) (hc1 : l1.length ≤ c1) (h : steelyardlaw14_MemberMeets.f l0 l1 = some r) :
    Calls Try.prog 4 #[.slice A0 l0.length c0, .slice A1 l1.length c1] w fun e w' => e = .returned (.bool r) ∧ Below w.heap.size w w' := by
  unfold steelyardlaw14_MemberMeets.f at h
  split at h
  case isFalse => cases h
  case isTrue hc =>
    obtain rfl := Option.some.inj h
    have h1 := MemberMeets_any A0 c0 (l0.map fun x => (x.f0, x.f1)) A1 c1 l1 w (k23_dI hr0) (by simpa using hc0) hr1 hc1 (by simpa using hc.1) hc.2.1 hc.2.2
    rw [List.length_map] at h1
    exact h1
end Go.Proofs.Ytkdhccbgbkhnnaa.A
