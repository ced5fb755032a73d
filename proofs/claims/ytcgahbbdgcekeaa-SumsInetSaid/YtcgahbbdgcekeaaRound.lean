/- The reference's sum going round, at two numbers of 16 bits. -/
import Derived.Test.YtcgahbbdgcekeaaAx0
namespace Go.Proofs.Ytcgahbbdgcekeaa.A
open Go.RowKit Go.Proofs.YtcgahbbdgcekeaaW.PrintWords Go.Proofs.YtcgahbbdgcekeaaW.PrintLast Go.Proofs.YtcgahbbdgcekeaaW.PrintMore
def steelyardref02_round.f (a0 : Int) (a1 : Int) : Option (Int) :=
  if 0 ≤ a0 ∧ a0 ≤ 65535 ∧ 0 ≤ a1 ∧ a1 ≤ 65535 then some (if 65535 < a0 + a1 then a0 + a1 - 65535 else a0 + a1) else none
theorem steelyardref02_round.calls (a0 : Int) (a1 : Int) (r : Int) (w : World) (h : steelyardref02_round.f a0 a1 = some r) :
    Calls Try.prog 25 #[.int .u16 a0, .int .u16 a1] w fun e w' => e = .returned (.int .u16 r) ∧ Drawn0 w w' := by
  unfold steelyardref02_round.f at h
  split at h
  case isFalse => exact absurd h (by simp)
  case isTrue hb =>
    obtain ⟨b0, b1, b2, b3⟩ := hb
    obtain rfl := Option.some.inj h
    clear h
    by_cases c : 65535 < a0 + a1
    · rw [if_pos c]
      go_enter Try.func25, Try.ntmps25
      go_wp2
      go_ret
      exact ⟨rfl, Drawn0.refl _⟩
    · rw [if_neg c]
      go_enter Try.func25, Try.ntmps25
      go_wp2
      go_ret
      exact ⟨rfl, Drawn0.refl _⟩
end Go.Proofs.Ytcgahbbdgcekeaa.A
