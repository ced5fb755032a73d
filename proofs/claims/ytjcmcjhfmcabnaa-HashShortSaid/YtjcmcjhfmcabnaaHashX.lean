/- Sip, Mix, Pair, Port as the print wants them. -/
import Derived.Test.YtjcmcjhfmcabnaaHashW7
namespace Go.Proofs.Ytjcmcjhfmcabnaa.A
open Go.RowKit Go.Proofs.Ytjcmcjhfmcabnaa.Bits Go.Proofs.Ytjcmcjhfmcabnaa.Hash Go.Proofs.YtjcmcjhfmcabnaaW.PrintWords Go.Proofs.YtjcmcjhfmcabnaaW.PrintLast Go.Proofs.YtjcmcjhfmcabnaaW.PrintMore
set_option linter.unusedVariables false
set_option linter.unusedSimpArgs false
def hash_Sip.f (a0 : Int) (a1 : Int) (l2 : List Int) : Option (Int) := some (sip a0 a1 l2)
theorem hash_Sip.calls (a0 : Int) (a1 : Int) (A2 : Option Addr) (c2 : Nat) (l2 : List Int) (r : Int) (w : World) (hr2 : Kd.C (Kd.int .u8) w A2 l2.length l2) (hc2 : l2.length ≤ c2) (h : hash_Sip.f a0 a1 l2 = some r) :
    Calls Try.prog 9 #[.int .u64 a0, .int .u64 a1, .slice A2 l2.length c2] w fun e w' => e = .returned (.int .u64 r) ∧ Below w.heap.size w w' := by
  obtain rfl := Option.some.inj h
  exact Sip_any a0 a1 A2 c2 l2 w hr2 hc2
def steelyardref09_Sip.f (a0 : Int) (a1 : Int) (l2 : List Int) : Option (Int) := some (sip a0 a1 l2)
theorem steelyardref09_Sip.calls (a0 : Int) (a1 : Int) (A2 : Option Addr) (c2 : Nat) (l2 : List Int) (r : Int) (w : World) (hr2 : Kd.C (Kd.int .u8) w A2 l2.length l2) (hc2 : l2.length ≤ c2) (h : steelyardref09_Sip.f a0 a1 l2 = some r) :
    Calls Try.prog 10 #[.int .u64 a0, .int .u64 a1, .slice A2 l2.length c2] w fun e w' => e = .returned (.int .u64 r) ∧ Below w.heap.size w w' := by
  obtain rfl := Option.some.inj h
  exact RefSip_any a0 a1 A2 c2 l2 w hr2 hc2
theorem drawn_of_eq {P : Program} {f : FuncId} {args : Array Value} {w : World} {v : Value} (h : Calls P f args w fun e w' => e = .returned v ∧ w' = w) : Calls P f args w fun e w' => e = .returned v ∧ Drawn0 w w' :=
  h.mono fun e w' q => ⟨q.1, q.2 ▸ Drawn0.refl _⟩
def hash_Mix.f (a0 : Int) : Option (Int) := some (mixN a0)
theorem hash_Mix.calls (a0 : Int) (r : Int) (w : World) (h : hash_Mix.f a0 = some r) :
    Calls Try.prog 13 #[.int .u64 a0] w fun e w' => e = .returned (.int .u64 r) ∧ Drawn0 w w' := by
  obtain rfl := Option.some.inj h
  exact drawn_of_eq (Mix_any a0 w)
def steelyardref09_Mix.f (a0 : Int) : Option (Int) := some (mixN a0)
theorem steelyardref09_Mix.calls (a0 : Int) (r : Int) (w : World) (h : steelyardref09_Mix.f a0 = some r) :
    Calls Try.prog 14 #[.int .u64 a0] w fun e w' => e = .returned (.int .u64 r) ∧ Drawn0 w w' := by
  obtain rfl := Option.some.inj h
  exact drawn_of_eq (RefMix_any a0 w)
def hash_Pair.f (a0 : Int) (a1 : Int) (a2 : Int) : Option (Int) := some (pairN a0 a1 a2)
theorem hash_Pair.calls (a0 : Int) (a1 : Int) (a2 : Int) (r : Int) (w : World) (h : hash_Pair.f a0 a1 a2 = some r) :
    Calls Try.prog 15 #[.int .u64 a0, .int .u64 a1, .int .u64 a2] w fun e w' => e = .returned (.int .u64 r) ∧ Drawn0 w w' := by
  obtain rfl := Option.some.inj h
  exact drawn_of_eq (Pair_any a0 a1 a2 w)
def steelyardref09_Pair.f (a0 : Int) (a1 : Int) (a2 : Int) : Option (Int) := some (pairN a0 a1 a2)
theorem steelyardref09_Pair.calls (a0 : Int) (a1 : Int) (a2 : Int) (r : Int) (w : World) (h : steelyardref09_Pair.f a0 a1 a2 = some r) :
    Calls Try.prog 16 #[.int .u64 a0, .int .u64 a1, .int .u64 a2] w fun e w' => e = .returned (.int .u64 r) ∧ Drawn0 w w' := by
  obtain rfl := Option.some.inj h
  exact drawn_of_eq (RefPair_any a0 a1 a2 w)
end Go.Proofs.Ytjcmcjhfmcabnaa.A
