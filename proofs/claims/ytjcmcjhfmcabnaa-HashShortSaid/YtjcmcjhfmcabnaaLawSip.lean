/- HashSip: walked by hand. -/
import Derived.Test.YtjcmcjhfmcabnaaLent
import Derived.Test.YtjcmcjhfmcabnaaHashX
import Derived.Test.YtjcmcjhfmcabnaaKnownP
namespace Go.Proofs.Ytjcmcjhfmcabnaa.A
open Go.RowKit Go.Proofs.Ytjcmcjhfmcabnaa.Bits Go.Proofs.Ytjcmcjhfmcabnaa.Hash Go.Proofs.YtjcmcjhfmcabnaaW.PrintWords Go.Proofs.YtjcmcjhfmcabnaaW.PrintLast Go.Proofs.YtjcmcjhfmcabnaaW.PrintMore Go.Proofs.Ytjcmcjhfmcabnaa.Help
set_option linter.unusedVariables false
set_option linter.unusedSimpArgs false
def steelyardlaw09_HashSip.f (a0 : Int) (a1 : Int) (l2 : List Int) : Option Bool := if l2.length ≤ 140737488351232 then some true else none
set_option maxHeartbeats 2000000 in
theorem steelyardlaw09_HashSip.calls (a0 : Int) (a1 : Int) (A2 : Option Addr) (c2 : Nat) (l2 : List Int) (r : Bool) (w : World) (hr2 : Kd.C (Kd.int .u8) w A2 l2.length l2) (hc2 : l2.length ≤ c2) (h : steelyardlaw09_HashSip.f a0 a1 l2 = some r) :
    Calls Try.prog 3 #[.int .u64 a0, .int .u64 a1, .slice A2 l2.length c2] w fun e w' => e = .returned (.bool r) ∧ Below w.heap.size w w' := by
  unfold steelyardlaw09_HashSip.f at h
  split at h
  case isFalse => cases h
  case isTrue hb =>
  obtain rfl := Option.some.inj h
  have HB := Aside0.mk hb
  have HR := Aside0.mk hr2
  have HC0 := Aside0.mk hc2
  clear hb hr2 hc2 h
  go_enter Try.func3, Try.ntmps3
  go_wp2_with fail
  refine (Lent_calls A2 c2 l2 _ HR.out HB.out).mono ?_
  rintro e w1 ⟨g, rfl, hg, hL, hB⟩
  have HL := Aside0.mk hL
  have HW := Aside0.mk hB
  have HR1 := Aside0.mk (Kd.C_below HR.out hB)
  clear hL hB HR hg
  go_wp2_with fail
  refine (Sip_any a0 a1 (some ⟨g, 0, none⟩) (l2.length + 8) l2 _ (HL.out.reads (by have := HB.out; omega)) (by omega)).mono ?_
  rintro e w2 ⟨rfl, hB⟩
  replace HL := Aside0.mk (HL.out.below hB)
  replace HR1 := Aside0.mk (Kd.C_below HR1.out hB)
  replace HW := Aside0.mk (below_step HW.out hB)
  clear hB
  go_wp2_with fail
  refine (RefSip_any a0 a1 A2 c2 l2 _ HR1.out HC0.out).mono ?_
  rintro e w3 ⟨rfl, hB⟩
  replace HL := Aside0.mk (HL.out.below hB)
  replace HR1 := Aside0.mk (Kd.C_below HR1.out hB)
  replace HW := Aside0.mk (below_step HW.out hB)
  clear hB
  generalize sip a0 a1 l2 = s
  go_wp2_with fail
  refine (Kept_calls g A2 c2 l2 _ HL.out HR1.out HB.out).mono ?_
  rintro e w' ⟨rfl, ⟨n7, rfl⟩⟩
  go_wp2_with fail
  refine (steelyardlaw09_known.calls 17 true _ known_yes).mono ?_
  rintro e w2 ⟨rfl, hB2⟩
  have HW2 := Aside0.mk hB2
  clear hB2
  go_wp2
  go_ret
  exact ⟨rfl, below_step (pw_below_drewN HW.out _) HW2.out⟩
end Go.Proofs.Ytjcmcjhfmcabnaa.A
