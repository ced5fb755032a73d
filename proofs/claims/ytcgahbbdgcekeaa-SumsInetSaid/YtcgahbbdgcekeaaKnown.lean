/- The fixed calls of layer 2's laws: they answer true. -/
import Derived.Test.YtcgahbbdgcekeaaAx1
import Derived.Test.YtcgahbbdgcekeaaHelp
import Derived.Lib.SmallJoins
namespace Go.Proofs.Ytcgahbbdgcekeaa.A
open Go.RowKit Go.Proofs.YtcgahbbdgcekeaaW.PrintWords Go.Proofs.YtcgahbbdgcekeaaW.PrintLast Go.Proofs.YtcgahbbdgcekeaaW.PrintMore Go.Proofs.Ytcgahbbdgcekeaa.Help
set_option linter.unusedVariables false
def steelyardlaw02_known.f : Option Bool := some true
def ib : List Int := [69, 0, 0, 115, 0, 0, 64, 0, 64, 17, 0, 0, 192, 168, 0, 1, 192, 168, 0, 199]
def cb : List Int := [49, 50, 51, 52, 53, 54, 55, 56, 57]
theorem inet_known : sums_Inet.f 40 ib = some 47201 := by decide +kernel
theorem crc_known : sums_Crc.f 40 cb = some 3421780262 := by decide +kernel
theorem inet_known_calls (w : World) (g : Nat) (cs : Array Value) (hb : w.heap[g]? = some (.cells cs 5 (0, 0))) (hcs : cs = (nums .u8 ib ++ []).toArray) :
    Calls Try.prog 17 #[.slice (some ⟨g, 0, none⟩) 20 20] w fun e w' => e = .returned (.int .u16 47201) ∧ Drawn0 w w' := by
  subst hcs
  have h := sums_Inet.calls 40 (some ⟨g, 0, none⟩) 20 ib 47201 w (C_of_block0 hb (by decide)) (by decide) inet_known
  rw [show ib.length = 20 from rfl] at h
  exact h
theorem crc_known_calls (w : World) (g : Nat) (fr : Nat × Nat) (cs : Array Value) (hb : w.heap[g]? = some (.cells cs 5 fr)) (hcs : cs = (nums .u8 cb ++ []).toArray) :
    Calls Try.prog 10 #[.slice (some ⟨g, 0, none⟩) 9 9] w fun e w' => e = .returned (.int .u32 3421780262) ∧ Drawn0 w w' := by
  subst hcs
  have h := sums_Crc.calls 40 (some ⟨g, 0, none⟩) 9 cb 3421780262 w (C_of_block0 hb (by decide)) (by decide) crc_known
  rw [show cb.length = 9 from rfl] at h
  exact h
set_option maxHeartbeats 800000 in
theorem steelyardlaw02_known.calls (r : Bool) (w : World) (h : steelyardlaw02_known.f = some r) :
    Calls Try.prog 15 #[] w fun e w' => e = .returned (.bool r) ∧ Below w.heap.size w w' := by
  obtain rfl : true = r := Option.some.inj h
  have kc := fun (w : World) (C : Array Value) (n c g : Nat) (hg : g = w.heap.size) => Joins.run_convert_bytes_const_at (P := Try.prog) w 22 5 C n c g hg Try.underlying22 Try.underlying5
  go_enter Try.func15, Try.ntmps15
  go_wp2_with fail
  refine (inet_known_calls _ _ _ (blk_new _ _) (by simp [ib, nums])).mono ?_
  rintro e w1 ⟨rfl, ⟨n1, rfl⟩⟩
  go_wp2_with fail
  refine (crc_known_calls _ _ _ _ (blk_new_at (by simp)) (by simp [cb, nums])).mono ?_
  rintro e w1 ⟨rfl, ⟨n2, rfl⟩⟩
  go_wp2
  go_ret
  exact ⟨rfl, by repeat (first | exact Below.refl _ _ | apply below_alloc | apply pw_below_drewN)⟩
end Go.Proofs.Ytcgahbbdgcekeaa.A
