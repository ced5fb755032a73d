/- More of what the printed functions come to. -/
import Derived.Test.YtcgahbbdgcekeaaAx2
import Derived.Test.YtcgahbbdgcekeaaAx2
import Derived.Test.YtcgahbbdgcekeaaKnown
import Derived.Test.YtcgahbbdgcekeaaSumsEv
import Derived.Test.YtcgahbbdgcekeaaCountP
namespace Go.Proofs.Ytcgahbbdgcekeaa.Pure
open Go.RowKit Go.Proofs.Ytcgahbbdgcekeaa.A Go.Proofs.Ytcgahbbdgcekeaa.Bits Go.Proofs.Ytcgahbbdgcekeaa.SumsP Go.Proofs.Ytcgahbbdgcekeaa.SumsEv Go.Proofs.Ytcgahbbdgcekeaa.EvP Go.Proofs.Ytcgahbbdgcekeaa.CountP Go.Proofs.YtcgahbbdgcekeaaW.PrintWords Go.Proofs.YtcgahbbdgcekeaaW.PrintLast

theorem own_zero {W : Int} (h : 0 ≤ W) : fs (W + (65535 - fs W)) = 65535 := by unfold fs; split <;> split <;> omega
theorem known_ev : Ev (fun _ => (steelyardlaw02_known.f).bind fun t => some t) true := Ev.now _
theorem count_f {k n : Int} (h : 1 ≤ n) (hn : n ≤ 9223372036854775807) : steelyardref01_Count.f k n = some (cnt k n) := by
  unfold steelyardref01_Count.f
  rw [if_neg (by omega), if_neg (by omega), ← tmod_cnt h hn]
  split <;> rfl
theorem update_ev {s was is : Int} (hs0 : 0 ≤ s) (hs : s ≤ 65535) (hw0 : 0 ≤ was) (hw : was ≤ 65535) (hi0 : 0 ≤ is) (hi : is ≤ 65535) :
    Ev (fun k => sums_Update.f k s was is) (65535 - fs ((65535 - s) + (65535 - was) + is)) := by
  unfold sums_Update.f
  rw [not_u16 hs0 hs, not_u16 hw0 hw, wrap_u64_id (n := 65535 - s) (by omega) (by omega), wrap_u64_id (n := 65535 - was) (by omega) (by omega), wrap_u64_id (n := is) (by omega) (by omega), wrap_u64_id (n := 65535 - s + (65535 - was)) (by omega) (by omega), wrap_u64_id (by omega) (by omega)]
  have h := fs_bd ((65535 - s) + (65535 - was) + is) (by omega)
  exact Ev.bind (fold_ev (by omega) (by omega)) (ev_eq (Ev.now _) (not_u16 h.1 h.2))
end Go.Proofs.Ytcgahbbdgcekeaa.Pure
