/- Same, of what is the same. -/
import Derived.Test.YtcmibbhfocfccaaCurW10
namespace Go.Proofs.Ytcmibbhfocfccaa.Cur
open Go.RowKit Go.Proofs.Ytcmibbhfocfccaa.Segs Go.Proofs.Ytcmibbhfocfccaa.Own Go.Proofs.Ytcmibbhfocfccaa.CurP Go.Proofs.Ytcmibbhfocfccaa.Mem Go.Proofs.Ytcmibbhfocfccaa.Bits Go.Proofs.Ytcmibbhfocfccaa.Help Go.Proofs.YtcmibbhfocfccaaW.PrintWords Go.Proofs.YtcmibbhfocfccaaW.PrintLast Go.Proofs.YtcmibbhfocfccaaW.PrintMore
set_option linter.unusedVariables false
set_option linter.unusedSimpArgs false
theorem drawn0_more {w w' : World} (h : Drawn0 w w') (n : Nat) : Drawn0 w (w'.drewN n) := by
  obtain ⟨k, rfl⟩ := h
  exact ⟨k + n, by rw [World.drewN_drewN]⟩
set_option maxHeartbeats 8000000 in
theorem same_any (w : World) (A A1 : Option Addr) (c c1 : Nat) (l : List (Int × List Int)) (hr : dV.C w A l.length l) (hr1 : dV.C w A1 l.length l) :
    Calls Try.prog 12 #[.slice A l.length c, .slice A1 l.length c1] w fun e w' => e = .returned (.bool true) ∧ Drawn0 w w' := by
  have HR := Aside0.mk (And.intro hr hr1)
  have hmax := Kd.C_max hr
  clear hr hr1
  go_enter Try.func12, Try.ntmps12
  go_wp2_with fail
  go_loopg [5] l.length (fun kq v5 w' => ∃ i : Nat, Aside0 (kq + i = l.length) ∧ v5 = .int .i64 (i : Int) ∧ Aside0 (Drawn0 w w'))
  case atStart => exact ⟨0, ⟨by simp⟩, rfl, ⟨Drawn0.refl _⟩⟩
  case round =>
    obtain ⟨i, HK, rfl, HW⟩ := hrel
    cases gk with
    | zero =>
      have hi : i = l.length := by have := HK.out; omega
      subst hi
      go_wp2_with fail
      go_ret
      exact ⟨rfl, HW.out⟩
    | succ kq =>
      have hi : i < l.length := by have := HK.out; omega
      have hi2 : ((i : Nat) : Int) < ((l.length : Nat) : Int) := by omega
      obtain ⟨ad, B, bc, rfl, hc0, hc1, hbc, hbr⟩ := val_cells (Kd.C_below HR.out.1 HW.out.below) i hi
      obtain ⟨ad1, B1, bc1, rfl, hd0, hd1, hbc1, hbr1⟩ := val_cells (Kd.C_below HR.out.2 HW.out.below) i hi
      have k0 := fun n => Kd.C_string (P := Try.prog) Try.underlying22 Try.underlying5 Try.underlying9 (c := bc) (Kd.C_drewN hbr n)
      have k1 := fun n => Kd.C_string (P := Try.prog) Try.underlying22 Try.underlying5 Try.underlying9 (c := bc1) (Kd.C_drewN hbr1 n)
      clear hbc hbc1 hbr hbr1
      generalize strOfNums l[i].2 = str at *
      generalize l[i].2.length = sl at *
      generalize l[i].1 = k at *
      go_wp2_with fail
      go_quiet (fail)
      go_wp2_with fail
      go_roundg kq
      case measure => omega
      case rel => exact ⟨i + 1, ⟨by have := HK.out; omega⟩, rfl, ⟨drawn0_more HW.out nq⟩⟩
end Go.Proofs.Ytcmibbhfocfccaa.Cur
