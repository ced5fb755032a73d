/- Any even number of bytes, with the internet's sum of them behind them, have the sum 0. Conditions: none beyond the row's own. -/
import Derived.Test.YtcgahbbdgcekeaaAx2
import Derived.Test.YtcgahbbdgcekeaaSumsEv
namespace Go.Proofs.Ytcgahbbdgcekeaa.Pure
open Go.RowKit Go.Proofs.Ytcgahbbdgcekeaa.A Go.Proofs.Ytcgahbbdgcekeaa.Bits Go.Proofs.Ytcgahbbdgcekeaa.SumsP Go.Proofs.Ytcgahbbdgcekeaa.SumsEv Go.Proofs.Ytcgahbbdgcekeaa.EvP Go.Proofs.YtcgahbbdgcekeaaW.PrintWords Go.Proofs.YtcgahbbdgcekeaaW.PrintLast

theorem own_zero {W : Int} (h : 0 ≤ W) : fs (W + (65535 - fs W)) = 65535 := by unfold fs; split <;> split <;> omega
theorem known_ev : Ev (fun _ => (steelyardlaw02_known.f).bind fun t => some t) true := Ev.now _
theorem SumsOwn : steelyardlaw02_SumsOwn.Pure := by
  intro l hm hr hw
  have hl : Bytes l := fun x hx => wf_u8.1 (hw x hx)
  have hW := ws_bd l hl true
  refine Ev.rounds ?_
  unfold steelyardlaw02_SumsOwn.f
  by_cases hp : ((l.length : Int) % 2) = 1
  · exact ev_if_pos hp known_ev
  · refine ev_if_neg hp (Ev.bind (inet_ev hl (by omega)) ?_)
    have hn : InetS l = 65535 - fs (ws true l) := by unfold InetS AddS; rw [Int.zero_add]
    have hf := fs_bd (ws true l) hW.1
    have hb : Bytes (l ++ [(InetS l / 256) % 256, InetS l % 256]) := hl.append fun x hx => by
      simp only [List.mem_cons, List.not_mem_nil, or_false] at hx
      rcases hx with rfl | rfl <;> omega
    simp only [Option.bind_some, List.nil_append, List.length_nil, Nat.zero_add]
    refine ev_if_pos (by omega) (ev_if_pos (by simp; omega) (Ev.bind (inet_ev hb (by simp; omega)) (ev_if_pos ?_ known_ev)))
    have e : ws true (l ++ [(InetS l / 256) % 256, InetS l % 256]) = ws true l + (65535 - fs (ws true l)) := by
      rw [ws_append_even l _ true (by omega)]
      simp only [ws]
      omega
    unfold InetS AddS
    unfold InetS AddS at e
    rw [Int.zero_add, Int.zero_add] at *
    rw [e, own_zero hW.1]
    rfl
end Go.Proofs.Ytcgahbbdgcekeaa.Pure
