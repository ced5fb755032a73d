/- Sums of bytes in pieces are those of them all; of words, if the first piece has an even number of bytes. Conditions: the second form's: what comes in is of bulk at most 1048576. -/
import Derived.Test.YtcgahbbdgcekeaaAxo
import Derived.Test.YtcgahbbdgcekeaaSumsEv2
namespace Go.Proofs.Ytcgahbbdgcekeaa.Pure
open Go.RowKit Go.Proofs.Ytcgahbbdgcekeaa.A Go.Proofs.Ytcgahbbdgcekeaa.Bits Go.Proofs.Ytcgahbbdgcekeaa.SumsP Go.Proofs.Ytcgahbbdgcekeaa.SumsEv Go.Proofs.Ytcgahbbdgcekeaa.EvP Go.Proofs.YtcgahbbdgcekeaaW.PrintWords Go.Proofs.YtcgahbbdgcekeaaW.PrintLast
theorem SumsPieces : steelyardlaw02_SumsPieces.Pure := by
  intro a b s ha hb hs hk
  have hs := wf_u16.1 hs
  have hla : Bytes a := fun x hx => wf_u8.1 (ha.2.2 x hx)
  have hlb : Bytes b := fun x hx => wf_u8.1 (hb.2.2 x hx)
  have l1 := Open.bkL_len (fun _ : Int => 1) (fun _ => Nat.le_refl _) a
  have l2 := Open.bkL_len (fun _ : Int => 1) (fun _ => Nat.le_refl _) b
  simp only at hk
  refine Ev.rounds ?_
  unfold steelyardlaw02_SumsPieces.f
  simp only [Option.bind_some, List.nil_append, List.length_nil, Nat.zero_add]
  have hlab := hla.append hlb
  refine ev_if_pos (by omega) (ev_if_pos (by omega) ?_)
  refine Ev.bind (crc_ev hla (by omega)) (Ev.bind (more_ev _ hlb (by omega)) (Ev.bind (crc_ev hlab (by simp; omega)) (ev_if_pos (by rw [MoreS_append]) ?_)))
  by_cases hp : ((a.length : Int) % 2) = 1
  · exact ev_if_pos hp known_ev
  · have hA := AddS_bd hs.1 hla
    refine ev_if_neg hp (Ev.bind (add_ev hs.1 hs.2 hla (by omega)) (Ev.bind (add_ev hA.1 hA.2 hlb (by omega)) (Ev.bind (add_ev hs.1 hs.2 hlab (by simp; omega)) (ev_if_pos (AddS_append hs.1 hla hlb (by omega)) known_ev))))
end Go.Proofs.Ytcgahbbdgcekeaa.Pure
