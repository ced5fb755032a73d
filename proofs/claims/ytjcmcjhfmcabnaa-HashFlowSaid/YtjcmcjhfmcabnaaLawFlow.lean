/- HashFlow: walked by hand. -/
import Derived.Test.YtjcmcjhfmcabnaaHashW7
import Derived.Test.YtjcmcjhfmcabnaaTupB
namespace Go.Proofs.Ytjcmcjhfmcabnaa.AddrW
open Go.RowKit Go.Proofs.Ytjcmcjhfmcabnaa.Hash Go.Proofs.Ytjcmcjhfmcabnaa.Cur Go.Proofs.Ytjcmcjhfmcabnaa.Own Go.Proofs.Ytjcmcjhfmcabnaa.Segs Go.Proofs.Ytjcmcjhfmcabnaa.Mem Go.Proofs.Ytjcmcjhfmcabnaa.AddrM Go.Proofs.Ytjcmcjhfmcabnaa.Bits Go.Proofs.Ytjcmcjhfmcabnaa.Help Go.Proofs.YtjcmcjhfmcabnaaW.PrintWords Go.Proofs.YtjcmcjhfmcabnaaW.PrintLast Go.Proofs.YtjcmcjhfmcabnaaW.PrintMore
set_option linter.unusedVariables false
set_option linter.unusedSimpArgs false
def flowN (t : Tu) : Int := if rtB t then Hash.sip 1 2 (tupB t) else 0
theorem flow_no {t : Tu} (h : rtB t = false) : flowN t = 0 := by unfold flowN; rw [h]; exact if_neg (by decide)
theorem flow_yes {t : Tu} (h : rtB t = true) : flowN t = Hash.sip 1 2 (putB t) := by unfold flowN putB; rw [h, if_pos rfl, if_pos rfl]
theorem putE_no {t : Tu} (h : rtB t = false) : putE t = 1 := by unfold putE; rw [h]; exact if_neg (by decide)
theorem putE_yes {t : Tu} (h : rtB t = true) : putE t = 0 := by unfold putE; rw [h, if_pos rfl]
set_option maxHeartbeats 4000000 in
theorem Flow_any (t : Tu) (w : World) (h : OkT t) : Calls Try.prog 17 #[.agg (flat (tseg t))] w fun e w' => e = .returned (.tuple #[.int .u64 (flowN t), .int .i64 (putE t)]) ∧ Below w.heap.size w w' := by
  have HM := Aside0.mk ((Mem.nil w).new (.cells (flat (tseg t)) 36))
  simp only [List.nil_append] at HM
  have H := Aside0.mk h
  have HPUT := Aside0.mk (fun W => PutTuple_any t W h)
  clear h
  go_enter Try.func17, Try.ntmps17
  go_wp2_with ((with_reducible refine gate_dst (N := 7) rfl ?_); refine Kd.event_run rfl (exec_load rfl rfl (load_tup H.out (HM.out.get 0 rfl))) ?_)
  refine (HPUT.out _).mono ?_
  rintro e w1 ⟨v, rfl, hO, hB⟩
  have HB := Aside0.mk (below_step HM.out.b hB)
  obtain ⟨va, vc, rfl, hvc, hrd⟩ := hO.reads hO.len63
  have HO := Aside0.mk (And.intro hrd hvc)
  clear HPUT HM hO hB hrd hvc
  cases hr : rtB t with
  | false =>
    have HF := Aside0.mk (flow_no hr)
    have HE := Aside0.mk (putE_no hr)
    rw [HE.out]
    generalize (putB t).length = n at *
    clear HO hr
    go_wp2_with fail
    go_ret2
    exact ⟨by rw [HF.out, HE.out]; rfl, HB.out⟩
  | true =>
    have HF := Aside0.mk (flow_yes hr)
    have HE := Aside0.mk (putE_yes hr)
    rw [HE.out]
    generalize putB t = xs at *
    clear hr
    go_wp2_with fail
    refine (Sip_any 1 2 va vc xs _ HO.out.1 HO.out.2).mono ?_
    rintro e w2 ⟨rfl, hB⟩
    replace HB := Aside0.mk (below_step HB.out hB)
    clear hB HO
    generalize Hash.sip 1 2 xs = s at *
    go_wp2_with fail
    go_ret2
    exact ⟨by rw [HF.out, HE.out]; rfl, HB.out⟩
set_option maxHeartbeats 4000000 in
theorem refFlow_any (t : Tu) (w : World) (h : OkT t) : Calls Try.prog 18 #[.agg (flat (tseg t))] w fun e w' => e = .returned (.tuple #[.int .u64 (flowN t), .int .i64 (putE t)]) ∧ Below w.heap.size w w' := by
  have HM := Aside0.mk ((Mem.nil w).new (.cells (flat (tseg t)) 36))
  simp only [List.nil_append] at HM
  have H := Aside0.mk h
  have HPUT := Aside0.mk (fun W => refPutTuple_any t W h)
  clear h
  go_enter Try.func18, Try.ntmps18
  go_wp2_with ((with_reducible refine gate_dst (N := 7) rfl ?_); refine Kd.event_run rfl (exec_load rfl rfl (load_tup H.out (HM.out.get 0 rfl))) ?_)
  refine (HPUT.out _).mono ?_
  rintro e w1 ⟨v, rfl, hO, hB⟩
  have HB := Aside0.mk (below_step HM.out.b hB)
  obtain ⟨va, vc, rfl, hvc, hrd⟩ := hO.reads hO.len63
  have HO := Aside0.mk (And.intro hrd hvc)
  clear HPUT HM hO hB hrd hvc
  cases hr : rtB t with
  | false =>
    have HF := Aside0.mk (flow_no hr)
    have HE := Aside0.mk (putE_no hr)
    rw [HE.out]
    generalize (putB t).length = n at *
    clear HO hr
    go_wp2_with fail
    go_ret2
    exact ⟨by rw [HF.out, HE.out]; rfl, HB.out⟩
  | true =>
    have HF := Aside0.mk (flow_yes hr)
    have HE := Aside0.mk (putE_yes hr)
    rw [HE.out]
    generalize putB t = xs at *
    clear hr
    go_wp2_with fail
    refine (RefSip_any 1 2 va vc xs _ HO.out.1 HO.out.2).mono ?_
    rintro e w2 ⟨rfl, hB⟩
    replace HB := Aside0.mk (below_step HB.out hB)
    clear hB HO
    generalize Hash.sip 1 2 xs = s at *
    go_wp2_with fail
    go_ret2
    exact ⟨by rw [HF.out, HE.out]; rfl, HB.out⟩
theorem refPort_any (h : Int) (w : World) (h0 : 0 ≤ h) (h1 : h < 18446744073709551616) : Calls Try.prog 20 #[.int .u64 h] w fun e w' => e = .returned (.int .i64 (portN h)) ∧ w' = w := by
  have e1 : h.tmod 16384 = h % 16384 := Int.tmod_eq_emod_of_nonneg h0
  go_enter Try.func20, Try.ntmps20
  go_wp2_with fail
  go_ret
  refine ⟨?_, rfl⟩
  unfold portN
  rw [e1]
  rfl
set_option maxHeartbeats 4000000 in
theorem known9_any (w : World) : Calls Try.prog 12 #[] w fun e w' => e = .returned (.bool true) ∧ Below w.heap.size w w' := by
  have HK0 := Aside0.mk sip_known
  have HM0 := Aside0.mk mix_known
  go_enter Try.func12, Try.ntmps12
  go_wp2_with fail
  go_loopg [1, 2] 15 (fun kq v1 v2 w' => ∃ i : Nat, Aside0 (kq + i = 15) ∧ v2 = .int .i64 (i : Int) ∧ Aside0 (Owns w' w.heap.size v1 (bs15.take i) ∧ Below w.heap.size w w'))
  case atStart => exact ⟨0, ⟨rfl⟩, rfl, ⟨Owns.nil _ _, Below.refl _ _⟩⟩
  case round =>
    obtain ⟨i, HK, rfl, HI⟩ := hrel
    cases gk with
    | succ kq =>
      have hi : i < 15 := by have := HK.out; omega
      have hi2 : ((i : Nat) : Int) < 15 := by omega
      have hw : IntKind.u8.wrap (i : Int) = (i : Int) := wrap_u8_id (by omega) (by omega)
      obtain ⟨v1, w2, hrun, hO, hg⟩ := app_lit [(i : Int)] HI.out.1 (by rw [List.length_take]; simp only [List.length_singleton]; omega) HI.out.2.size
      have hT : bs15.take i ++ [(i : Int)] = bs15.take (i + 1) := by
        have hd : ∀ j : Fin 15, bs15.take j.val ++ [((j.val : Nat) : Int)] = bs15.take (j.val + 1) := by decide
        exact hd ⟨i, hi⟩
      rw [hT] at hO
      have HN := Aside0.mk (And.intro hO (HI.out.1.keeps HI.out.2 hg))
      have HRUN : Aside0 ((Builtin.append_ #[23, 23] 23 #[u1, .slice (some ⟨wr.heap.size, 0, none⟩) 1 1]).run Try.prog (wr.alloc (.cells #[.int .u8 (i : Int)] 5)) = .ok v1 w2) := ⟨hrun⟩
      clear hO hg hrun hT
      go_wp2_with ((with_reducible refine gate_dst (N := 11) rfl ?_); refine Kd.event_run rfl (exec_append rfl rfl rfl HRUN.out) ?_)
      go_roundg kq
      case measure => omega
      case rel => exact ⟨i + 1, ⟨by have := HK.out; omega⟩, by first | rfl | go_num, HN⟩
    | zero =>
      obtain rfl : i = 15 := by have := HK.out; omega
      have hO : Owns wr w.heap.size u1 bs15 := HI.out.1
      obtain ⟨va, vc, rfl, hvc, hrd⟩ := hO.reads hO.len63
      have HO := Aside0.mk (And.intro hrd hvc)
      have HB := Aside0.mk HI.out.2
      clear hO hrd hvc HI
      go_wp2_with fail
      refine (Sip_any 506097522914230528 1084818905618843912 va vc bs15 _ HO.out.1 HO.out.2).mono ?_
      rintro e w2 ⟨rfl, hB⟩
      rw [HK0.out]
      replace HB := Aside0.mk (below_step HB.out hB)
      clear hB HO
      go_wp2_with fail
      refine (Mix_any 0 _).mono ?_
      rintro e w3 ⟨rfl, rfl⟩
      rw [HM0.out]
      go_wp2_with fail
      refine (Port_any 16385 _ (by decide) (by decide)).mono ?_
      rintro e w3 ⟨rfl, rfl⟩
      rw [show portN 16385 = 49153 by decide]
      go_wp2_with fail
      go_ret
      exact ⟨rfl, HB.out⟩
set_option maxHeartbeats 4000000 in
theorem hashFlow_any (t : Tu) (h : Int) (w : World) (ht : OkT t) (h0 : 0 ≤ h ∧ h ≤ 18446744073709551615) : Calls Try.prog 7 #[.agg (flat (tseg t)), .int .u64 h] w fun e w' => e = .returned (.bool true) ∧ Below w.heap.size w w' := by
  have HM := Aside0.mk ((Mem.nil w).new (.cells (flat (tseg t)) 36))
  simp only [List.nil_append] at HM
  have H := Aside0.mk ht
  have HP := Aside0.mk (fun W => Port_any h W h0.1 (by omega))
  have HQ := Aside0.mk (fun W => refPort_any h W h0.1 (by omega))
  have HF := Aside0.mk (fun W => Flow_any t W ht)
  have HR := Aside0.mk (fun W => refFlow_any t W ht)
  have hp0 : 49152 ≤ portN h := by unfold portN; rw [Int.tmod_eq_emod_of_nonneg h0.1]; omega
  have hp1 : portN h ≤ 65535 := by unfold portN; rw [Int.tmod_eq_emod_of_nonneg h0.1]; omega
  clear ht h0
  generalize portN h = p at *
  generalize flowN t = f at *
  generalize putE t = e0 at *
  go_enter Try.func7, Try.ntmps7
  go_wp2_with ((with_reducible refine gate_dst (N := 11) rfl ?_); refine Kd.event_run rfl (exec_load rfl rfl (load_tup H.out (HM.out.get 0 rfl))) ?_)
  refine (HF.out _).mono ?_
  rintro e w1 ⟨rfl, hB⟩
  replace HM := Aside0.mk (HM.out.below hB)
  clear hB
  go_wp2_with ((with_reducible refine gate_dst (N := 16) rfl ?_); refine Kd.event_run rfl (exec_load rfl rfl (load_tup H.out (HM.out.get 0 rfl))) ?_)
  refine (HR.out _).mono ?_
  rintro e w1 ⟨rfl, hB⟩
  replace HM := Aside0.mk (HM.out.below hB)
  clear hB
  go_wp2_with fail
  refine (HP.out _).mono ?_
  rintro e w' ⟨rfl, rfl⟩
  go_wp2_with fail
  refine (HQ.out _).mono ?_
  rintro e w' ⟨rfl, rfl⟩
  go_wp2_with fail
  refine (known9_any _).mono ?_
  rintro e w1 ⟨rfl, hB⟩
  replace HM := Aside0.mk (HM.out.below hB)
  clear hB
  go_wp2_with fail
  go_ret
  exact ⟨rfl, HM.out.b⟩
end Go.Proofs.Ytjcmcjhfmcabnaa.AddrW
namespace Go.Proofs.Ytjcmcjhfmcabnaa.AddrW
open Go.RowKit Go.Proofs.Ytjcmcjhfmcabnaa.Segs Go.Proofs.Ytjcmcjhfmcabnaa.AddrM Go.Proofs.Ytjcmcjhfmcabnaa.Help Go.Proofs.YtjcmcjhfmcabnaaW.PrintWords
theorem HashFlow_w (v1 : Bool) (b1 : List Int) (v2 : Bool) (b2 : List Int) (p1 s1 d1 h : Int) (w : World) (h1 : OkA b1) (h2 : OkA b2) (h3 : In64 p1) (h4 : In64 s1) (h5 : In64 d1) (h6 : 0 ≤ h ∧ h ≤ 18446744073709551615) :
    Calls Try.prog 7 #[.agg (flat (tseg ⟨⟨v1, b1⟩, ⟨v2, b2⟩, p1, s1, d1⟩)), .int .u64 h] w fun e w' => e = .returned (.bool true) ∧ Below w.heap.size w w' :=
  hashFlow_any _ h w ⟨h1, h2, h3, h4, h5⟩ h6
end Go.Proofs.Ytjcmcjhfmcabnaa.AddrW
