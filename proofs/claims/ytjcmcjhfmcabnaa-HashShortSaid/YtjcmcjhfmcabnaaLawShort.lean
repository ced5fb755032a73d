/- HashShort: walked by hand. -/
import Derived.Test.YtjcmcjhfmcabnaaApp
import Derived.Deep.CutRange
import Derived.Test.YtjcmcjhfmcabnaaHashX
import Derived.Test.YtjcmcjhfmcabnaaKnownP
namespace Go.Proofs.Ytjcmcjhfmcabnaa.A
open Go.RowKit Go.Proofs.Ytjcmcjhfmcabnaa.Bits Go.Proofs.Ytjcmcjhfmcabnaa.Hash Go.Proofs.YtjcmcjhfmcabnaaW.PrintWords Go.Proofs.YtjcmcjhfmcabnaaW.PrintLast Go.Proofs.YtjcmcjhfmcabnaaW.PrintMore Go.Proofs.Ytjcmcjhfmcabnaa.Help
set_option linter.unusedVariables false
set_option linter.unusedSimpArgs false
def steelyardlaw09_HashShort.f (a0 : Int) (a1 : Int) (l2 : List Int) : Option Bool := some true
set_option maxHeartbeats 4000000 in
theorem steelyardlaw09_HashShort.calls (a0 : Int) (a1 : Int) (A2 : Option Addr) (c2 : Nat) (l2 : List Int) (r : Bool) (w : World) (hr2 : Kd.C (Kd.int .u8) w A2 l2.length l2) (hc2 : l2.length ≤ c2) (h : steelyardlaw09_HashShort.f a0 a1 l2 = some r) :
    Calls Try.prog 4 #[.int .u64 a0, .int .u64 a1, .slice A2 l2.length c2] w fun e w' => e = .returned (.bool r) ∧ Below w.heap.size w w' := by
  obtain rfl := Option.some.inj h
  have HR := Aside0.mk hr2
  have HC0 := Aside0.mk hc2
  clear hr2 h
  obtain ⟨i0, hi, hz0, hz1, hz2⟩ := info_parts (show (Try.prog.info? 5).map (fun i => (i.zero, i.size, i.bytes)) = some (some (.int .u8 0), 1, 1) by kernel_rfl)
  have HI := Aside0.mk (And.intro hi (And.intro hz0 (And.intro hz1 hz2)))
  clear hi hz0 hz1 hz2
  go_enter Try.func4, Try.ntmps4
  go_upto_if 11 with fail
  go_cut [2] from 12 to 13 (fun v2 wx => wx = w ∧ v2 = .slice A2 (l2.take 7).length c2)
  case first =>
    by_cases h7 : 7 < l2.length
    · have hlt : decide ((l2.length : Int) > 7) = true := decide_eq_true (by omega)
      have hc7 : 7 ≤ c2 := by omega
      go_wp2_with fail
      go_meet
      refine ⟨rfl, ?_⟩
      rw [List.length_take, Nat.min_eq_left (by omega)]
    · have hlt : decide ((l2.length : Int) > 7) = false := decide_eq_false (by omega)
      go_wp2_with fail
      go_meet
      refine ⟨rfl, ?_⟩
      rw [List.take_of_length_le (by omega)]
  clear hc2
  obtain ⟨rfl, rfl⟩ := hcut
  have hxl : (l2.take 7).length ≤ 7 := by rw [List.length_take]; omega
  have hxc : (l2.take 7).length ≤ c2 := by rw [List.length_take]; have := HC0.out; omega
  have hxr : Kd.C (Kd.int .u8) wc A2 (l2.take 7).length (l2.take 7) := by
    by_cases h7 : 7 ≤ l2.length
    · exact Kd.C_take HR.out h7
    · rw [List.take_of_length_le (by omega)]; exact HR.out
  clear HR HC0
  generalize l2.take 7 = xs at *
  have HR := Aside0.mk hxr
  have HC := Aside0.mk hxc
  have HL := Aside0.mk hxl
  clear hxr hxc hxl
  go_wp2_with fail
  refine (Sip_any a0 a1 A2 c2 xs _ HR.out HC.out).mono ?_
  rintro e w1 ⟨rfl, hB⟩
  have HR1 := Aside0.mk (Kd.C_below HR.out hB)
  have HW := Aside0.mk hB
  clear hB HR
  go_wp2_with fail
  refine (RefSip_any a0 a1 A2 c2 xs _ HR1.out HC.out).mono ?_
  rintro e w2 ⟨rfl, hB⟩
  have HR := Aside0.mk (Kd.C_below HR1.out hB)
  replace HW := Aside0.mk (below_step HW.out hB)
  clear hB HR1
  generalize sip a0 a1 xs = s
  obtain ⟨v1, w3, hrun, hown, hgr, hat⟩ := append_ints (P := Try.prog) (W := w2) (t := 23) (ty := 23) (e := 5) (base := wc.heap.size) (v := .slice none 0 0) (xs := []) (ys := xs) (A := A2) (c := c2) Try.underlying23 HI.out.1 HI.out.2.1 HI.out.2.2.1 (owned_nil _ _ _ _) HR.out (by rw [HI.out.2.2.2]; have := HL.out; simp; omega) (by have := HL.out; simp; omega) HW.out.size
  simp only [List.nil_append] at hrun hown
  have hB3 := below_owned HW.out (owned_nil w2 wc.heap.size 5 .u8) hgr
  clear hgr hat
  obtain ⟨A3, c3, rfl, hc3, hr3⟩ := owned_reads hown (by have := HL.out; omega)
  have ho4 := hown.alloc (.cells #[.int .u8 0] 5)
  have hB4 := below_alloc hB3 (.cells #[.int .u8 0] 5)
  obtain ⟨v2, w5, hrun2, hown2, hgr2, hat2⟩ := append_ints (P := Try.prog) (t := 23) (ty := 23) (ys := [0]) (c := 1) Try.underlying23 HI.out.1 HI.out.2.1 HI.out.2.2.1 ho4 (C_of_block0 (more := []) (blk_new w3 (.cells #[.int .u8 0] 5)) (by simp)) (by rw [HI.out.2.2.2]; have := HL.out; simp; omega) (by have := HL.out; simp; omega) hB4.size
  have hB5 := below_owned hB4 ho4 hgr2
  obtain ⟨A5, c5, rfl, hc5, hr5⟩ := owned_reads hown2 (by have := HL.out; simp; omega)
  generalize xs ++ [0] = zs at *
  have HRUN := Aside0.mk hrun
  have HRUN2 := Aside0.mk hrun2
  have HB5 := Aside0.mk hB5
  have HR5 := Aside0.mk hr5
  have HC5 := Aside0.mk hc5
  clear hrun hown hB3 hrun2 hown2 hgr2 hat2 hB5 hB4 ho4 hr5 hc5 hr3 hc3
  go_wp2_with (first | ((with_reducible refine gate_dst (N := 26) rfl ?_); refine Kd.event_run rfl (exec_append rfl rfl rfl HRUN.out) ?_) | ((with_reducible refine gate_dst (N := 29) rfl ?_); refine Kd.event_run rfl (exec_append rfl rfl rfl HRUN2.out) ?_))
  refine (Sip_any a0 a1 A5 c5 zs _ HR5.out HC5.out).mono ?_
  rintro e w6 ⟨rfl, hB⟩
  have HR6 := Aside0.mk (Kd.C_below HR5.out hB)
  replace HW := Aside0.mk (below_step HB5.out hB)
  clear hB HR5 HB5
  go_wp2_with fail
  refine (RefSip_any a0 a1 A5 c5 zs _ HR6.out HC5.out).mono ?_
  rintro e w7 ⟨rfl, hB⟩
  replace HW := Aside0.mk (below_step HW.out hB)
  clear hB
  generalize sip a0 a1 zs = s2
  go_wp2_with fail
  refine (steelyardlaw09_known.calls 17 true _ known_yes).mono ?_
  rintro e w8 ⟨rfl, hB2⟩
  replace HW := Aside0.mk (below_step HW.out hB2)
  clear hB2
  go_wp2
  go_ret
  exact ⟨rfl, HW.out⟩
end Go.Proofs.Ytjcmcjhfmcabnaa.A
