/- AddrTuples: walked. -/
import Derived.Test.YtfnpjfcfgilchaaTupW4
namespace Go.Proofs.Ytfnpjfcfgilchaa.AddrW
open Go.RowKit Go.Proofs.Ytfnpjfcfgilchaa.Segs Go.Proofs.Ytfnpjfcfgilchaa.Mem Go.Proofs.Ytfnpjfcfgilchaa.AddrO Go.Proofs.Ytfnpjfcfgilchaa.AddrEq Go.Proofs.Ytfnpjfcfgilchaa.AddrM Go.Proofs.Ytfnpjfcfgilchaa.Bits Go.Proofs.Ytfnpjfcfgilchaa.Help Go.Proofs.YtfnpjfcfgilchaaW.PrintWords Go.Proofs.YtfnpjfcfgilchaaW.PrintLast Go.Proofs.YtfnpjfcfgilchaaW.PrintMore
set_option linter.unusedVariables false
set_option linter.unusedSimpArgs false
set_option maxHeartbeats 16000000 in
theorem AddrTuples_any (a b c : Tu) (w : World) (ha : OkT a) (hb : OkT b) (hc : OkT c) :
    Calls Try.prog 7 #[.agg (flat (tseg a)), .agg (flat (tseg b)), .agg (flat (tseg c))] w fun e w' => e = .returned (.bool true) ∧ Below w.heap.size w w' := by
  have HM := Aside0.mk ((((Mem.nil w).new (.cells (flat (tseg a)) 44)).new' (.cells (flat (tseg b)) 44) (g := w.heap.size + 1) (Array.size_push _).symm).new' (.cells (flat (tseg c)) 44) (g := w.heap.size + 1 + 1) (by show _ = ((w.heap.push _).push _).size; rw [Array.size_push, Array.size_push]))
  simp only [List.nil_append, List.cons_append] at HM
  have H := Aside0.mk (And.intro ha (And.intro hb hc))
  have HR := Aside0.mk (fun W => RightTuple_any a W ha)
  have HRR := Aside0.mk (fun W => RefRightTuple_any a W ha)
  have HRT := Aside0.mk (fun W => RightTuple_any (turnT a) W (turn_ok ha))
  have HAB := Aside0.mk (fun W => LessTuple_any a b W ha hb)
  have HRAB := Aside0.mk (fun W => RefLessTuple_any a b W ha hb)
  have HAA := Aside0.mk (fun W => LessTuple_any a a W ha ha)
  have HBA := Aside0.mk (fun W => LessTuple_any b a W hb ha)
  have HBC := Aside0.mk (fun W => LessTuple_any b c W hb hc)
  have HAC := Aside0.mk (fun W => LessTuple_any a c W ha hc)
  have HTU := Aside0.mk (fun W => Turn_any a W ha)
  have HRTU := Aside0.mk (fun W => RefTurn_any a W ha)
  have HTT := Aside0.mk (fun W => Turn_any (turnT a) W (turn_ok ha))
  have HKN := Aside0.mk (fun W => known_any W)
  have HEQ1 : Aside0 (∀ w : World, (Op.equalIn 10000 44 (.agg (flat (tseg (turnT a)))) (.agg (flat (tseg (turnT a))))).run Try.prog w = .ok true w) := ⟨fun w => by rw [eq_tup (turn_ok ha) (turn_ok ha) w]; simp⟩
  have HEQ2 : Aside0 (∀ w : World, (Op.equalIn 10000 44 (.agg (flat (tseg a))) (.agg (flat (tseg a)))).run Try.prog w = .ok true w) := ⟨fun w => by rw [eq_tup ha ha w]; simp⟩
  have HEQ := Aside0.mk (fun w : World => eq_tup ha hb w)
  have HNE : Aside0 (a ≠ b → (ltT a b == ltT b a) = false) := ⟨lt_anti ha hb⟩
  have HTR : Aside0 (ltT a b = true → ltT b c = true → ltT a c = true) := ⟨lt_trans ha hb hc⟩
  rw [rt_turn a] at HRT
  rw [turn_turn a] at HTT
  rw [lt_self a] at HAA
  clear ha hb hc
  generalize rtB a = ra at *
  generalize ltT a b = ab at *
  generalize ltT b a = ba at *
  generalize ltT b c = bc at *
  generalize ltT a c = ac at *
  have n1 : (ra != ra) = false := by simp
  have n2 : (ab != ab) = false := by simp
  have HEQ3 := HEQ2
  go_enter Try.func7, Try.ntmps7
  go_upto_region 1 with fail
  refine RegionF.region_F (F := (Mem w _)) 35 (by kernel_rfl) (by kernel_rfl) HM.out.drew ?_
  simp only [List.take_succ_cons, List.take_zero, List.drop_succ_cons, List.drop_zero]
  clear HM
  repeat (first
    | (refine RegionF.wpF_skip (by rfl) ?_
       refine RegionF.wpF_put (fun K' hK' => ?_)
       go_simp
       refine hK' _ ?_
       clear hK' K')
    | (apply RegionF.wpF_step
       · rfl
       · (intro W hW; first | (rw [exec_load rfl rfl (load_tup H.out.1 (hW.get 0 rfl))]; exact RegionF.GivesF.value rfl hW) | (rw [exec_load rfl rfl (load_tup H.out.2.1 (hW.get 1 rfl))]; exact RegionF.GivesF.value rfl hW) | (rw [exec_neq Try.eqGuardType44 rfl rfl rfl (HEQ1.out W)]; exact RegionF.GivesF.value rfl hW) | (rw [exec_neq Try.eqGuardType44 rfl rfl rfl (HEQ2.out W)]; exact RegionF.GivesF.value rfl hW) | (rw [exec_neq Try.eqGuardType44 rfl rfl rfl (HEQ3.out W)]; exact RegionF.GivesF.value rfl hW) | (go_simp; first | exact RegionF.GivesF.value rfl hW | (apply RegionF.GivesF.enter; first | (with_reducible exact (HR.out W).mono fun e w1 h => ⟨h.1, hW.below h.2⟩) | (with_reducible exact (HRR.out W).mono fun e w1 h => ⟨h.1, hW.below h.2⟩) | (with_reducible exact (HAB.out W).mono fun e w1 h => ⟨h.1, hW.below h.2⟩) | (with_reducible exact (HRAB.out W).mono fun e w1 h => ⟨h.1, hW.below h.2⟩) | (with_reducible exact (HTU.out W).mono fun e w1 h => ⟨h.1, hW.below h.2⟩) | (with_reducible exact (HRTU.out W).mono fun e w1 h => ⟨h.1, hW.below h.2⟩) | (with_reducible exact (HTT.out W).mono fun e w1 h => ⟨h.1, hW.below h.2⟩) | (with_reducible exact (HRT.out W).mono fun e w1 h => ⟨h.1, hW.below h.2⟩) | (with_reducible exact (HAA.out W).mono fun e w1 h => ⟨h.1, hW.below h.2⟩) | (with_reducible exact (HBA.out W).mono fun e w1 h => ⟨h.1, hW.below h.2⟩))))
       refine RegionF.wpF_put (fun K' hK' => ?_)
       go_simp
       refine hK' _ ?_
       clear hK' K'))
  refine RegionF.wpF_nil (fun W hW => ?_)
  have HM := Aside0.mk hW
  clear hW
  clear HR HRR HRT HRAB HTU HRTU HTT
  go_upto_region 3 with fail
  by_cases hv : a = b
  · have hq : decide (a = b) = true := by simp [hv]
    replace HEQ3 : Aside0 (∀ w : World, (Op.equalIn 10000 44 (.agg (flat (tseg a))) (.agg (flat (tseg b)))).run Try.prog w = .ok true w) := ⟨fun w => by rw [HEQ.out w, hq]⟩
    clear hq hv HEQ HNE
    refine RegionF.region_F (F := (Mem w _)) 16 (by kernel_rfl) (by kernel_rfl) HM.out.drew ?_
    simp only [List.take_succ_cons, List.take_zero, List.drop_succ_cons, List.drop_zero]
    clear HM
    repeat (first
      | (refine RegionF.wpF_skip (by rfl) ?_
         refine RegionF.wpF_put (fun K' hK' => ?_)
         go_simp
         refine hK' _ ?_
         clear hK' K')
      | (apply RegionF.wpF_step
         · rfl
         · (intro W hW; first | (rw [exec_load rfl rfl (load_tup H.out.1 (hW.get 0 rfl))]; exact RegionF.GivesF.value rfl hW) | (rw [exec_load rfl rfl (load_tup H.out.2.1 (hW.get 1 rfl))]; exact RegionF.GivesF.value rfl hW) | (rw [exec_neq Try.eqGuardType44 rfl rfl rfl (HEQ1.out W)]; exact RegionF.GivesF.value rfl hW) | (rw [exec_neq Try.eqGuardType44 rfl rfl rfl (HEQ2.out W)]; exact RegionF.GivesF.value rfl hW) | (rw [exec_neq Try.eqGuardType44 rfl rfl rfl (HEQ3.out W)]; exact RegionF.GivesF.value rfl hW) | (go_simp; first | exact RegionF.GivesF.value rfl hW | (apply RegionF.GivesF.enter; first | (with_reducible exact (HAB.out W).mono fun e w1 h => ⟨h.1, hW.below h.2⟩) | (with_reducible exact (HAA.out W).mono fun e w1 h => ⟨h.1, hW.below h.2⟩) | (with_reducible exact (HBA.out W).mono fun e w1 h => ⟨h.1, hW.below h.2⟩))))
         refine RegionF.wpF_put (fun K' hK' => ?_)
         go_simp
         refine hK' _ ?_
         clear hK' K'))
    refine RegionF.wpF_nil (fun W hW => ?_)
    have HM := Aside0.mk hW
    clear hW
    clear HEQ1 HEQ2 HEQ3 HAA HBA
    go_upto_region 5 with fail
    go_wp2_with (first | ((with_reducible refine gate_load (t := 44) rfl ?_); (try refine gate_guard (by rfl) ?_); first | (refine Kd.event_run rfl (exec_load rfl rfl (load_tup H.out.1 (HM.out.get 0 rfl))) ?_) | (refine Kd.event_run rfl (exec_load rfl rfl (load_tup H.out.2.1 (HM.out.get 1 rfl))) ?_)))
    refine (HAB.out _).mono ?_
    rintro e w1 ⟨rfl, hB⟩
    replace HM := Aside0.mk (HM.out.below hB)
    clear hB
    cases ab with
    | false =>
      go_wp2_with fail
      refine (HKN.out _).mono ?_
      rintro e w1 ⟨rfl, hB⟩
      replace HM := Aside0.mk (HM.out.below hB)
      clear hB
      go_wp2_with fail
      go_ret
      exact ⟨rfl, HM.out.b⟩
    | true =>
      go_wp2_with (first | ((with_reducible refine gate_load (t := 44) rfl ?_); (try refine gate_guard (by rfl) ?_); first | (refine Kd.event_run rfl (exec_load rfl rfl (load_tup H.out.2.1 (HM.out.get 1 rfl))) ?_) | (refine Kd.event_run rfl (exec_load rfl rfl (load_tup H.out.2.2 (HM.out.get 2 rfl))) ?_)))
      refine (HBC.out _).mono ?_
      rintro e w1 ⟨rfl, hB⟩
      replace HM := Aside0.mk (HM.out.below hB)
      clear hB
      cases bc with
      | false =>
        go_wp2_with fail
        refine (HKN.out _).mono ?_
        rintro e w1 ⟨rfl, hB⟩
        replace HM := Aside0.mk (HM.out.below hB)
        clear hB
        go_wp2_with fail
        go_ret
        exact ⟨rfl, HM.out.b⟩
      | true =>
        obtain rfl := HTR.out (by simp) (by simp)
        go_wp2_with (first | ((with_reducible refine gate_load (t := 44) rfl ?_); (try refine gate_guard (by rfl) ?_); first | (refine Kd.event_run rfl (exec_load rfl rfl (load_tup H.out.1 (HM.out.get 0 rfl))) ?_) | (refine Kd.event_run rfl (exec_load rfl rfl (load_tup H.out.2.2 (HM.out.get 2 rfl))) ?_)))
        refine (HAC.out _).mono ?_
        rintro e w1 ⟨rfl, hB⟩
        replace HM := Aside0.mk (HM.out.below hB)
        clear hB
        go_wp2_with fail
        refine (HKN.out _).mono ?_
        rintro e w1 ⟨rfl, hB⟩
        replace HM := Aside0.mk (HM.out.below hB)
        clear hB
        go_wp2_with fail
        go_ret
        exact ⟨rfl, HM.out.b⟩
  · have hq : decide (a = b) = false := by simp [hv]
    have hne := HNE.out hv
    replace HEQ3 : Aside0 (∀ w : World, (Op.equalIn 10000 44 (.agg (flat (tseg a))) (.agg (flat (tseg b)))).run Try.prog w = .ok false w) := ⟨fun w => by rw [HEQ.out w, hq]⟩
    clear hq hv HEQ HNE
    refine RegionF.region_F (F := (Mem w _)) 16 (by kernel_rfl) (by kernel_rfl) HM.out.drew ?_
    simp only [List.take_succ_cons, List.take_zero, List.drop_succ_cons, List.drop_zero]
    clear HM
    repeat (first
      | (refine RegionF.wpF_skip (by rfl) ?_
         refine RegionF.wpF_put (fun K' hK' => ?_)
         go_simp
         refine hK' _ ?_
         clear hK' K')
      | (apply RegionF.wpF_step
         · rfl
         · (intro W hW; first | (rw [exec_load rfl rfl (load_tup H.out.1 (hW.get 0 rfl))]; exact RegionF.GivesF.value rfl hW) | (rw [exec_load rfl rfl (load_tup H.out.2.1 (hW.get 1 rfl))]; exact RegionF.GivesF.value rfl hW) | (rw [exec_neq Try.eqGuardType44 rfl rfl rfl (HEQ1.out W)]; exact RegionF.GivesF.value rfl hW) | (rw [exec_neq Try.eqGuardType44 rfl rfl rfl (HEQ2.out W)]; exact RegionF.GivesF.value rfl hW) | (rw [exec_neq Try.eqGuardType44 rfl rfl rfl (HEQ3.out W)]; exact RegionF.GivesF.value rfl hW) | (go_simp; first | exact RegionF.GivesF.value rfl hW | (apply RegionF.GivesF.enter; first | (with_reducible exact (HAB.out W).mono fun e w1 h => ⟨h.1, hW.below h.2⟩) | (with_reducible exact (HAA.out W).mono fun e w1 h => ⟨h.1, hW.below h.2⟩) | (with_reducible exact (HBA.out W).mono fun e w1 h => ⟨h.1, hW.below h.2⟩))))
         refine RegionF.wpF_put (fun K' hK' => ?_)
         go_simp
         refine hK' _ ?_
         clear hK' K'))
    refine RegionF.wpF_nil (fun W hW => ?_)
    have HM := Aside0.mk hW
    clear hW
    clear HEQ1 HEQ2 HEQ3 HAA HBA hne
    go_upto_region 5 with fail
    go_wp2_with (first | ((with_reducible refine gate_load (t := 44) rfl ?_); (try refine gate_guard (by rfl) ?_); first | (refine Kd.event_run rfl (exec_load rfl rfl (load_tup H.out.1 (HM.out.get 0 rfl))) ?_) | (refine Kd.event_run rfl (exec_load rfl rfl (load_tup H.out.2.1 (HM.out.get 1 rfl))) ?_)))
    refine (HAB.out _).mono ?_
    rintro e w1 ⟨rfl, hB⟩
    replace HM := Aside0.mk (HM.out.below hB)
    clear hB
    cases ab with
    | false =>
      go_wp2_with fail
      refine (HKN.out _).mono ?_
      rintro e w1 ⟨rfl, hB⟩
      replace HM := Aside0.mk (HM.out.below hB)
      clear hB
      go_wp2_with fail
      go_ret
      exact ⟨rfl, HM.out.b⟩
    | true =>
      go_wp2_with (first | ((with_reducible refine gate_load (t := 44) rfl ?_); (try refine gate_guard (by rfl) ?_); first | (refine Kd.event_run rfl (exec_load rfl rfl (load_tup H.out.2.1 (HM.out.get 1 rfl))) ?_) | (refine Kd.event_run rfl (exec_load rfl rfl (load_tup H.out.2.2 (HM.out.get 2 rfl))) ?_)))
      refine (HBC.out _).mono ?_
      rintro e w1 ⟨rfl, hB⟩
      replace HM := Aside0.mk (HM.out.below hB)
      clear hB
      cases bc with
      | false =>
        go_wp2_with fail
        refine (HKN.out _).mono ?_
        rintro e w1 ⟨rfl, hB⟩
        replace HM := Aside0.mk (HM.out.below hB)
        clear hB
        go_wp2_with fail
        go_ret
        exact ⟨rfl, HM.out.b⟩
      | true =>
        obtain rfl := HTR.out (by simp) (by simp)
        go_wp2_with (first | ((with_reducible refine gate_load (t := 44) rfl ?_); (try refine gate_guard (by rfl) ?_); first | (refine Kd.event_run rfl (exec_load rfl rfl (load_tup H.out.1 (HM.out.get 0 rfl))) ?_) | (refine Kd.event_run rfl (exec_load rfl rfl (load_tup H.out.2.2 (HM.out.get 2 rfl))) ?_)))
        refine (HAC.out _).mono ?_
        rintro e w1 ⟨rfl, hB⟩
        replace HM := Aside0.mk (HM.out.below hB)
        clear hB
        go_wp2_with fail
        refine (HKN.out _).mono ?_
        rintro e w1 ⟨rfl, hB⟩
        replace HM := Aside0.mk (HM.out.below hB)
        clear hB
        go_wp2_with fail
        go_ret
        exact ⟨rfl, HM.out.b⟩
end Go.Proofs.Ytfnpjfcfgilchaa.AddrW
namespace Go.Proofs.Ytfnpjfcfgilchaa.AddrW
open Go.RowKit Go.Proofs.Ytfnpjfcfgilchaa.Segs Go.Proofs.Ytfnpjfcfgilchaa.AddrM Go.Proofs.Ytfnpjfcfgilchaa.Help Go.Proofs.YtfnpjfcfgilchaaW.PrintWords
theorem AddrTuples_w (v1 : Bool) (b1 : List Int) (v2 : Bool) (b2 : List Int) (p1 s1 d1 : Int) (v3 : Bool) (b3 : List Int) (v4 : Bool) (b4 : List Int) (p2 s2 d2 : Int) (v5 : Bool) (b5 : List Int) (v6 : Bool) (b6 : List Int) (p3 s3 d3 : Int) (w : World)
    (h1 : OkA b1) (h2 : OkA b2) (h3 : In64 p1) (h4 : In64 s1) (h5 : In64 d1) (h6 : OkA b3) (h7 : OkA b4) (h8 : In64 p2) (h9 : In64 s2) (h10 : In64 d2) (h11 : OkA b5) (h12 : OkA b6) (h13 : In64 p3) (h14 : In64 s3) (h15 : In64 d3) :
    Calls Try.prog 7 #[.agg (flat (tseg ⟨⟨v1, b1⟩, ⟨v2, b2⟩, p1, s1, d1⟩)), .agg (flat (tseg ⟨⟨v3, b3⟩, ⟨v4, b4⟩, p2, s2, d2⟩)), .agg (flat (tseg ⟨⟨v5, b5⟩, ⟨v6, b6⟩, p3, s3, d3⟩))] w fun e w' => e = .returned (.bool true) ∧ Below w.heap.size w w' :=
  AddrTuples_any _ _ _ w ⟨h1, h2, h3, h4, h5⟩ ⟨h6, h7, h8, h9, h10⟩ ⟨h11, h12, h13, h14, h15⟩
end Go.Proofs.Ytfnpjfcfgilchaa.AddrW
