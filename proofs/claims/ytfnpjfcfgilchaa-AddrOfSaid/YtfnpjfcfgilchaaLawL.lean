/- AddrLess: walked. -/
import Derived.Test.YtfnpjfcfgilchaaAddrA
import Derived.Test.YtfnpjfcfgilchaaAddrB
namespace Go.Proofs.Ytfnpjfcfgilchaa.AddrW
open Go.RowKit Go.Proofs.Ytfnpjfcfgilchaa.AddrO Go.Proofs.Ytfnpjfcfgilchaa.AddrEq Go.Proofs.Ytfnpjfcfgilchaa.AddrM Go.Proofs.Ytfnpjfcfgilchaa.Bits Go.Proofs.Ytfnpjfcfgilchaa.Help Go.Proofs.YtfnpjfcfgilchaaW.PrintWords Go.Proofs.YtfnpjfcfgilchaaW.PrintLast Go.Proofs.YtfnpjfcfgilchaaW.PrintMore
set_option linter.unusedVariables false
set_option linter.unusedSimpArgs false
/-- An address that is well formed. -/
structure OkA (bs : List Int) : Prop where
  l : bs.length = 16
  a : AllB bs
def ltB (v : Bool) (bs : List Int) (u : Bool) (cs : List Int) : Bool := decide (refCmpS v bs u cs < 0)
theorem lt_any (v : Bool) (bs : List Int) (u : Bool) (cs : List Int) (w : World) (hb : OkA bs) (hc : OkA cs) :
    Calls Try.prog 18 #[.agg (av v bs), .agg (av u cs)] w fun e w' => e = .returned (.bool (ltB v bs u cs)) ∧ Below w.heap.size w w' := by
  have e : ltB v bs u cs = decide (ordS v bs u cs < 0) := by rw [ord_sgn v bs u cs hb.l hc.l hb.a hc.a, ltB, Bool.eq_iff_iff, decide_eq_true_iff, decide_eq_true_iff, sgn_lt]
  rw [e]
  exact Less_any v bs u cs w hb.l hc.l
theorem cmp_ok (v : Bool) (bs : List Int) (u : Bool) (cs : List Int) (w : World) (hb : OkA bs) (hc : OkA cs) :
    Calls Try.prog 19 #[.agg (av v bs), .agg (av u cs)] w fun e w' => e = .returned (.int .i64 (refCmpS v bs u cs)) ∧ Below w.heap.size w w' :=
  refCmp_any v bs u cs w hb.l hc.l (fun x hx => by have := hb.a x hx; omega) (fun x hx => by have := hc.a x hx; omega)
/-- Three addresses in memory. -/
structure L3 (w : World) (v : Bool) (bs : List Int) (u : Bool) (cs : List Int) (t : Bool) (ds : List Int) (W : World) : Prop where
  a : W.heap[w.heap.size]? = some (.cells (av v bs) 25 (0, 0))
  b : W.heap[w.heap.size + 1]? = some (.cells (av u cs) 25 (0, 0))
  c : W.heap[w.heap.size + 1 + 1]? = some (.cells (av t ds) 25 (0, 0))
  w : Below w.heap.size w W
theorem L3.below {w W W1 : World} {v : Bool} {bs : List Int} {u : Bool} {cs : List Int} {t : Bool} {ds : List Int} (h : L3 w v bs u cs t ds W) (hB : Below W.heap.size W W1) : L3 w v bs u cs t ds W1 := ⟨blk_below h.a hB, blk_below h.b hB, blk_below h.c hB, below_step h.w hB⟩
theorem L3.drew {w W : World} {v : Bool} {bs : List Int} {u : Bool} {cs : List Int} {t : Bool} {ds : List Int} (h : L3 w v bs u cs t ds W) : L3 w v bs u cs t ds W.drew := ⟨h.a, h.b, h.c, Below.drew h.w⟩
set_option maxHeartbeats 4000000 in
theorem AddrLess_any (v : Bool) (bs : List Int) (u : Bool) (cs : List Int) (t : Bool) (ds : List Int) (w : World) (hb : OkA bs) (hc : OkA cs) (hd : OkA ds) :
    Calls Try.prog 4 #[.agg (av v bs), .agg (av u cs), .agg (av t ds)] w fun e w' => e = .returned (.bool true) ∧ Below w.heap.size w w' := by
  have HF : Aside0 (L3 w v bs u cs t ds (((w.alloc (.cells (av v bs) 25)).alloc (.cells (av u cs) 25)).alloc (.cells (av t ds) 25))) :=
    ⟨⟨blk_alloc (blk_alloc (blk_new w _) _) _, blk_alloc (blk_new_at (Array.size_push _).symm) _, blk_new_at (by show _ = ((w.heap.push _).push _).size; rw [Array.size_push, Array.size_push]), below_alloc (below_alloc (below_alloc (Below.refl _ _) _) _) _⟩⟩
  have HAB := Aside0.mk (fun W => lt_any v bs u cs W hb hc)
  have HBA := Aside0.mk (fun W => lt_any u cs v bs W hc hb)
  have HAA := Aside0.mk (fun W => lt_any v bs v bs W hb hb)
  have HBC := Aside0.mk (fun W => lt_any u cs t ds W hc hd)
  have HAC := Aside0.mk (fun W => lt_any v bs t ds W hb hd)
  have HCM := Aside0.mk (fun W => cmp_ok v bs u cs W hb hc)
  have HEQ := Aside0.mk (fun w : World => eq_addr v u hb.l hc.l w)
  have hcm : decide (refCmpS v bs u cs < 0) = ltB v bs u cs := rfl
  have haa : ltB v bs v bs = false := by simp [ltB, rc_self]
  have hne : ¬ (v = u ∧ bs = cs) → (ltB v bs u cs == ltB u cs v bs) = false := by
    intro h
    have h0 : refCmpS v bs u cs ≠ 0 := fun e => h (rc_zero v bs u cs (by rw [hb.l, hc.l]) e)
    have h1 := rc_neg v bs u cs
    by_cases q : refCmpS v bs u cs < 0
    · simp [ltB, q]; omega
    · simp [ltB, q]; omega
  have htr : ltB v bs u cs = true → ltB u cs t ds = true → ltB v bs t ds = true := by
    simp only [ltB, decide_eq_true_eq]
    exact rc_trans v bs u cs t ds (by rw [hb.l, hc.l]) (by rw [hc.l, hd.l])
  have HL := Aside0.mk (And.intro hb.l (And.intro hc.l hd.l))
  have HNE := Aside0.mk hne
  have HTR := Aside0.mk htr
  clear hb hc hd hne htr
  rw [haa] at HAA
  generalize ltB v bs u cs = ab at *
  generalize ltB u cs v bs = ba at *
  generalize ltB u cs t ds = bc at *
  generalize ltB v bs t ds = ac at *
  generalize refCmpS v bs u cs = cm at *
  have hne1 : (ab != ab) = false := by simp
  clear haa
  go_enter Try.func4, Try.ntmps4
  go_upto_region 1 with fail
  refine RegionF.region_F (F := (L3 w v bs u cs t ds)) 12 (by kernel_rfl) (by kernel_rfl) HF.out.drew ?_
  simp only [List.take_succ_cons, List.take_zero, List.drop_succ_cons, List.drop_zero]
  clear HF
  repeat (first
    | (refine RegionF.wpF_skip (by rfl) ?_
       refine RegionF.wpF_put (fun K' hK' => ?_)
       go_simp
       refine hK' _ ?_
       clear hK' K')
    | (apply RegionF.wpF_step
       · rfl
       · (intro W hW; first | (rw [exec_load rfl rfl (load_addr HL.out.1 hW.a)]; exact RegionF.GivesF.value rfl hW) | (rw [exec_load rfl rfl (load_addr HL.out.2.1 hW.b)]; exact RegionF.GivesF.value rfl hW) | (rw [exec_load rfl rfl (load_addr HL.out.2.2 hW.c)]; exact RegionF.GivesF.value rfl hW) | (go_simp; first | exact RegionF.GivesF.value rfl hW | (apply RegionF.GivesF.enter; first | (with_reducible exact (HAB.out W).mono fun e w1 h => ⟨h.1, hW.below h.2⟩) | (with_reducible exact (HBA.out W).mono fun e w1 h => ⟨h.1, hW.below h.2⟩) | (with_reducible exact (HAA.out W).mono fun e w1 h => ⟨h.1, hW.below h.2⟩) | (with_reducible exact (HBC.out W).mono fun e w1 h => ⟨h.1, hW.below h.2⟩) | (with_reducible exact (HAC.out W).mono fun e w1 h => ⟨h.1, hW.below h.2⟩) | (with_reducible exact (HCM.out W).mono fun e w1 h => ⟨h.1, hW.below h.2⟩))))
       refine RegionF.wpF_put (fun K' hK' => ?_)
       go_simp
       refine hK' _ ?_
       clear hK' K'))
  refine RegionF.wpF_nil (fun W hW => ?_)
  go_upto_region 3 with fail
  by_cases hv : v = u ∧ bs = cs
  · have hq : (v == u && decide (bs = cs)) = true := by simp [hv]
    have HEQ2 : Aside0 (∀ w : World, (Op.equalIn 10000 25 (.agg (av v bs)) (.agg (av u cs))).run Try.prog w = .ok true w) := ⟨fun w => by rw [HEQ.out w, hq]⟩
    clear hq hv HEQ
    refine RegionF.region_F (F := (L3 w v bs u cs t ds)) 11 (by kernel_rfl) (by kernel_rfl) hW.drew ?_
    simp only [List.take_succ_cons, List.take_zero, List.drop_succ_cons, List.drop_zero]
    clear hW W
    repeat (first
      | (refine RegionF.wpF_skip (by rfl) ?_
         refine RegionF.wpF_put (fun K' hK' => ?_)
         go_simp
         refine hK' _ ?_
         clear hK' K')
      | (apply RegionF.wpF_step
         · rfl
         · (intro W hW; first | (rw [exec_neq Try.eqGuardType25 rfl rfl rfl (HEQ2.out W)]; exact RegionF.GivesF.value rfl hW) | (rw [exec_load rfl rfl (load_addr HL.out.1 hW.a)]; exact RegionF.GivesF.value rfl hW) | (rw [exec_load rfl rfl (load_addr HL.out.2.1 hW.b)]; exact RegionF.GivesF.value rfl hW) | (rw [exec_load rfl rfl (load_addr HL.out.2.2 hW.c)]; exact RegionF.GivesF.value rfl hW) | (go_simp; first | exact RegionF.GivesF.value rfl hW | (apply RegionF.GivesF.enter; first | (with_reducible exact (HAB.out W).mono fun e w1 h => ⟨h.1, hW.below h.2⟩) | (with_reducible exact (HBA.out W).mono fun e w1 h => ⟨h.1, hW.below h.2⟩) | (with_reducible exact (HAA.out W).mono fun e w1 h => ⟨h.1, hW.below h.2⟩) | (with_reducible exact (HBC.out W).mono fun e w1 h => ⟨h.1, hW.below h.2⟩) | (with_reducible exact (HAC.out W).mono fun e w1 h => ⟨h.1, hW.below h.2⟩) | (with_reducible exact (HCM.out W).mono fun e w1 h => ⟨h.1, hW.below h.2⟩))))
         refine RegionF.wpF_put (fun K' hK' => ?_)
         go_simp
         refine hK' _ ?_
         clear hK' K'))
    refine RegionF.wpF_nil (fun W hW => ?_)
    have HW5 := Aside0.mk hW
    clear hW HEQ2
    go_wp2_with (first | ((with_reducible refine gate_dst (N := 32) rfl ?_); refine Kd.event_run rfl (exec_load rfl rfl (load_addr HL.out.1 HW5.out.a)) ?_) | ((with_reducible refine gate_dst (N := 33) rfl ?_); refine Kd.event_run rfl (exec_load rfl rfl (load_addr HL.out.2.1 HW5.out.b)) ?_))
    refine (HAB.out _).mono ?_
    rintro e w1 ⟨rfl, hB⟩
    replace HW5 := Aside0.mk (HW5.out.below hB)
    clear hB
    cases ab with
    | false =>
      go_wp2_with fail
      refine (known_any _).mono ?_
      rintro e w5 ⟨rfl, hB⟩
      have HB := Aside0.mk (below_step HW5.out.w hB)
      clear hB
      go_wp2_with fail
      go_ret
      exact ⟨rfl, HB.out⟩
    | true =>
      go_wp2_with (first | ((with_reducible refine gate_dst (N := 37) rfl ?_); refine gate_guard (by rfl) ?_; refine Kd.event_run rfl (exec_load rfl rfl (load_addr HL.out.2.1 HW5.out.b)) ?_) | ((with_reducible refine gate_dst (N := 38) rfl ?_); refine gate_guard (by rfl) ?_; refine Kd.event_run rfl (exec_load rfl rfl (load_addr HL.out.2.2 HW5.out.c)) ?_))
      refine (HBC.out _).mono ?_
      rintro e w1 ⟨rfl, hB⟩
      replace HW5 := Aside0.mk (HW5.out.below hB)
      clear hB
      cases bc with
      | false =>
        go_wp2_with fail
        refine (known_any _).mono ?_
        rintro e w5 ⟨rfl, hB⟩
        have HB := Aside0.mk (below_step HW5.out.w hB)
        clear hB
        go_wp2_with fail
        go_ret
        exact ⟨rfl, HB.out⟩
      | true =>
        obtain rfl := HTR.out (by simp) (by simp)
        go_wp2_with (first | ((with_reducible refine gate_dst (N := 43) rfl ?_); refine gate_guard (by rfl) ?_; refine Kd.event_run rfl (exec_load rfl rfl (load_addr HL.out.1 HW5.out.a)) ?_) | ((with_reducible refine gate_dst (N := 44) rfl ?_); refine gate_guard (by rfl) ?_; refine Kd.event_run rfl (exec_load rfl rfl (load_addr HL.out.2.2 HW5.out.c)) ?_))
        refine (HAC.out _).mono ?_
        rintro e w1 ⟨rfl, hB⟩
        replace HW5 := Aside0.mk (HW5.out.below hB)
        clear hB
        go_wp2_with fail
        refine (known_any _).mono ?_
        rintro e w5 ⟨rfl, hB⟩
        have HB := Aside0.mk (below_step HW5.out.w hB)
        clear hB
        go_wp2_with fail
        go_ret
        exact ⟨rfl, HB.out⟩
  · have hq : (v == u && decide (bs = cs)) = false := by simpa using hv
    have HEQ2 : Aside0 (∀ w : World, (Op.equalIn 10000 25 (.agg (av v bs)) (.agg (av u cs))).run Try.prog w = .ok false w) := ⟨fun w => by rw [HEQ.out w, hq]⟩
    have hne := HNE.out hv
    clear hq hv HEQ HNE
    refine RegionF.region_F (F := (L3 w v bs u cs t ds)) 11 (by kernel_rfl) (by kernel_rfl) hW.drew ?_
    simp only [List.take_succ_cons, List.take_zero, List.drop_succ_cons, List.drop_zero]
    clear hW W
    repeat (first
      | (refine RegionF.wpF_skip (by rfl) ?_
         refine RegionF.wpF_put (fun K' hK' => ?_)
         go_simp
         refine hK' _ ?_
         clear hK' K')
      | (apply RegionF.wpF_step
         · rfl
         · (intro W hW; first | (rw [exec_neq Try.eqGuardType25 rfl rfl rfl (HEQ2.out W)]; exact RegionF.GivesF.value rfl hW) | (rw [exec_load rfl rfl (load_addr HL.out.1 hW.a)]; exact RegionF.GivesF.value rfl hW) | (rw [exec_load rfl rfl (load_addr HL.out.2.1 hW.b)]; exact RegionF.GivesF.value rfl hW) | (rw [exec_load rfl rfl (load_addr HL.out.2.2 hW.c)]; exact RegionF.GivesF.value rfl hW) | (go_simp; first | exact RegionF.GivesF.value rfl hW | (apply RegionF.GivesF.enter; first | (with_reducible exact (HAB.out W).mono fun e w1 h => ⟨h.1, hW.below h.2⟩) | (with_reducible exact (HBA.out W).mono fun e w1 h => ⟨h.1, hW.below h.2⟩) | (with_reducible exact (HAA.out W).mono fun e w1 h => ⟨h.1, hW.below h.2⟩) | (with_reducible exact (HBC.out W).mono fun e w1 h => ⟨h.1, hW.below h.2⟩) | (with_reducible exact (HAC.out W).mono fun e w1 h => ⟨h.1, hW.below h.2⟩) | (with_reducible exact (HCM.out W).mono fun e w1 h => ⟨h.1, hW.below h.2⟩))))
         refine RegionF.wpF_put (fun K' hK' => ?_)
         go_simp
         refine hK' _ ?_
         clear hK' K'))
    refine RegionF.wpF_nil (fun W hW => ?_)
    have HW5 := Aside0.mk hW
    clear hW HEQ2 hne
    go_wp2_with (first | ((with_reducible refine gate_dst (N := 32) rfl ?_); refine Kd.event_run rfl (exec_load rfl rfl (load_addr HL.out.1 HW5.out.a)) ?_) | ((with_reducible refine gate_dst (N := 33) rfl ?_); refine Kd.event_run rfl (exec_load rfl rfl (load_addr HL.out.2.1 HW5.out.b)) ?_))
    refine (HAB.out _).mono ?_
    rintro e w1 ⟨rfl, hB⟩
    replace HW5 := Aside0.mk (HW5.out.below hB)
    clear hB
    cases ab with
    | false =>
      go_wp2_with fail
      refine (known_any _).mono ?_
      rintro e w5 ⟨rfl, hB⟩
      have HB := Aside0.mk (below_step HW5.out.w hB)
      clear hB
      go_wp2_with fail
      go_ret
      exact ⟨rfl, HB.out⟩
    | true =>
      go_wp2_with (first | ((with_reducible refine gate_dst (N := 37) rfl ?_); refine gate_guard (by rfl) ?_; refine Kd.event_run rfl (exec_load rfl rfl (load_addr HL.out.2.1 HW5.out.b)) ?_) | ((with_reducible refine gate_dst (N := 38) rfl ?_); refine gate_guard (by rfl) ?_; refine Kd.event_run rfl (exec_load rfl rfl (load_addr HL.out.2.2 HW5.out.c)) ?_))
      refine (HBC.out _).mono ?_
      rintro e w1 ⟨rfl, hB⟩
      replace HW5 := Aside0.mk (HW5.out.below hB)
      clear hB
      cases bc with
      | false =>
        go_wp2_with fail
        refine (known_any _).mono ?_
        rintro e w5 ⟨rfl, hB⟩
        have HB := Aside0.mk (below_step HW5.out.w hB)
        clear hB
        go_wp2_with fail
        go_ret
        exact ⟨rfl, HB.out⟩
      | true =>
        obtain rfl := HTR.out (by simp) (by simp)
        go_wp2_with (first | ((with_reducible refine gate_dst (N := 43) rfl ?_); refine gate_guard (by rfl) ?_; refine Kd.event_run rfl (exec_load rfl rfl (load_addr HL.out.1 HW5.out.a)) ?_) | ((with_reducible refine gate_dst (N := 44) rfl ?_); refine gate_guard (by rfl) ?_; refine Kd.event_run rfl (exec_load rfl rfl (load_addr HL.out.2.2 HW5.out.c)) ?_))
        refine (HAC.out _).mono ?_
        rintro e w1 ⟨rfl, hB⟩
        replace HW5 := Aside0.mk (HW5.out.below hB)
        clear hB
        go_wp2_with fail
        refine (known_any _).mono ?_
        rintro e w5 ⟨rfl, hB⟩
        have HB := Aside0.mk (below_step HW5.out.w hB)
        clear hB
        go_wp2_with fail
        go_ret
        exact ⟨rfl, HB.out⟩
end Go.Proofs.Ytfnpjfcfgilchaa.AddrW
