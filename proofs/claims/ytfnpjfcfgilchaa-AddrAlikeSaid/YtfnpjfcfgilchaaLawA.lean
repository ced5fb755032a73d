/- AddrAlike: walked. -/
import Derived.Test.YtfnpjfcfgilchaaLawM
namespace Go.Proofs.Ytfnpjfcfgilchaa.AddrW
open Go.RowKit Go.Proofs.Ytfnpjfcfgilchaa.Mem Go.Proofs.Ytfnpjfcfgilchaa.AddrO Go.Proofs.Ytfnpjfcfgilchaa.AddrEq Go.Proofs.Ytfnpjfcfgilchaa.AddrM Go.Proofs.Ytfnpjfcfgilchaa.Bits Go.Proofs.Ytfnpjfcfgilchaa.Help Go.Proofs.YtfnpjfcfgilchaaW.PrintWords Go.Proofs.YtfnpjfcfgilchaaW.PrintLast Go.Proofs.YtfnpjfcfgilchaaW.PrintMore
set_option linter.unusedVariables false
set_option linter.unusedSimpArgs false
theorem Count_any (k n : Int) (w : World) (hn : 1 ≤ n) (hn1 : n ≤ 9223372036854775807) (hk0 : -9223372036854775808 ≤ k) (hk1 : k ≤ 9223372036854775807) :
    Calls Try.prog 24 #[.int .i64 k, .int .i64 n] w fun e w' => e = .returned (.int .i64 (k % n)) ∧ w' = w := by
  have d1 : decide (n < 1) = false := by simp; omega
  have d2 : (n == 0) = false := by simp; omega
  have h1 : k.tmod n < n := Int.tmod_lt_of_pos k (by omega)
  have h2 : -n < k.tmod n := by
    have := Int.tmod_lt_of_pos (-k) (b := n) (by omega)
    rw [Int.neg_tmod] at this
    omega
  have h3 := Int.tmod_add_mul_tdiv k n
  by_cases h : k.tmod n < 0
  · have e : Aside0 (k % n = k.tmod n + n) := ⟨by
      rw [Int.emod_eq_iff (by omega)]
      exact ⟨by omega, by rw [Int.ofNat_natAbs_of_nonneg (by omega)]; omega, by
        rw [show k.tmod n + n - k = n * (1 - k.tdiv n) by rw [Int.mul_sub, Int.mul_one]; omega]; exact Int.dvd_mul_right _ _⟩⟩
    have d3 : decide (k.tmod n < 0) = true := by simpa using h
    have hw : IntKind.i64.wrap (k.tmod n + n) = k.tmod n + n := IntWalk.i64_in _ (by omega)
    clear h3
    go_enter Try.func24, Try.ntmps24
    go_wp2_with fail
    go_ret
    exact ⟨by rw [e.out]; rfl, rfl⟩
  · have e : Aside0 (k % n = k.tmod n) := ⟨by
      rw [Int.emod_eq_iff (by omega)]
      exact ⟨by omega, by rw [Int.ofNat_natAbs_of_nonneg (by omega)]; omega, by
        rw [show k.tmod n - k = n * (- k.tdiv n) by rw [Int.mul_neg]; omega]; exact Int.dvd_mul_right _ _⟩⟩
    have d3 : decide (k.tmod n < 0) = false := by simpa using h
    clear h3
    go_enter Try.func24, Try.ntmps24
    go_wp2_with fail
    go_ret
    exact ⟨by rw [e.out]; rfl, rfl⟩
theorem mB_full {v : Bool} {bs : List Int} (ha : AllB bs) (hl : bs.length = 16) (hr : rightB v bs = true) : maskL bs (8 * (sz v : Int)).toNat = bs := by
  cases v with
  | true => exact mask_full hl (by decide)
  | false =>
    refine list_ext (mask_len _ _) hl fun j hj => ?_
    rw [mask_getD _ _ hj]
    by_cases h : j < 4
    · exact bm_all _ (by simp [sz]; omega)
    · rw [rightB, List.all_eq_true] at hr
      have h1 : bs.getD j 0 = 0 := by
        rw [List.getD_eq_getElem?_getD, List.getElem?_eq_getElem (by omega)]
        have h2 := hr (bs[j]'(by omega)) (by
          rw [List.mem_iff_getElem]
          exact ⟨j - 4, by simp [sz, hl]; omega, by simp only [List.getElem_drop, sz]; congr 1; simp; omega⟩)
        simpa using h2
      rw [h1]; simp [bm]
theorem wi_no {v : Bool} {bs : List Int} {u : Bool} {cs : List Int} {n : Int} (h : ¬ (okM v bs n ∧ okM u cs n ∧ v = u)) : wiB v bs u cs n = false := by
  unfold wiB
  by_cases h1 : okM v bs n
  · by_cases h2 : okM u cs n
    · have h3 : v ≠ u := fun e => h ⟨h1, h2, e⟩
      simp [mV_ok h1, mV_ok h2, h3]
    · simp [mE, h2]
  · simp [mE, h1]
theorem wi_ok {v : Bool} {bs cs : List Int} {n : Int} (h1 : okM v bs n) (h2 : okM v cs n) : wiB v bs v cs n = decide (maskL bs n.toNat = maskL cs n.toNat) := by
  simp [wiB, mE, h1, h2, mV, mB]
set_option maxHeartbeats 8000000 in
theorem AddrAlike_any (v : Bool) (bs : List Int) (u : Bool) (cs : List Int) (n m : Int) (w : World) (hb : OkA bs) (hc : OkA cs) (hn : -9223372036854775808 ≤ n ∧ n ≤ 9223372036854775807) (hm : -9223372036854775808 ≤ m ∧ m ≤ 9223372036854775807) :
    Calls Try.prog 6 #[.agg (av v bs), .agg (av u cs), .int .i64 n, .int .i64 m] w fun e w' => e = .returned (.bool true) ∧ Below w.heap.size w w' := by
  have HM := Aside0.mk (((Mem.nil w).new (.cells (av v bs) 25)).new' (.cells (av u cs) 25) (g := w.heap.size + 1) (Array.size_push _).symm)
  simp only [List.nil_append, List.cons_append] at HM
  have H := Aside0.mk (And.intro hb (And.intro hc (And.intro hn hm)))
  have HRA := Aside0.mk (fun W => Right_any v bs W hb.l)
  have HRB := Aside0.mk (fun W => Right_any u cs W hc.l)
  have HKN := Aside0.mk (fun W => known_any W)
  have HEQ := Aside0.mk (fun w : World => eq_addr v u hb.l hc.l w)
  by_cases hq : rightB v bs = true ∧ rightB u cs = true ∧ v = u
  · obtain ⟨h1, h2, rfl⟩ := hq
    rw [h1] at HRA
    rw [h2] at HRB
    have k1 : ∀ k : Int, 0 ≤ k → k ≤ 8 * (sz v : Int) → okM v bs k ∧ okM v cs k := fun k a b => ⟨⟨h1, a, b⟩, ⟨h2, a, b⟩⟩
    have hs := sz_int v
    have hs2 : 32 ≤ 8 * (sz v : Int) := by cases v <;> decide
    have hn2 := Int.emod_nonneg n (b := 8 * (sz v : Int) + 1) (by omega)
    have hn3 := Int.emod_lt_of_pos n (b := 8 * (sz v : Int) + 1) (by omega)
    have HC1 := Aside0.mk (fun W => Count_any n (8 * (sz v : Int) + 1) W (by omega) (by omega) hn.1 hn.2)
    generalize hnn : n % (8 * (sz v : Int) + 1) = n1 at *
    have hm2 := Int.emod_nonneg m (b := n1 + 1) (by omega)
    have hm3 := Int.emod_lt_of_pos m (b := n1 + 1) (by omega)
    have HC2 := Aside0.mk (fun W => Count_any m (n1 + 1) W (by omega) (by omega) hm.1 hm.2)
    generalize hmm : m % (n1 + 1) = m1 at *
    have e0 : wiB v bs v cs 0 = true := by rw [wi_ok (k1 0 (by omega) (by omega)).1 (k1 0 (by omega) (by omega)).2, show (0 : Int).toNat = 0 from rfl, mask_zero hb.a, mask_zero hc.a]; simp
    have ea : wiB v bs v cs (8 * (sz v : Int)) = decide (bs = cs) := by
      have q1 : maskL bs (8 * (sz v : Int)).toNat = bs := mB_full hb.a hb.l h1
      have q2 : maskL cs (8 * (sz v : Int)).toNat = cs := mB_full hc.a hc.l h2
      rw [wi_ok (k1 _ (by omega) (by omega)).1 (k1 _ (by omega) (by omega)).2, q1, q2]
    have em : wiB v bs v cs n1 = true → wiB v bs v cs m1 = true := by
      rw [wi_ok (k1 _ hn2 (by omega)).1 (k1 _ hn2 (by omega)).2, wi_ok (k1 _ hm2 (by omega)).1 (k1 _ hm2 (by omega)).2, decide_eq_true_iff, decide_eq_true_iff]
      intro q
      have q2 := congrArg (fun x => maskL x m1.toNat) q
      simp only [mask_mask hb.a, mask_mask hc.a] at q2
      rwa [Nat.min_eq_right (by omega)] at q2
    have ei : wiB v bs v cs (-1) = false := wi_no (fun h => by have := h.1.2.1; omega)
    have ej : wiB v bs v cs (8 * (sz v : Int) + 1) = false := wi_no (fun h => by have := h.1.2.2; omega)
    have HW0 := Aside0.mk (fun W => Within_any v bs v cs 0 W hb.l hb.a hc.l hc.a (by omega) (by omega))
    have HWA := Aside0.mk (fun W => Within_any v bs v cs (8 * (sz v : Int)) W hb.l hb.a hc.l hc.a (by omega) (by omega))
    have HWN := Aside0.mk (fun W => Within_any v bs v cs n1 W hb.l hb.a hc.l hc.a (by omega) (by omega))
    have HWM := Aside0.mk (fun W => Within_any v bs v cs m1 W hb.l hb.a hc.l hc.a (by omega) (by omega))
    have HWI := Aside0.mk (fun W => Within_any v bs v cs (-1) W hb.l hb.a hc.l hc.a (by omega) (by omega))
    have HWJ := Aside0.mk (fun W => Within_any v bs v cs (8 * (sz v : Int) + 1) W hb.l hb.a hc.l hc.a (by omega) (by omega))
    rw [e0] at HW0
    rw [ea] at HWA
    rw [ei] at HWI
    rw [ej] at HWJ
    generalize wiB v bs v cs n1 = bn at *
    generalize wiB v bs v cs m1 = bm at *
    have HEM := Aside0.mk em
    have hvv : (v == v) = true := by simp
    have hvn : (v != v) = false := by simp
    simp only [hvv, Bool.true_and] at HEQ
    generalize decide (bs = cs) = q at *
    have hqq : (q == q) = true := by simp
    clear hb hc hn hm h1 h2 k1 e0 ea em ei ej hnn hmm hvv
    have c0 : Aside0 (∀ W : World, Mem w [Blk w.heap.size (.cells (av v bs) 25), Blk (w.heap.size + 1) (.cells (av v cs) 25)] W → W.cell? ⟨w.heap.size, 0, none⟩ = some (.bool v)) := ⟨fun W hW => (blk_cell (hW.get 0 rfl) 0).trans (av_at0 _ _)⟩
    have c1 : Aside0 (∀ W : World, Mem w [Blk w.heap.size (.cells (av v bs) 25), Blk (w.heap.size + 1) (.cells (av v cs) 25)] W → W.cell? ⟨w.heap.size + 1, 0, none⟩ = some (.bool v)) := ⟨fun W hW => (blk_cell (hW.get 1 rfl) 0).trans (av_at0 _ _)⟩
    go_enter Try.func6, Try.ntmps6
    go_wp2_with (first | ((with_reducible refine gate_load (t := 25) rfl ?_); (try refine gate_guard (by rfl) ?_); first | (refine Kd.event_run rfl (exec_load rfl rfl (load_ok H.out.1.l (HM.out.get 0 rfl))) ?_)) | ((with_reducible refine gate_store (t := 25) rfl ?_); refine event_skip rfl (exec_store rfl rfl rfl HST.out) ?_) | fail)
    refine (HRA.out _).mono ?_
    rintro e w1 ⟨rfl, hB⟩
    replace HM := Aside0.mk (HM.out.below hB)
    clear hB
    go_wp2_with (first | ((with_reducible refine gate_load (t := 25) rfl ?_); (try refine gate_guard (by rfl) ?_); first | (refine Kd.event_run rfl (exec_load rfl rfl (load_ok H.out.2.1.l (HM.out.get 1 rfl))) ?_)) | ((with_reducible refine gate_store (t := 25) rfl ?_); refine event_skip rfl (exec_store rfl rfl rfl HST.out) ?_) | fail)
    refine (HRB.out _).mono ?_
    rintro e w1 ⟨rfl, hB⟩
    replace HM := Aside0.mk (HM.out.below hB)
    clear hB
    have d0 := c0.out _ HM.out
    have d1 := c1.out _ HM.out
    clear c0 c1
    have hs8 : 8 * (sz v : Int) ≤ 128 := hs
    have hw33 : IntKind.i64.wrap 33 = 33 := by decide
    have hw129 : IntKind.i64.wrap 129 = 129 := by decide
    cases v with
    | false =>
      have hsz : 8 * (sz false : Int) = 32 := by decide
      rw [hsz] at HC1 HWA HWJ hn3
      rw [show (32 : Int) + 1 = 33 from rfl] at HWJ HC1
      go_wp2_with fail
      refine (HC1.out _).mono ?_
      rintro e w1 ⟨rfl, rfl⟩
      go_wp2_with fail
      refine (HC2.out _).mono ?_
      rintro e w1 ⟨rfl, rfl⟩
      clear HC1 HC2 d0 d1
      go_upto_region 8 with fail
      cases bn with
      | false =>
        refine RegionF.region_F (F := (Mem w _)) 43 (by kernel_rfl) (by kernel_rfl) HM.out.drew ?_
        simp only [List.take_succ_cons, List.take_zero, List.drop_succ_cons, List.drop_zero]
        clear HM
        repeat (first
          | (refine RegionF.wpF_skip (by rfl) ?_
             refine RegionF.wpF_put (fun K' hK' => ?_)
             go_simp
             refine hK' _ ?_
             clear hK' K')
          | (apply RegionF.wpF_step
             · rfl
             · (intro W hW; first | (rw [exec_load rfl rfl (load_ok H.out.1.l (hW.get 0 rfl))]; exact RegionF.GivesF.value rfl hW) | (rw [exec_load rfl rfl (load_ok H.out.2.1.l (hW.get 1 rfl))]; exact RegionF.GivesF.value rfl hW) | (rw [exec_eql Try.eqGuardType25 rfl rfl rfl (HEQ.out W)]; exact RegionF.GivesF.value rfl hW) | (go_simp; first | exact RegionF.GivesF.value rfl hW | (apply RegionF.GivesF.enter; first | (with_reducible exact (HW0.out W).mono fun e w1 h => ⟨h.1, hW.below h.2⟩) | (with_reducible exact (HWA.out W).mono fun e w1 h => ⟨h.1, hW.below h.2⟩) | (with_reducible exact (HWN.out W).mono fun e w1 h => ⟨h.1, hW.below h.2⟩) | (with_reducible exact (HWM.out W).mono fun e w1 h => ⟨h.1, hW.below h.2⟩) | (with_reducible exact (HWI.out W).mono fun e w1 h => ⟨h.1, hW.below h.2⟩) | (with_reducible exact (HWJ.out W).mono fun e w1 h => ⟨h.1, hW.below h.2⟩) | (with_reducible exact (HKN.out W).mono fun e w1 h => ⟨h.1, hW.below h.2⟩))))
             refine RegionF.wpF_put (fun K' hK' => ?_)
             go_simp
             refine hK' _ ?_
             clear hK' K'))
        refine RegionF.wpF_nil (fun W hW => ?_)
        have HM := Aside0.mk hW
        clear hW
        go_wp2_with fail
        go_ret
        exact ⟨rfl, HM.out.b⟩
      | true =>
        obtain rfl := HEM.out (by simp)
        refine RegionF.region_F (F := (Mem w _)) 43 (by kernel_rfl) (by kernel_rfl) HM.out.drew ?_
        simp only [List.take_succ_cons, List.take_zero, List.drop_succ_cons, List.drop_zero]
        clear HM
        repeat (first
          | (refine RegionF.wpF_skip (by rfl) ?_
             refine RegionF.wpF_put (fun K' hK' => ?_)
             go_simp
             refine hK' _ ?_
             clear hK' K')
          | (apply RegionF.wpF_step
             · rfl
             · (intro W hW; first | (rw [exec_load rfl rfl (load_ok H.out.1.l (hW.get 0 rfl))]; exact RegionF.GivesF.value rfl hW) | (rw [exec_load rfl rfl (load_ok H.out.2.1.l (hW.get 1 rfl))]; exact RegionF.GivesF.value rfl hW) | (rw [exec_eql Try.eqGuardType25 rfl rfl rfl (HEQ.out W)]; exact RegionF.GivesF.value rfl hW) | (go_simp; first | exact RegionF.GivesF.value rfl hW | (apply RegionF.GivesF.enter; first | (with_reducible exact (HW0.out W).mono fun e w1 h => ⟨h.1, hW.below h.2⟩) | (with_reducible exact (HWA.out W).mono fun e w1 h => ⟨h.1, hW.below h.2⟩) | (with_reducible exact (HWN.out W).mono fun e w1 h => ⟨h.1, hW.below h.2⟩) | (with_reducible exact (HWM.out W).mono fun e w1 h => ⟨h.1, hW.below h.2⟩) | (with_reducible exact (HWI.out W).mono fun e w1 h => ⟨h.1, hW.below h.2⟩) | (with_reducible exact (HWJ.out W).mono fun e w1 h => ⟨h.1, hW.below h.2⟩) | (with_reducible exact (HKN.out W).mono fun e w1 h => ⟨h.1, hW.below h.2⟩))))
             refine RegionF.wpF_put (fun K' hK' => ?_)
             go_simp
             refine hK' _ ?_
             clear hK' K'))
        refine RegionF.wpF_nil (fun W hW => ?_)
        have HM := Aside0.mk hW
        clear hW
        go_wp2_with fail
        go_ret
        exact ⟨rfl, HM.out.b⟩
    | true =>
      have hsz : 8 * (sz true : Int) = 128 := by decide
      rw [hsz] at HC1 HWA HWJ hn3
      rw [show (128 : Int) + 1 = 129 from rfl] at HWJ HC1
      go_wp2_with fail
      refine (HC1.out _).mono ?_
      rintro e w1 ⟨rfl, rfl⟩
      go_wp2_with fail
      refine (HC2.out _).mono ?_
      rintro e w1 ⟨rfl, rfl⟩
      clear HC1 HC2 d0 d1
      go_upto_region 8 with fail
      cases bn with
      | false =>
        refine RegionF.region_F (F := (Mem w _)) 43 (by kernel_rfl) (by kernel_rfl) HM.out.drew ?_
        simp only [List.take_succ_cons, List.take_zero, List.drop_succ_cons, List.drop_zero]
        clear HM
        repeat (first
          | (refine RegionF.wpF_skip (by rfl) ?_
             refine RegionF.wpF_put (fun K' hK' => ?_)
             go_simp
             refine hK' _ ?_
             clear hK' K')
          | (apply RegionF.wpF_step
             · rfl
             · (intro W hW; first | (rw [exec_load rfl rfl (load_ok H.out.1.l (hW.get 0 rfl))]; exact RegionF.GivesF.value rfl hW) | (rw [exec_load rfl rfl (load_ok H.out.2.1.l (hW.get 1 rfl))]; exact RegionF.GivesF.value rfl hW) | (rw [exec_eql Try.eqGuardType25 rfl rfl rfl (HEQ.out W)]; exact RegionF.GivesF.value rfl hW) | (go_simp; first | exact RegionF.GivesF.value rfl hW | (apply RegionF.GivesF.enter; first | (with_reducible exact (HW0.out W).mono fun e w1 h => ⟨h.1, hW.below h.2⟩) | (with_reducible exact (HWA.out W).mono fun e w1 h => ⟨h.1, hW.below h.2⟩) | (with_reducible exact (HWN.out W).mono fun e w1 h => ⟨h.1, hW.below h.2⟩) | (with_reducible exact (HWM.out W).mono fun e w1 h => ⟨h.1, hW.below h.2⟩) | (with_reducible exact (HWI.out W).mono fun e w1 h => ⟨h.1, hW.below h.2⟩) | (with_reducible exact (HWJ.out W).mono fun e w1 h => ⟨h.1, hW.below h.2⟩) | (with_reducible exact (HKN.out W).mono fun e w1 h => ⟨h.1, hW.below h.2⟩))))
             refine RegionF.wpF_put (fun K' hK' => ?_)
             go_simp
             refine hK' _ ?_
             clear hK' K'))
        refine RegionF.wpF_nil (fun W hW => ?_)
        have HM := Aside0.mk hW
        clear hW
        go_wp2_with fail
        go_ret
        exact ⟨rfl, HM.out.b⟩
      | true =>
        obtain rfl := HEM.out (by simp)
        refine RegionF.region_F (F := (Mem w _)) 43 (by kernel_rfl) (by kernel_rfl) HM.out.drew ?_
        simp only [List.take_succ_cons, List.take_zero, List.drop_succ_cons, List.drop_zero]
        clear HM
        repeat (first
          | (refine RegionF.wpF_skip (by rfl) ?_
             refine RegionF.wpF_put (fun K' hK' => ?_)
             go_simp
             refine hK' _ ?_
             clear hK' K')
          | (apply RegionF.wpF_step
             · rfl
             · (intro W hW; first | (rw [exec_load rfl rfl (load_ok H.out.1.l (hW.get 0 rfl))]; exact RegionF.GivesF.value rfl hW) | (rw [exec_load rfl rfl (load_ok H.out.2.1.l (hW.get 1 rfl))]; exact RegionF.GivesF.value rfl hW) | (rw [exec_eql Try.eqGuardType25 rfl rfl rfl (HEQ.out W)]; exact RegionF.GivesF.value rfl hW) | (go_simp; first | exact RegionF.GivesF.value rfl hW | (apply RegionF.GivesF.enter; first | (with_reducible exact (HW0.out W).mono fun e w1 h => ⟨h.1, hW.below h.2⟩) | (with_reducible exact (HWA.out W).mono fun e w1 h => ⟨h.1, hW.below h.2⟩) | (with_reducible exact (HWN.out W).mono fun e w1 h => ⟨h.1, hW.below h.2⟩) | (with_reducible exact (HWM.out W).mono fun e w1 h => ⟨h.1, hW.below h.2⟩) | (with_reducible exact (HWI.out W).mono fun e w1 h => ⟨h.1, hW.below h.2⟩) | (with_reducible exact (HWJ.out W).mono fun e w1 h => ⟨h.1, hW.below h.2⟩) | (with_reducible exact (HKN.out W).mono fun e w1 h => ⟨h.1, hW.below h.2⟩))))
             refine RegionF.wpF_put (fun K' hK' => ?_)
             go_simp
             refine hK' _ ?_
             clear hK' K'))
        refine RegionF.wpF_nil (fun W hW => ?_)
        have HM := Aside0.mk hW
        clear hW
        go_wp2_with fail
        go_ret
        exact ⟨rfl, HM.out.b⟩
  · have HNO := Aside0.mk (fun W => Within_any v bs u cs 0 W hb.l hb.a hc.l hc.a (by omega) (by omega))
    rw [wi_no (fun h => hq ⟨h.1.1, h.2.1.1, h.2.2⟩)] at HNO
    have c0 : Aside0 (∀ W : World, Mem w [Blk w.heap.size (.cells (av v bs) 25), Blk (w.heap.size + 1) (.cells (av u cs) 25)] W → W.cell? ⟨w.heap.size, 0, none⟩ = some (.bool v)) := ⟨fun W hW => (blk_cell (hW.get 0 rfl) 0).trans (av_at0 _ _)⟩
    have c1 : Aside0 (∀ W : World, Mem w [Blk w.heap.size (.cells (av v bs) 25), Blk (w.heap.size + 1) (.cells (av u cs) 25)] W → W.cell? ⟨w.heap.size + 1, 0, none⟩ = some (.bool u)) := ⟨fun W hW => (blk_cell (hW.get 1 rfl) 0).trans (av_at0 _ _)⟩
    clear hb hc hn hm HEQ
    go_enter Try.func6, Try.ntmps6
    go_wp2_with (first | ((with_reducible refine gate_load (t := 25) rfl ?_); (try refine gate_guard (by rfl) ?_); first | (refine Kd.event_run rfl (exec_load rfl rfl (load_ok H.out.1.l (HM.out.get 0 rfl))) ?_)) | ((with_reducible refine gate_store (t := 25) rfl ?_); refine event_skip rfl (exec_store rfl rfl rfl HST.out) ?_) | fail)
    refine (HRA.out _).mono ?_
    rintro e w1 ⟨rfl, hB⟩
    replace HM := Aside0.mk (HM.out.below hB)
    clear hB
    by_cases h1 : rightB v bs = true
    · rw [h1]
      go_wp2_with (first | ((with_reducible refine gate_load (t := 25) rfl ?_); (try refine gate_guard (by rfl) ?_); first | (refine Kd.event_run rfl (exec_load rfl rfl (load_ok H.out.2.1.l (HM.out.get 1 rfl))) ?_)) | ((with_reducible refine gate_store (t := 25) rfl ?_); refine event_skip rfl (exec_store rfl rfl rfl HST.out) ?_) | fail)
      refine (HRB.out _).mono ?_
      rintro e w1 ⟨rfl, hB⟩
      replace HM := Aside0.mk (HM.out.below hB)
      clear hB
      by_cases h2 : rightB u cs = true
      · rw [h2]
        have h3 : (v == u) = false := by simpa using fun e => hq ⟨h1, h2, e⟩
        have d0 := c0.out _ HM.out
        have d1 := c1.out _ HM.out
        clear c0 c1 h1 h2 hq
        go_wp2_with (first | ((with_reducible refine gate_load (t := 25) rfl ?_); (try refine gate_guard (by rfl) ?_); first | (refine Kd.event_run rfl (exec_load rfl rfl (load_ok H.out.1.l (HM.out.get 0 rfl))) ?_) | (refine Kd.event_run rfl (exec_load rfl rfl (load_ok H.out.2.1.l (HM.out.get 1 rfl))) ?_)) | ((with_reducible refine gate_store (t := 25) rfl ?_); refine event_skip rfl (exec_store rfl rfl rfl HST.out) ?_) | fail)
        refine (HNO.out _).mono ?_
        rintro e w1 ⟨rfl, hB⟩
        replace HM := Aside0.mk (HM.out.below hB)
        clear hB
        go_wp2_with fail
        refine (HKN.out _).mono ?_
        rintro e w1 ⟨rfl, hB⟩
        replace HM := Aside0.mk (HM.out.below hB)
        clear hB
        go_wp2_with fail
        go_ret
        exact ⟨rfl, HM.out.b⟩
      · rw [show rightB u cs = false by simpa using h2]
        clear c0 c1 h1 h2 hq
        go_wp2_with (first | ((with_reducible refine gate_load (t := 25) rfl ?_); (try refine gate_guard (by rfl) ?_); first | (refine Kd.event_run rfl (exec_load rfl rfl (load_ok H.out.1.l (HM.out.get 0 rfl))) ?_) | (refine Kd.event_run rfl (exec_load rfl rfl (load_ok H.out.2.1.l (HM.out.get 1 rfl))) ?_)) | ((with_reducible refine gate_store (t := 25) rfl ?_); refine event_skip rfl (exec_store rfl rfl rfl HST.out) ?_) | fail)
        refine (HNO.out _).mono ?_
        rintro e w1 ⟨rfl, hB⟩
        replace HM := Aside0.mk (HM.out.below hB)
        clear hB
        go_wp2_with fail
        refine (HKN.out _).mono ?_
        rintro e w1 ⟨rfl, hB⟩
        replace HM := Aside0.mk (HM.out.below hB)
        clear hB
        go_wp2_with fail
        go_ret
        exact ⟨rfl, HM.out.b⟩
    · rw [show rightB v bs = false by simpa using h1]
      clear c0 c1 h1 hq
      go_wp2_with (first | ((with_reducible refine gate_load (t := 25) rfl ?_); (try refine gate_guard (by rfl) ?_); first | (refine Kd.event_run rfl (exec_load rfl rfl (load_ok H.out.1.l (HM.out.get 0 rfl))) ?_) | (refine Kd.event_run rfl (exec_load rfl rfl (load_ok H.out.2.1.l (HM.out.get 1 rfl))) ?_)) | ((with_reducible refine gate_store (t := 25) rfl ?_); refine event_skip rfl (exec_store rfl rfl rfl HST.out) ?_) | fail)
      refine (HNO.out _).mono ?_
      rintro e w1 ⟨rfl, hB⟩
      replace HM := Aside0.mk (HM.out.below hB)
      clear hB
      go_wp2_with fail
      refine (HKN.out _).mono ?_
      rintro e w1 ⟨rfl, hB⟩
      replace HM := Aside0.mk (HM.out.below hB)
      clear hB
      go_wp2_with fail
      go_ret
      exact ⟨rfl, HM.out.b⟩
end Go.Proofs.Ytfnpjfcfgilchaa.AddrW
