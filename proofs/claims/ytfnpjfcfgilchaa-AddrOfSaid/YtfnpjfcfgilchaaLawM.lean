/- AddrMask: walked. -/
import Derived.Test.YtfnpjfcfgilchaaLawL
import Derived.Test.YtfnpjfcfgilchaaBase
namespace Go.Proofs.Ytfnpjfcfgilchaa.AddrW
open Go.RowKit Go.Proofs.Ytfnpjfcfgilchaa.Mem Go.Proofs.Ytfnpjfcfgilchaa.AddrO Go.Proofs.Ytfnpjfcfgilchaa.AddrEq Go.Proofs.Ytfnpjfcfgilchaa.AddrM Go.Proofs.Ytfnpjfcfgilchaa.Bits Go.Proofs.Ytfnpjfcfgilchaa.Help Go.Proofs.YtfnpjfcfgilchaaW.PrintWords Go.Proofs.YtfnpjfcfgilchaaW.PrintLast Go.Proofs.YtfnpjfcfgilchaaW.PrintMore
set_option linter.unusedVariables false
set_option linter.unusedSimpArgs false
theorem right_mask {v : Bool} {bs : List Int} (ha : AllB bs) {k : Nat} (hk : k ≤ 8 * sz v) : rightB v (maskL bs k) = true := by
  rw [rightB, List.all_eq_true]
  intro x hx
  obtain ⟨j, hj, rfl⟩ := List.mem_iff_getElem.1 hx
  have hl : (maskL bs k).length = 16 := mask_len bs k
  simp only [List.length_drop, hl] at hj
  have h := mask_getD bs k (j := sz v + j) (by omega)
  rw [show k - 8 * (sz v + j) = 0 by omega, bm_zero (getD_b ha _)] at h
  rw [List.getElem_drop]
  rw [List.getD_eq_getElem?_getD, List.getElem?_eq_getElem (by omega)] at h
  simpa using h
theorem okM_mask {v : Bool} {bs : List Int} (ha : AllB bs) {n : Int} (hn : okM v bs n) (m : Int) : okM v (mB v bs n) m ↔ okM v bs m := by
  have h1 : rightB v (mB v bs n) = true := by rw [mB, if_pos hn]; exact right_mask ha (by have := hn.2.2; omega)
  simp only [okM, h1, hn.1]
theorem mE_mask {v : Bool} {bs : List Int} (ha : AllB bs) {n : Int} (hn : okM v bs n) (m : Int) : mE v (mB v bs n) m = mE v bs m := by
  simp only [mE, okM_mask ha hn]
theorem mE_zero (v : Bool) (bs : List Int) (n : Int) : mE v bs n = 0 ↔ okM v bs n := by
  unfold mE; split <;> simp_all
theorem mB_mask {v : Bool} {bs : List Int} (ha : AllB bs) {n m : Int} (hn : okM v bs n) (hm : okM v bs m) : mB v (mB v bs n) m = if m ≤ n then mB v bs m else mB v bs n := by
  rw [mB, if_pos ((okM_mask ha hn m).2 hm)]
  have e1 : mB v bs n = maskL bs n.toNat := if_pos hn
  have e2 : mB v bs m = maskL bs m.toNat := if_pos hm
  rw [e1, e2, mask_mask ha]
  have := hn.2.1; have := hm.2.1
  split
  · congr 1; omega
  · congr 1; omega
theorem mV_ok {v : Bool} {bs : List Int} {n : Int} (hn : okM v bs n) : mV v bs n = v := if_pos hn
theorem load_ok {w : World} {g : Nat} {v : Bool} {bs : List Int} (hl : bs.length = 16) (hb : Blk g (.cells (av v bs) 25 (0, 0)) w) : (loadVar 25 ⟨g, 0, none⟩).run Try.prog w = .ok (.agg (av v bs)) w := load_addr hl hb
set_option maxHeartbeats 8000000 in
theorem AddrMask_any (v : Bool) (bs : List Int) (u : Bool) (cs : List Int) (n m : Int) (w : World) (hb : OkA bs) (hc : OkA cs) (hn : -9223372036854775808 ≤ n ∧ n ≤ 9223372036854775807) (hm : -9223372036854775808 ≤ m ∧ m ≤ 9223372036854775807) :
    Calls Try.prog 5 #[.agg (av v bs), .agg (av u cs), .int .i64 n, .int .i64 m] w fun e w' => e = .returned (.bool true) ∧ Below w.heap.size w w' := by
  have HM := Aside0.mk (((Mem.nil w).new (.cells (av v bs) 25)).new' (.cells (av u cs) 25) (g := w.heap.size + 1) (Array.size_push _).symm)
  simp only [List.nil_append, List.cons_append] at HM
  have H := Aside0.mk (And.intro hb (And.intro hc (And.intro hn hm)))
  have HT := Aside0.mk (fun W => Mask_any v bs n W hb.l hb.a hn.1 hn.2)
  have HR := Aside0.mk (fun W => RefMask_any v bs n W hb.l hb.a hn.1 hn.2)
  have HWI := Aside0.mk (fun W => Within_any v bs u cs n W hb.l hb.a hc.l hc.a hn.1 hn.2)
  have HWR := Aside0.mk (fun W => RefWithin_any v bs u cs n W hb.l hb.a hc.l hc.a hn.1 hn.2)
  have HX : Aside0 (OkA (mB v bs n)) := ⟨⟨mB_len _ _ _, mB_all v hb.a n⟩⟩
  have HE : Aside0 (mE v bs n = 0 → okM v bs n) := ⟨(mE_zero v bs n).1⟩
  clear hb hc hn hm
  generalize hwi : wiB v bs u cs n = wi at *
  clear hwi
  have hw1 : (wi != wi) = false := by simp
  go_enter Try.func5, Try.ntmps5
  go_wp2_with (first | ((with_reducible refine gate_load (t := 25) rfl ?_); (try refine gate_guard (by rfl) ?_); first | (refine Kd.event_run rfl (exec_load rfl rfl (load_ok H.out.1.l (HM.out.get 0 rfl))) ?_)) | ((with_reducible refine gate_store (t := 25) rfl ?_); refine event_skip rfl (exec_store rfl rfl rfl HST.out) ?_) | fail)
  refine (HT.out _).mono ?_
  rintro e w1 ⟨rfl, hB⟩
  replace HM := Aside0.mk (HM.out.below hB)
  clear hB
  have HST := Aside0.mk (store_new w1 rfl (v := mV v bs n) (u := false) (bs := mB v bs n) HX.out.l zs16)
  replace HM := Aside0.mk (HM.out.new (.cells (av (mV v bs n) (mB v bs n)) 25))
  simp only [List.nil_append, List.cons_append] at HM
  go_wp2_with (first | ((with_reducible refine gate_load (t := 25) rfl ?_); (try refine gate_guard (by rfl) ?_); first | (refine Kd.event_run rfl (exec_load rfl rfl (load_ok H.out.1.l (HM.out.get 0 rfl))) ?_)) | ((with_reducible refine gate_store (t := 25) rfl ?_); refine event_skip rfl (exec_store rfl rfl rfl HST.out) ?_) | fail)
  refine (HR.out _).mono ?_
  rintro e w1 ⟨rfl, hB⟩
  replace HM := Aside0.mk (HM.out.below hB)
  clear hB
  clear HST
  have HST := Aside0.mk (store_new w1 rfl (v := mV v bs n) (u := false) (bs := mB v bs n) HX.out.l zs16)
  replace HM := Aside0.mk (HM.out.new (.cells (av (mV v bs n) (mB v bs n)) 25))
  simp only [List.nil_append, List.cons_append] at HM
  go_upto_region 3 with (first | ((with_reducible refine gate_store (t := 25) rfl ?_); refine event_skip rfl (exec_store rfl rfl rfl HST.out) ?_))
  have HQ : Aside0 (∀ w : World, (Op.equalIn 10000 25 (.agg (av (mV v bs n) (mB v bs n))) (.agg (av (mV v bs n) (mB v bs n)))).run Try.prog w = .ok true w) := ⟨fun w => by rw [eq_addr _ _ HX.out.l HX.out.l w]; simp⟩
  generalize he1 : mE v bs n = e1 at *
  have he2 : (e1 != e1) = false := by simp
  refine RegionF.region_F (F := (Mem w _)) 18 (by kernel_rfl) (by kernel_rfl) HM.out.drew ?_
  simp only [List.take_succ_cons, List.take_zero, List.drop_succ_cons, List.drop_zero]
  clear HM HST
  repeat (first
    | (refine RegionF.wpF_skip (by rfl) ?_
       refine RegionF.wpF_put (fun K' hK' => ?_)
       go_simp
       refine hK' _ ?_
       clear hK' K')
    | (apply RegionF.wpF_step
       · rfl
       · (intro W hW; first | (rw [exec_load rfl rfl (load_ok H.out.1.l (hW.get 0 rfl))]; exact RegionF.GivesF.value rfl hW) | (rw [exec_load rfl rfl (load_ok H.out.2.1.l (hW.get 1 rfl))]; exact RegionF.GivesF.value rfl hW) | (rw [exec_load rfl rfl (load_ok HX.out.l (hW.get 2 rfl))]; exact RegionF.GivesF.value rfl hW) | (rw [exec_load rfl rfl (load_ok HX.out.l (hW.get 3 rfl))]; exact RegionF.GivesF.value rfl hW) | (rw [exec_neq Try.eqGuardType25 rfl rfl rfl (HQ.out W)]; exact RegionF.GivesF.value rfl hW) | (go_simp; first | exact RegionF.GivesF.value rfl hW | (apply RegionF.GivesF.enter; first | (with_reducible exact (HWI.out W).mono fun e w1 h => ⟨h.1, hW.below h.2⟩) | (with_reducible exact (HWR.out W).mono fun e w1 h => ⟨h.1, hW.below h.2⟩))))
       refine RegionF.wpF_put (fun K' hK' => ?_)
       go_simp
       refine hK' _ ?_
       clear hK' K'))
  refine RegionF.wpF_nil (fun W hW => ?_)
  have HM := Aside0.mk hW
  clear hW HWI HWR
  by_cases h0 : e1 = 0
  · have d0 : (e1 != 0) = false := by simpa using h0
    have hok := HE.out h0
    have HOK := Aside0.mk hok
    have HT2 := Aside0.mk (fun W => Mask_any v bs m W H.out.1.l H.out.1.a H.out.2.2.2.1 H.out.2.2.2.2)
    have HT3 := Aside0.mk (fun W => Mask_any v (mB v bs n) m W HX.out.l HX.out.a H.out.2.2.2.1 H.out.2.2.2.2)
    rw [mV_ok hok] at HM
    rw [mE_mask H.out.1.a hok] at HT3
    have HXM : Aside0 (OkA (mB v bs m)) := ⟨⟨mB_len _ _ _, mB_all v H.out.1.a m⟩⟩
    have HXX : Aside0 (OkA (mB v (mB v bs n) m)) := ⟨⟨mB_len _ _ _, mB_all v HX.out.a m⟩⟩
    have HE2 : Aside0 (mE v bs m = 0 → okM v bs m) := ⟨(mE_zero v bs m).1⟩
    have HMV : Aside0 (okM v bs m → mV v (mB v bs n) m = v ∧ mV v bs m = v ∧ mB v (mB v bs n) m = if m ≤ n then mB v bs m else mB v bs n) := ⟨fun hm => ⟨mV_ok ((okM_mask H.out.1.a hok m).2 hm), mV_ok hm, mB_mask H.out.1.a hok hm⟩⟩
    generalize he3 : mE v bs m = e3 at *
    have he4 : (e3 != e3) = false := by simp
    clear h0 HE hok
    go_wp2_with (first | ((with_reducible refine gate_load (t := 25) rfl ?_); (try refine gate_guard (by rfl) ?_); first | (refine Kd.event_run rfl (exec_load rfl rfl (load_ok HX.out.l (HM.out.get 2 rfl))) ?_)) | ((with_reducible refine gate_store (t := 25) rfl ?_); refine event_skip rfl (exec_store rfl rfl rfl HST.out) ?_) | fail)
    refine (HT3.out _).mono ?_
    rintro e w1 ⟨rfl, hB⟩
    replace HM := Aside0.mk (HM.out.below hB)
    clear hB
    have HST := Aside0.mk (store_new w1 rfl (v := mV v (mB v bs n) m) (u := false) (bs := mB v (mB v bs n) m) HXX.out.l zs16)
    replace HM := Aside0.mk (HM.out.new (.cells (av (mV v (mB v bs n) m) (mB v (mB v bs n) m)) 25))
    simp only [List.nil_append, List.cons_append] at HM
    go_wp2_with (first | ((with_reducible refine gate_load (t := 25) rfl ?_); (try refine gate_guard (by rfl) ?_); first | (refine Kd.event_run rfl (exec_load rfl rfl (load_ok H.out.1.l (HM.out.get 0 rfl))) ?_)) | ((with_reducible refine gate_store (t := 25) rfl ?_); refine event_skip rfl (exec_store rfl rfl rfl HST.out) ?_) | fail)
    refine (HT2.out _).mono ?_
    rintro e w1 ⟨rfl, hB⟩
    replace HM := Aside0.mk (HM.out.below hB)
    clear hB
    clear HST
    have HST := Aside0.mk (store_new w1 rfl (v := mV v bs m) (u := false) (bs := mB v bs m) HXM.out.l zs16)
    replace HM := Aside0.mk (HM.out.new (.cells (av (mV v bs m) (mB v bs m)) 25))
    simp only [List.nil_append, List.cons_append] at HM
    by_cases h3 : e3 = 0
    · have d3 : (e3 != 0) = false := by simpa using h3
      obtain ⟨q1, q2, q3⟩ := HMV.out (HE2.out h3)
      by_cases hle : m ≤ n
      · have dl : decide (m ≤ n) = true := by simpa using hle
        rw [if_pos hle] at q3
        have HQ2 : Aside0 (∀ w : World, (Op.equalIn 10000 25 (.agg (av (mV v (mB v bs n) m) (mB v (mB v bs n) m))) (.agg (av (mV v bs m) (mB v bs m)))).run Try.prog w = .ok true w) := ⟨fun w => by rw [eq_addr _ _ HXX.out.l HXM.out.l w, q1, q2, q3]; simp⟩
        clear q1 q2 q3 hle h3 HQ HMV HE2
        go_wp2_with (first | ((with_reducible refine gate_load (t := 25) rfl ?_); (try refine gate_guard (by rfl) ?_); first | (refine Kd.event_run rfl (exec_load rfl rfl (load_ok HXX.out.l (HM.out.get 4 rfl))) ?_) | (refine Kd.event_run rfl (exec_load rfl rfl (load_ok HXM.out.l (HM.out.get 5 rfl))) ?_)) | ((with_reducible refine gate_store (t := 25) rfl ?_); refine event_skip rfl (exec_store rfl rfl rfl HST.out) ?_) | ((with_reducible refine gate_bin (t := 25) rfl ?_); refine Kd.event_run rfl (exec_eql Try.eqGuardType25 rfl rfl rfl (HQ2.out _)) ?_))
        refine (known_any _).mono ?_
        rintro e w1 ⟨rfl, hB⟩
        replace HM := Aside0.mk (HM.out.below hB)
        clear hB
        go_wp2_with fail
        go_ret
        exact ⟨rfl, HM.out.b⟩
      · have dl : decide (m ≤ n) = false := by simpa using hle
        rw [if_neg hle] at q3
        have HQ2 : Aside0 (∀ w : World, (Op.equalIn 10000 25 (.agg (av (mV v (mB v bs n) m) (mB v (mB v bs n) m))) (.agg (av v (mB v bs n)))).run Try.prog w = .ok true w) := ⟨fun w => by rw [eq_addr _ _ HXX.out.l HX.out.l w, q1, q3]; simp⟩
        clear q1 q2 q3 hle h3 HQ HMV HE2
        go_wp2_with (first | ((with_reducible refine gate_load (t := 25) rfl ?_); (try refine gate_guard (by rfl) ?_); first | (refine Kd.event_run rfl (exec_load rfl rfl (load_ok HXX.out.l (HM.out.get 4 rfl))) ?_) | (refine Kd.event_run rfl (exec_load rfl rfl (load_ok HX.out.l (HM.out.get 2 rfl))) ?_)) | ((with_reducible refine gate_store (t := 25) rfl ?_); refine event_skip rfl (exec_store rfl rfl rfl HST.out) ?_) | ((with_reducible refine gate_bin (t := 25) rfl ?_); refine Kd.event_run rfl (exec_eql Try.eqGuardType25 rfl rfl rfl (HQ2.out _)) ?_))
        refine (known_any _).mono ?_
        rintro e w1 ⟨rfl, hB⟩
        replace HM := Aside0.mk (HM.out.below hB)
        clear hB
        go_wp2_with fail
        go_ret
        exact ⟨rfl, HM.out.b⟩
    · have d3 : (e3 != 0) = true := by simpa using h3
      clear h3 HMV HE2
      go_wp2_with (first | ((with_reducible refine gate_load (t := 25) rfl ?_); (try refine gate_guard (by rfl) ?_); first | (refine Kd.event_run rfl (exec_load rfl rfl (load_ok H.out.1.l (HM.out.get 0 rfl))) ?_)) | ((with_reducible refine gate_store (t := 25) rfl ?_); refine event_skip rfl (exec_store rfl rfl rfl HST.out) ?_) | fail)
      refine (known_any _).mono ?_
      rintro e w1 ⟨rfl, hB⟩
      replace HM := Aside0.mk (HM.out.below hB)
      clear hB
      go_wp2_with fail
      go_ret
      exact ⟨rfl, HM.out.b⟩
  · have d0 : (e1 != 0) = true := by simpa using h0
    clear h0 HE
    go_wp2_with fail
    refine (known_any _).mono ?_
    rintro e w1 ⟨rfl, hB⟩
    replace HM := Aside0.mk (HM.out.below hB)
    clear hB
    go_wp2_with fail
    go_ret
    exact ⟨rfl, HM.out.b⟩
end Go.Proofs.Ytfnpjfcfgilchaa.AddrW
