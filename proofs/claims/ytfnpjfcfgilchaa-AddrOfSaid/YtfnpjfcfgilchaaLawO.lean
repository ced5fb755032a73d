/- AddrOf: walked. -/
import Derived.Test.YtfnpjfcfgilchaaLawM
import Derived.Test.YtfnpjfcfgilchaaLent
namespace Go.Proofs.Ytfnpjfcfgilchaa.AddrW
open Go.RowKit Go.Proofs.Ytfnpjfcfgilchaa.A Go.Proofs.Ytfnpjfcfgilchaa.Mem Go.Proofs.Ytfnpjfcfgilchaa.AddrO Go.Proofs.Ytfnpjfcfgilchaa.AddrEq Go.Proofs.Ytfnpjfcfgilchaa.AddrM Go.Proofs.Ytfnpjfcfgilchaa.Bits Go.Proofs.Ytfnpjfcfgilchaa.Help Go.Proofs.YtfnpjfcfgilchaaW.PrintWords Go.Proofs.YtfnpjfcfgilchaaW.PrintLast Go.Proofs.YtfnpjfcfgilchaaW.PrintMore
set_option linter.unusedVariables false
set_option linter.unusedSimpArgs false
theorem ofB_ok {xs : List Int} (h : AllB xs) : OkA (ofB xs) := by
  unfold ofB
  split
  · rename_i q
    refine ⟨by simp [zs]; omega, fun x hx => ?_⟩
    rcases List.mem_append.1 hx with h1 | h1
    · exact h x h1
    · simp [zs] at h1; omega
  · exact ⟨zs16, fun x hx => by simp [zs] at hx; omega⟩
theorem of_back {xs : List Int} (h : ofE xs = 0) : byE (ofV xs) (ofB xs) = 0 ∧ byR (ofV xs) (ofB xs) = xs := by
  have hl : xs.length = 4 ∨ xs.length = 16 := by unfold ofE at h; split at h; assumption; omega
  have e : ofB xs = xs ++ zs (16 - xs.length) := if_pos hl
  have hr : rightB (ofV xs) (ofB xs) = true := by
    rw [rightB, e, List.all_eq_true]
    intro x hx
    have hs : sz (ofV xs) = xs.length := by rcases hl with q | q <;> simp [ofV, sz, q]
    rw [hs, List.drop_left] at hx
    simp [zs] at hx
    simp [hx]
  have hs : sz (ofV xs) = xs.length := by rcases hl with q | q <;> simp [ofV, sz, q]
  exact ⟨if_pos hr, by rw [byR, if_pos hr, e, hs, List.take_left]⟩
theorem by_back {v : Bool} {bs : List Int} (hl : bs.length = 16) (h : byE v bs = 0) : ofV (byR v bs) = v ∧ ofB (byR v bs) = bs ∧ ofE (byR v bs) = 0 := by
  have hr : rightB v bs = true := by unfold byE at h; split at h; assumption; omega
  have e : byR v bs = bs.take (sz v) := if_pos hr
  have hlen : (bs.take (sz v)).length = sz v := by rw [List.length_take, hl]; exact Nat.min_eq_left (sz_le v)
  rw [e]
  have hz : sz v = 4 ∨ sz v = 16 := by cases v <;> simp [sz]
  refine ⟨by rw [ofV, hlen]; cases v <;> rfl, ?_, by rw [ofE, hlen, if_pos hz]⟩
  rw [ofB, hlen, if_pos hz]
  have h0 : bs.drop (sz v) = zs (16 - sz v) := by
    apply List.ext_getElem
    · simp [zs, hl]
    · intro i h1 h2
      rw [rightB, List.all_eq_true] at hr
      have := hr _ (List.getElem_mem h1)
      simpa [zs] using this
  rw [← h0, List.take_append_drop]
theorem by_len {v : Bool} {bs : List Int} (hl : bs.length = 16) : (byR v bs).length ≤ 16 := by
  unfold byR; split
  · simp; omega
  · simp
set_option maxHeartbeats 8000000 in
theorem AddrOf_any (A : Option Addr) (c : Nat) (xs : List Int) (v : Bool) (bs : List Int) (w : World) (hr : Kd.C (Kd.int .u8) w A xs.length xs) (hc : xs.length ≤ c) (hx : xs.length ≤ 140737488351232) (ha : AllB xs) (hb : OkA bs) :
    Calls Try.prog 3 #[.slice A xs.length c, .agg (av v bs)] w fun e w' => e = .returned (.bool true) ∧ Below w.heap.size w w' := by
  have HM := Aside0.mk (((Mem.nil w).new (.cells (av v bs) 25)).push (Rd.stays A xs) (Kd.C_alloc hr _))
  simp only [List.nil_append, List.cons_append] at HM
  have H := Aside0.mk (And.intro hb (And.intro (ofB_ok ha) hx))
  have HL := Aside0.mk (fun (W : World) (h : Rd A xs W) => Lent_calls A c xs W h hx)
  have HOF := Aside0.mk (fun (W : World) (B : Option Addr) (d : Nat) (h : Rd B xs W) => Of_any B d xs W h)
  have HRO := Aside0.mk (fun (W : World) (B : Option Addr) (d : Nat) (h : Rd B xs W) => RefOf_any B d xs W h)
  have HBY := Aside0.mk (fun W => Bytes_any v bs W hb.l)
  have HRB := Aside0.mk (fun W => RefBytes_any v bs W hb.l)
  have HRI := Aside0.mk (fun W => Right_any v bs W hb.l)
  have HRR := Aside0.mk (fun W => refRight_any v bs W hb.l)
  have HKN := Aside0.mk (fun W => known_any W)
  have HKP := Aside0.mk (fun (W : World) (g : Nat) (hL : Blk g (.cells (nums .u8 (xs ++ tail8)).toArray 5 (0, 0)) W) (h : Rd A xs W) => Kept_calls g A c xs W hL h hx)
  have HQ : Aside0 (∀ w : World, (Op.equalIn 10000 25 (.agg (av (ofV xs) (ofB xs))) (.agg (av (ofV xs) (ofB xs)))).run Try.prog w = .ok true w) := ⟨fun w => by rw [eq_addr _ _ H.out.2.1.l H.out.2.1.l w]; simp⟩
  clear hb hc hx ha hr
  go_enter Try.func3, Try.ntmps3
  go_wp2_with fail
  refine (HL.out _ (HM.out.get 1 rfl)).mono ?_
  rintro e w1 ⟨g, rfl, -, hL, hB⟩
  replace HM := Aside0.mk ((HM.out.below hB).push (Blk.stays g (.cells (nums .u8 (xs ++ tail8)).toArray 5 (0, 0))) hL)
  simp only [List.nil_append, List.cons_append] at HM
  clear hL hB HL
  go_wp2_with fail
  refine (HOF.out _ (some ⟨g, 0, none⟩) (xs.length + 8) (LentAt.reads (HM.out.get 2 rfl) (by have := H.out.2.2; omega))).mono ?_
  rintro e w1 ⟨rfl, hB⟩
  replace HM := Aside0.mk (HM.out.below hB)
  clear hB
  have HST := Aside0.mk (store_new w1 rfl (v := ofV xs) (u := false) (bs := ofB xs) H.out.2.1.l zs16)
  replace HM := Aside0.mk (HM.out.new (.cells (av (ofV xs) (ofB xs)) 25))
  simp only [List.nil_append, List.cons_append] at HM
  go_wp2_with (first | ((with_reducible refine gate_load (t := 25) rfl ?_); (try refine gate_guard (by rfl) ?_); first | fail) | ((with_reducible refine gate_store (t := 25) rfl ?_); refine event_skip rfl (exec_store rfl rfl rfl HST.out) ?_) | fail)
  refine (HRO.out _ _ _ (HM.out.get 1 rfl)).mono ?_
  rintro e w1 ⟨rfl, hB⟩
  replace HM := Aside0.mk (HM.out.below hB)
  clear hB HST
  have HST := Aside0.mk (store_new w1 rfl (v := ofV xs) (u := false) (bs := ofB xs) H.out.2.1.l zs16)
  replace HM := Aside0.mk (HM.out.new (.cells (av (ofV xs) (ofB xs)) 25))
  simp only [List.nil_append, List.cons_append] at HM
  go_wp2_with (first | ((with_reducible refine gate_load (t := 25) rfl ?_); (try refine gate_guard (by rfl) ?_); first | (refine Kd.event_run rfl (exec_load rfl rfl (load_ok H.out.1.l (HM.out.get 0 rfl))) ?_)) | ((with_reducible refine gate_store (t := 25) rfl ?_); refine event_skip rfl (exec_store rfl rfl rfl HST.out) ?_) | fail)
  refine (HBY.out _).mono ?_
  rintro e w1 ⟨r, rfl, hO, hB⟩
  obtain ⟨A1, c1, rfl, -, hr1⟩ := hO.reads (by have := by_len (v := v) H.out.1.l; omega)
  replace HM := Aside0.mk ((HM.out.below hB).push (Rd.stays A1 (byR v bs)) hr1)
  simp only [List.nil_append, List.cons_append] at HM
  clear hB HST hO hr1
  go_wp2_with (first | ((with_reducible refine gate_load (t := 25) rfl ?_); (try refine gate_guard (by rfl) ?_); first | (refine Kd.event_run rfl (exec_load rfl rfl (load_ok H.out.1.l (HM.out.get 0 rfl))) ?_)) | fail)
  refine (HRB.out _).mono ?_
  rintro e w1 ⟨r, rfl, hO, hB⟩
  obtain ⟨A2, c2, rfl, -, hr2⟩ := hO.reads (by have := by_len (v := v) H.out.1.l; omega)
  replace HM := Aside0.mk ((HM.out.below hB).push (Rd.stays A2 (byR v bs)) hr2)
  simp only [List.nil_append, List.cons_append] at HM
  clear hB hO hr2
  have HBK : Aside0 (byE v bs = 0 → ofV (byR v bs) = v ∧ ofB (byR v bs) = bs ∧ ofE (byR v bs) = 0) := ⟨by_back H.out.1.l⟩
  have HOB : Aside0 (ofE xs = 0 → byE (ofV xs) (ofB xs) = 0 ∧ byR (ofV xs) (ofB xs) = xs) := ⟨of_back⟩
  have HL16 : Aside0 ((byR v bs).length ≤ 16) := ⟨by_len H.out.1.l⟩
  generalize byR v bs = ys at *
  generalize byE v bs = eb at *
  generalize rightB v bs = rb at *
  have n1 : (eb != eb) = false := by simp
  have n2 : (rb != rb) = false := by simp
  have HS1 := Aside0.mk (fun (W : World) (h : Rd A1 ys W) => Kd.C_string (P := Try.prog) Try.underlying22 Try.underlying5 Try.underlying9 (c := c1) h)
  have HS2 := Aside0.mk (fun (W : World) (h : Rd A2 ys W) => Kd.C_string (P := Try.prog) Try.underlying22 Try.underlying5 Try.underlying9 (c := c2) h)
  generalize heo : ofE xs = eo at *
  have n4 : (eo != eo) = false := by simp
  go_upto_region 6 with fail
  refine RegionF.region_F (F := (Mem w _)) 32 (by kernel_rfl) (by kernel_rfl) HM.out.drew ?_
  simp only [List.take_succ_cons, List.take_zero, List.drop_succ_cons, List.drop_zero]
  clear HM
  repeat (first
    | (refine RegionF.wpF_skip (by rfl) ?_
       refine RegionF.wpF_put (fun K' hK' => ?_)
       go_simp
       refine hK' _ ?_
       clear hK' K')
    | (apply RegionF.wpF_step
       · rfl
       · (intro W hW; first | (rw [exec_load rfl rfl (load_ok H.out.1.l (hW.get 0 rfl))]; exact RegionF.GivesF.value rfl hW) | (rw [exec_load rfl rfl (load_ok H.out.2.1.l (hW.get 3 rfl))]; exact RegionF.GivesF.value rfl hW) | (rw [exec_load rfl rfl (load_ok H.out.2.1.l (hW.get 4 rfl))]; exact RegionF.GivesF.value rfl hW) | (rw [exec_neq Try.eqGuardType25 rfl rfl rfl (HQ.out W)]; exact RegionF.GivesF.value rfl hW) | (have k := HS1.out W (hW.get 5 rfl); have k2 := HS2.out W (hW.get 6 rfl); go_simp; exact RegionF.GivesF.value rfl hW) | (go_simp; first | exact RegionF.GivesF.value rfl hW | (apply RegionF.GivesF.enter; first | (with_reducible exact (HRI.out W).mono fun e w1 h => ⟨h.1, hW.below h.2⟩) | (with_reducible exact (HRR.out W).mono fun e w1 h => ⟨h.1, hW.below h.2⟩) | (with_reducible exact (HKP.out W g (hW.get 2 rfl) (hW.get 1 rfl)).mono fun e w1 h => ⟨h.1, hW.below h.2.below⟩))))
       refine RegionF.wpF_put (fun K' hK' => ?_)
       go_simp
       refine hK' _ ?_
       clear hK' K'))
  refine RegionF.wpF_nil (fun W hW => ?_)
  have HM := Aside0.mk hW
  clear hW HRI HRR HKP HS1 HS2 HRB HBY HQ
  by_cases h0 : eo = 0
  · have d0 : (eo == 0) = true := by simpa using h0
    have HBX := Aside0.mk (fun W => Bytes_any (ofV xs) (ofB xs) W H.out.2.1.l)
    obtain ⟨q1, q2⟩ := HOB.out h0
    rw [q1, q2] at HBX
    clear h0 q1 q2 HOB HOF HRO
    go_wp2_with (first | ((with_reducible refine gate_load (t := 25) rfl ?_); (try refine gate_guard (by rfl) ?_); first | (refine Kd.event_run rfl (exec_load rfl rfl (load_ok H.out.2.1.l (HM.out.get 4 rfl))) ?_)) | fail)
    refine (HBX.out _).mono ?_
    rintro e w1 ⟨r, rfl, hO, hB⟩
    obtain ⟨A3, c3, rfl, -, hr3⟩ := hO.reads (by have := H.out.2.2; omega)
    have k3 := Kd.C_string (P := Try.prog) Try.underlying22 Try.underlying5 Try.underlying9 (c := c3) hr3
    have k4 := Kd.C_string (P := Try.prog) Try.underlying22 Try.underlying5 Try.underlying9 (c := c) ((HM.out.below hB).get 1 rfl)
    replace HM := Aside0.mk ((HM.out.below hB).push (Rd.stays A3 xs) hr3)
    simp only [List.nil_append, List.cons_append] at HM
    clear hB hO hr3
    go_upto_region 12 with fail
    clear k3 k4
    by_cases hb0 : eb = 0
    · have d1 : (eb != 0) = false := by simpa using hb0
      obtain ⟨q1, q2, q3⟩ := HBK.out hb0
      have HOY := Aside0.mk (fun (W : World) (h : Rd A2 ys W) => Of_any A2 c2 ys W h)
      rw [q1, q2, q3] at HOY
      have HQ2 : Aside0 (∀ w : World, (Op.equalIn 10000 25 (.agg (av v bs)) (.agg (av v bs))).run Try.prog w = .ok true w) := ⟨fun w => by rw [eq_addr _ _ H.out.1.l H.out.1.l w]; simp⟩
      clear hb0 q1 q2 q3 HBK
      go_wp2_with fail
      refine (HOY.out _ (HM.out.get 6 rfl)).mono ?_
      rintro e w1 ⟨rfl, hB⟩
      replace HM := Aside0.mk (HM.out.below hB)
      clear hB
      have HST := Aside0.mk (store_new w1 rfl (v := v) (u := false) (bs := bs) H.out.1.l zs16)
      replace HM := Aside0.mk (HM.out.new (.cells (av (v) (bs)) 25))
      simp only [List.nil_append, List.cons_append] at HM
      go_wp2_with (first | ((with_reducible refine gate_load (t := 25) rfl ?_); (try refine gate_guard (by rfl) ?_); first | (refine Kd.event_run rfl (exec_load rfl rfl (load_ok H.out.1.l (HM.out.get 8 rfl))) ?_) | (refine Kd.event_run rfl (exec_load rfl rfl (load_ok H.out.1.l (HM.out.get 0 rfl))) ?_)) | ((with_reducible refine gate_store (t := 25) rfl ?_); refine event_skip rfl (exec_store rfl rfl rfl HST.out) ?_) | ((with_reducible refine gate_bin (t := 25) rfl ?_); (try refine gate_guard (by rfl) ?_); refine Kd.event_run rfl (exec_eql Try.eqGuardType25 rfl rfl rfl (HQ2.out _)) ?_))
      refine (known_any _).mono ?_
      rintro e w1 ⟨rfl, hB⟩
      replace HM := Aside0.mk (HM.out.below hB)
      clear hB
      go_wp2_with fail
      go_ret
      exact ⟨rfl, HM.out.b⟩
    · have d1 : (eb != 0) = true := by simpa using hb0
      clear hb0 HBK
      go_wp2_with fail
      refine (known_any _).mono ?_
      rintro e w1 ⟨rfl, hB⟩
      replace HM := Aside0.mk (HM.out.below hB)
      clear hB
      go_wp2_with fail
      go_ret
      exact ⟨rfl, HM.out.b⟩
  · have d0 : (eo == 0) = false := by simpa using h0
    clear h0 HOB HOF HRO
    go_upto_region 12 with fail
    by_cases hb0 : eb = 0
    · have d1 : (eb != 0) = false := by simpa using hb0
      obtain ⟨q1, q2, q3⟩ := HBK.out hb0
      have HOY := Aside0.mk (fun (W : World) (h : Rd A2 ys W) => Of_any A2 c2 ys W h)
      rw [q1, q2, q3] at HOY
      have HQ2 : Aside0 (∀ w : World, (Op.equalIn 10000 25 (.agg (av v bs)) (.agg (av v bs))).run Try.prog w = .ok true w) := ⟨fun w => by rw [eq_addr _ _ H.out.1.l H.out.1.l w]; simp⟩
      clear hb0 q1 q2 q3 HBK
      go_wp2_with fail
      refine (HOY.out _ (HM.out.get 6 rfl)).mono ?_
      rintro e w1 ⟨rfl, hB⟩
      replace HM := Aside0.mk (HM.out.below hB)
      clear hB
      have HST := Aside0.mk (store_new w1 rfl (v := v) (u := false) (bs := bs) H.out.1.l zs16)
      replace HM := Aside0.mk (HM.out.new (.cells (av (v) (bs)) 25))
      simp only [List.nil_append, List.cons_append] at HM
      go_wp2_with (first | ((with_reducible refine gate_load (t := 25) rfl ?_); (try refine gate_guard (by rfl) ?_); first | (refine Kd.event_run rfl (exec_load rfl rfl (load_ok H.out.1.l (HM.out.get 7 rfl))) ?_) | (refine Kd.event_run rfl (exec_load rfl rfl (load_ok H.out.1.l (HM.out.get 0 rfl))) ?_)) | ((with_reducible refine gate_store (t := 25) rfl ?_); refine event_skip rfl (exec_store rfl rfl rfl HST.out) ?_) | ((with_reducible refine gate_bin (t := 25) rfl ?_); (try refine gate_guard (by rfl) ?_); refine Kd.event_run rfl (exec_eql Try.eqGuardType25 rfl rfl rfl (HQ2.out _)) ?_))
      refine (known_any _).mono ?_
      rintro e w1 ⟨rfl, hB⟩
      replace HM := Aside0.mk (HM.out.below hB)
      clear hB
      go_wp2_with fail
      go_ret
      exact ⟨rfl, HM.out.b⟩
    · have d1 : (eb != 0) = true := by simpa using hb0
      clear hb0 HBK
      go_wp2_with fail
      refine (known_any _).mono ?_
      rintro e w1 ⟨rfl, hB⟩
      replace HM := Aside0.mk (HM.out.below hB)
      clear hB
      go_wp2_with fail
      go_ret
      exact ⟨rfl, HM.out.b⟩
end Go.Proofs.Ytfnpjfcfgilchaa.AddrW
