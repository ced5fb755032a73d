/- Packets: given, taken; are two alike. -/
import Derived.Test.YtjidoedlmpjmnaaHdrX
import Derived.Test.YtjidoedlmpjmnaaLent
import Derived.Test.YtjidoedlmpjmnaaAddrA
namespace Go.Proofs.Ytjidoedlmpjmnaa.Hdr
open Go.RowKit Go.Proofs.Ytjidoedlmpjmnaa.A Go.Proofs.Ytjidoedlmpjmnaa.StepX Go.Proofs.Ytjidoedlmpjmnaa.AddrW Go.Proofs.Ytjidoedlmpjmnaa.Segs Go.Proofs.Ytjidoedlmpjmnaa.Mem Go.Proofs.Ytjidoedlmpjmnaa.AddrEq Go.Proofs.Ytjidoedlmpjmnaa.AddrM Go.Proofs.Ytjidoedlmpjmnaa.Bits Go.Proofs.Ytjidoedlmpjmnaa.Help Go.Proofs.YtjidoedlmpjmnaaW.PrintWords Go.Proofs.YtjidoedlmpjmnaaW.PrintLast Go.Proofs.YtjidoedlmpjmnaaW.PrintMore
set_option linter.unusedVariables false
set_option linter.unusedSimpArgs false
/-- A packet whose bytes are lent: where they lie, with eight places behind them. -/
structure LentH (h : Pk) (q : Pl) (base : Nat) (W : World) : Prop where
  g : ∃ g1 g2, q = ⟨some ⟨g1, 0, none⟩, h.ol.length + 8, some ⟨g2, 0, none⟩, h.dl.length + 8⟩ ∧ LentAt W g1 h.ol ∧ LentAt W g2 h.dl ∧ base ≤ g1 ∧ base ≤ g2 ∧ g1 ≠ g2
theorem LentH.below {h : Pk} {q : Pl} {base : Nat} {W W1 : World} (H : LentH h q base W) (hB : Below W.heap.size W W1) : LentH h q base W1 := by
  obtain ⟨g1, g2, e, h1, h2, h3⟩ := H.g
  exact ⟨g1, g2, e, h1.below hB, h2.below hB, h3⟩
theorem LentH.rd {h : Pk} {q : Pl} {base : Nat} {W : World} (H : LentH h q base W) (K : OkP h) : RdP h q W := by
  obtain ⟨g1, g2, rfl, h1, h2, -, -, -⟩ := H.g
  exact ⟨h1.reads (by have := K.on; omega), Nat.le_add_right _ _, h2.reads (by have := K.dn; omega), Nat.le_add_right _ _⟩
theorem dPast25 (j : Nat) (hj : 26 ≤ j) : (j == 25) = false := by simp; omega
set_option maxHeartbeats 8000000 in
theorem given_any (h : Pk) (q : Pl) (w : World) (H : OkP h) (hr : RdP h q w) :
    Calls Try.prog 7 #[.agg (flat (hseg h q))] w fun e w' => ∃ q', e = .returned (.agg (flat (hseg h q'))) ∧ LentH h q' w.heap.size w' ∧ Below w.heap.size w w' := by
  have hb1 := blk_new w (.cells (flat (hseg h q)) 27)
  have HB1 := Aside0.mk (blk_alloc hb1 (.cells (flat (hseg zP zL)) 28))
  have HZ : Aside0 (BH 28 (w.heap.size + 1) zP zL ((w.alloc (.cells (flat (hseg h q)) 27)).alloc (.cells (flat (hseg zP zL)) 28))) := ⟨blk_new_at (by simp)⟩
  have HB := Aside0.mk (below_alloc (below_alloc (Below.refl w.heap.size w) (.cells (flat (hseg h q)) 27)) (.cells (flat (hseg zP zL)) 28))
  have HH := Aside0.mk (And.intro H (hr.below HB.out))
  have hfl : (flat (hseg zP zL)) = (flat (hseg zP zL)) := rfl
  clear hb1 H hr
  go_enter Try.func7, Try.ntmps7
  go_upto_region 1 with fail
  change Code.wp _ _ _ _ ((w.alloc (.cells (flat (hseg h q)) 27)).alloc (.cells (flat (hseg zP zL)) 28))
  generalize (w.alloc (.cells (flat (hseg h q)) 27)).alloc (.cells (flat (hseg zP zL)) 28) = W0 at *
  have HBD := Aside0.mk (below_drew HB.out)
  have HZD := Aside0.mk (blk_drew HZ.out)
  have HRD := Aside0.mk (HH.out.2.below (below_drew (Below.refl _ _)))
  refine RegionI.region_I (S := BH 27 w.heap.size h q) (D := fun j => j == 25) (by kernel_rfl) (blk_drew HB1.out) ?_
  intro hS
  generalize W0.drew = V at *
  refine RegionI.wpAnyI_take (i := 0) (v := ?_) rfl (by kernel_rfl) (by kernel_rfl) (by kernel_rfl) (by kernel_rfl) (by kernel_rfl) dPast25 (fun _ _ _ h => h) (by rfl) ?_ hS ?_
  rotate_left
  · (intro X hX; go_simp; try with_reducible rfl)
  refine RegionI.wpAnyI_take (i := 1) (v := _) rfl (by kernel_rfl) (by kernel_rfl) (by kernel_rfl) (by kernel_rfl) (by kernel_rfl) dPast25 (fun _ _ _ h => h) (by rfl) (fun w hw => exec_load rfl (by go_simp) (Cur.load_one (hc0 HH.out.1 hw) Try.underlying4 rfl)) hS ?_
  refine RegionI.wpAnyI_take (i := 2) (v := ?_) rfl (by kernel_rfl) (by kernel_rfl) (by kernel_rfl) (by kernel_rfl) (by kernel_rfl) dPast25 (fun _ _ _ h => h) (by rfl) ?_ hS ?_
  rotate_left
  · (intro X hX; go_simp; try with_reducible rfl)
  refine RegionI.wpAnyI_take (i := 3) (v := _) rfl (by kernel_rfl) (by kernel_rfl) (by kernel_rfl) (by kernel_rfl) (by kernel_rfl) dPast25 (fun _ _ _ h => h) (by rfl) (fun w hw => exec_load rfl (by go_simp) (load_hs HH.out.1 hw)) hS ?_
  refine RegionI.wpAnyI_take (i := 4) (v := ?_) rfl (by kernel_rfl) (by kernel_rfl) (by kernel_rfl) (by kernel_rfl) (by kernel_rfl) dPast25 (fun _ _ _ h => h) (by rfl) ?_ hS ?_
  rotate_left
  · (intro X hX; go_simp; try with_reducible rfl)
  refine RegionI.wpAnyI_take (i := 5) (v := _) rfl (by kernel_rfl) (by kernel_rfl) (by kernel_rfl) (by kernel_rfl) (by kernel_rfl) dPast25 (fun _ _ _ h => h) (by rfl) (fun w hw => exec_load rfl (by go_simp) (load_hd HH.out.1 hw)) hS ?_
  refine RegionI.wpAnyI_take (i := 6) (v := ?_) rfl (by kernel_rfl) (by kernel_rfl) (by kernel_rfl) (by kernel_rfl) (by kernel_rfl) dPast25 (fun _ _ _ h => h) (by rfl) ?_ hS ?_
  rotate_left
  · (intro X hX; go_simp; try with_reducible rfl)
  refine RegionI.wpAnyI_take (i := 7) (v := _) rfl (by kernel_rfl) (by kernel_rfl) (by kernel_rfl) (by kernel_rfl) (by kernel_rfl) dPast25 (fun _ _ _ h => h) (by rfl) (fun w hw => exec_load rfl (by go_simp) (Cur.load_one (hc35 HH.out.1 hw) Try.underlying3 rfl)) hS ?_
  refine RegionI.wpAnyI_take (i := 8) (v := ?_) rfl (by kernel_rfl) (by kernel_rfl) (by kernel_rfl) (by kernel_rfl) (by kernel_rfl) dPast25 (fun _ _ _ h => h) (by rfl) ?_ hS ?_
  rotate_left
  · (intro X hX; go_simp; try with_reducible rfl)
  refine RegionI.wpAnyI_take (i := 9) (v := _) rfl (by kernel_rfl) (by kernel_rfl) (by kernel_rfl) (by kernel_rfl) (by kernel_rfl) dPast25 (fun _ _ _ h => h) (by rfl) (fun w hw => exec_load rfl (by go_simp) (Cur.load_one (hc36 HH.out.1 hw) Try.underlying3 rfl)) hS ?_
  refine RegionI.wpAnyI_take (i := 10) (v := ?_) rfl (by kernel_rfl) (by kernel_rfl) (by kernel_rfl) (by kernel_rfl) (by kernel_rfl) dPast25 (fun _ _ _ h => h) (by rfl) ?_ hS ?_
  rotate_left
  · (intro X hX; go_simp; try with_reducible rfl)
  refine RegionI.wpAnyI_take (i := 11) (v := _) rfl (by kernel_rfl) (by kernel_rfl) (by kernel_rfl) (by kernel_rfl) (by kernel_rfl) dPast25 (fun _ _ _ h => h) (by rfl) (fun w hw => exec_load rfl (by go_simp) (Cur.load_one (hc37 HH.out.1 hw) Try.underlying3 rfl)) hS ?_
  refine RegionI.wpAnyI_take (i := 12) (v := ?_) rfl (by kernel_rfl) (by kernel_rfl) (by kernel_rfl) (by kernel_rfl) (by kernel_rfl) dPast25 (fun _ _ _ h => h) (by rfl) ?_ hS ?_
  rotate_left
  · (intro X hX; go_simp; try with_reducible rfl)
  refine RegionI.wpAnyI_take (i := 13) (v := _) rfl (by kernel_rfl) (by kernel_rfl) (by kernel_rfl) (by kernel_rfl) (by kernel_rfl) dPast25 (fun _ _ _ h => h) (by rfl) (fun w hw => exec_load rfl (by go_simp) (Cur.load_one (hc38 HH.out.1 hw) Try.underlying3 rfl)) hS ?_
  refine RegionI.wpAnyI_take (i := 14) (v := ?_) rfl (by kernel_rfl) (by kernel_rfl) (by kernel_rfl) (by kernel_rfl) (by kernel_rfl) dPast25 (fun _ _ _ h => h) (by rfl) ?_ hS ?_
  rotate_left
  · (intro X hX; go_simp; try with_reducible rfl)
  refine RegionI.wpAnyI_take (i := 15) (v := _) rfl (by kernel_rfl) (by kernel_rfl) (by kernel_rfl) (by kernel_rfl) (by kernel_rfl) dPast25 (fun _ _ _ h => h) (by rfl) (fun w hw => exec_load rfl (by go_simp) (Cur.load_one (hc39 HH.out.1 hw) Try.underlying4 rfl)) hS ?_
  refine RegionI.wpAnyI_take (i := 16) (v := ?_) rfl (by kernel_rfl) (by kernel_rfl) (by kernel_rfl) (by kernel_rfl) (by kernel_rfl) dPast25 (fun _ _ _ h => h) (by rfl) ?_ hS ?_
  rotate_left
  · (intro X hX; go_simp; try with_reducible rfl)
  refine RegionI.wpAnyI_take (i := 17) (v := _) rfl (by kernel_rfl) (by kernel_rfl) (by kernel_rfl) (by kernel_rfl) (by kernel_rfl) dPast25 (fun _ _ _ h => h) (by rfl) (fun w hw => exec_load rfl (by go_simp) (Cur.load_one (hc40 HH.out.1 hw) Try.underlying3 rfl)) hS ?_
  refine RegionI.wpAnyI_take (i := 18) (v := ?_) rfl (by kernel_rfl) (by kernel_rfl) (by kernel_rfl) (by kernel_rfl) (by kernel_rfl) dPast25 (fun _ _ _ h => h) (by rfl) ?_ hS ?_
  rotate_left
  · (intro X hX; go_simp; try with_reducible rfl)
  refine RegionI.wpAnyI_take (i := 19) (v := _) rfl (by kernel_rfl) (by kernel_rfl) (by kernel_rfl) (by kernel_rfl) (by kernel_rfl) dPast25 (fun _ _ _ h => h) (by rfl) (fun w hw => exec_load rfl (by go_simp) (Cur.load_one (hc41 HH.out.1 hw) Try.underlying25 rfl)) hS ?_
  refine RegionI.wpAnyI_take (i := 21) (v := ?_) rfl (by kernel_rfl) (by kernel_rfl) (by kernel_rfl) (by kernel_rfl) (by kernel_rfl) dPast25 (fun _ _ _ h => h) (by rfl) ?_ hS ?_
  rotate_left
  · (intro X hX; go_simp; try with_reducible rfl)
  refine RegionI.wpAnyI_take (i := 22) (v := _) rfl (by kernel_rfl) (by kernel_rfl) (by kernel_rfl) (by kernel_rfl) (by kernel_rfl) dPast25 (fun _ _ _ h => h) (by rfl) (fun w hw => exec_load rfl (by go_simp) (Cur.load_one (hc42 HH.out.1 hw) Try.underlying25 rfl)) hS ?_
  have HS := Aside0.mk hS
  clear hS
  refine RegionI.wpAnyI_one (i := 20) (by kernel_rfl) rfl (fun K hK => ?_)
  go_simp
  refine (Lent_calls q.oA q.oc h.ol V HRD.out.o (by have := HH.out.1.on; omega)).mono ?_
  rintro e w1 ⟨g1, rfl, hg1, hL1, hB1⟩
  refine hK _ _ ⟨fun _ => blk_below HS.out hB1, ?_⟩
  clear hK K
  refine RegionI.wpAnyI_one (i := 23) (by kernel_rfl) rfl (fun K hK => ?_)
  go_simp
  refine (Lent_calls q.dA q.dc h.dl w1 (HRD.out.below hB1).d (by have := HH.out.1.dn; omega)).mono ?_
  rintro e w2 ⟨g2, rfl, hg2, hL2, hB2⟩
  refine hK _ _ ⟨fun _ => blk_below (blk_below HS.out hB1) hB2, ?_⟩
  clear hK K
  have hBB := below_step hB1 hB2
  have hltg := blk_lt hL1
  have HL : Aside0 (LentH h ⟨some ⟨g1, 0, none⟩, h.ol.length + 8, some ⟨g2, 0, none⟩, h.dl.length + 8⟩ w.heap.size w2) := ⟨⟨g1, g2, rfl, hL1.below hB2, hL2, Nat.le_trans HBD.out.size hg1, Nat.le_trans HBD.out.size (Nat.le_trans hB1.size hg2), by omega⟩⟩
  have HB2 := Aside0.mk (below_step HBD.out hBB)
  have HZ2 := Aside0.mk (blk_below HZD.out hBB)
  have HS2 := Aside0.mk (blk_below HS.out hBB)
  have HBU := Aside0.mk (built_h HH.out.1 ⟨some ⟨g1, 0, none⟩, h.ol.length + 8, some ⟨g2, 0, none⟩, h.dl.length + 8⟩)
  obtain ⟨w3, hst, hb3, hB3, hg3⟩ := h_over (w := w) HH.out.1 zP_ok ⟨some ⟨g1, 0, none⟩, h.ol.length + 8, some ⟨g2, 0, none⟩, h.dl.length + 8⟩ (Nat.le_succ _) HB2.out HZ2.out
  have HST := Aside0.mk hst
  have HF := Aside0.mk (And.intro hb3 hB3)
  have HG3 := Aside0.mk hg3
  clear hL1 hL2 hB1 hB2 hBB hltg hst hb3 hB3 hg3 hg1 hg2
  refine RegionI.wpAnyI_one (i := 24) (by kernel_rfl) rfl (fun K hK => ?_)
  refine step_run (by rfl) (exec_build rfl (by go_simp; rfl) HBU.out) ?_
  go_simp
  refine hK _ _ ⟨fun _ => HS2.out, ?_⟩
  clear hK K
  refine RegionI.wpAnyI_one (i := 25) (by kernel_rfl) rfl (fun K hK => ?_)
  refine StepX.step_skip (by rfl) (exec_store rfl (by go_simp) (by go_simp) HST.out) ?_
  go_simp
  refine hK _ _ ⟨fun h => absurd h (by decide), ?_⟩
  clear hK K
  refine RegionI.wpAnyI_done (by kernel_rfl) ?_ _
  go_wp2_with fail
  refine bodyPost_ret (results_h rfl _ _ HH.out.1 rfl HF.out.1) rfl ?_
  refine ⟨_, rfl, ?_, HF.out.2⟩
  obtain ⟨g1', g2', e, h1, h2, h3, h4, h5⟩ := HL.out.g
  have hz := HZ2.out
  have n1 : g1' ≠ w.heap.size + 1 := blk_ne h1 hz (by decide)
  have n2 : g2' ≠ w.heap.size + 1 := blk_ne h2 hz (by decide)
  exact ⟨g1', g2', e, blk_grown h1 HG3.out (by simpa using n1), blk_grown h2 HG3.out (by simpa using n2), h3, h4, h5⟩
set_option maxHeartbeats 4000000 in
theorem taken_any (h : Pk) (q : Pl) (w : World) (H : OkP h) : Calls Try.prog 11 #[.agg (flat (hseg h q))] w fun e w' => e = .returned (.agg (flat (hseg h q))) ∧ Below w.heap.size w w' := by
  have HM := Aside0.mk (((Mem.nil w).new (.cells (flat (hseg h q)) 28)).alloc (.cells (flat (hseg zP zL)) 27))
  simp only [List.nil_append, List.cons_append] at HM
  have HH := Aside0.mk H
  have HBU := Aside0.mk (built_r H q)
  have HST := Aside0.mk (hr_new (g := w.heap.size + 1) (w.alloc (.cells (flat (hseg h q)) 28)) (by simp) H zP_ok q zL)
  have HE : Aside0 (BH 27 (w.heap.size + 1) h q ((w.alloc (.cells (flat (hseg h q)) 28)).alloc (.cells (flat (hseg h q)) 27)) ∧ Below w.heap.size w ((w.alloc (.cells (flat (hseg h q)) 28)).alloc (.cells (flat (hseg h q)) 27))) := ⟨blk_new_at (by simp), below_alloc (below_alloc (Below.refl _ _) _) _⟩
  have c0 := hc0 H (HM.out.get 0 rfl)
  have c35 := hc35 H (HM.out.get 0 rfl)
  have c36 := hc36 H (HM.out.get 0 rfl)
  have c37 := hc37 H (HM.out.get 0 rfl)
  have c38 := hc38 H (HM.out.get 0 rfl)
  have c39 := hc39 H (HM.out.get 0 rfl)
  have c40 := hc40 H (HM.out.get 0 rfl)
  have c41 := hc41 H (HM.out.get 0 rfl)
  have c42 := hc42 H (HM.out.get 0 rfl)
  clear H
  go_enter Try.func11, Try.ntmps11
  go_upto_region 1 with fail
  change Code.wp _ _ _ _ ((w.alloc (.cells (flat (hseg h q)) 28)).alloc (.cells (flat (hseg zP zL)) 27))
  generalize hWE : (w.alloc (.cells (flat (hseg h q)) 28)).alloc (.cells (flat (hseg h q)) 27) = WE at *
  generalize (w.alloc (.cells (flat (hseg h q)) 28)).alloc (.cells (flat (hseg zP zL)) 27) = W0 at *
  go_wp2_with (first | ((with_reducible refine gate_load (t := 24) rfl ?_); first | (refine Kd.event_run rfl (exec_load rfl rfl (load_hs HH.out (HM.out.get 0 rfl))) ?_) | (refine Kd.event_run rfl (exec_load rfl rfl (load_hd HH.out (HM.out.get 0 rfl))) ?_)) | ((with_reducible refine gate_dst (N := 25) rfl ?_); refine Kd.event_run rfl (exec_build rfl (by go_simp; rfl) HBU.out) ?_) | ((with_reducible refine gate_store (t := 27) rfl ?_); refine event_skip rfl (exec_store rfl rfl rfl HST.out) ?_))
  refine bodyPost_ret (results_hr rfl _ _ HH.out rfl HE.out.1) rfl ?_
  exact ⟨rfl, HE.out.2⟩
set_option maxHeartbeats 8000000 in
theorem Same_any (h : Pk) (q q2 : Pl) (w : World) (H : OkP h) (hr : RdP h q w) (hr2 : RdP h q2 w) : Calls Try.prog 10 #[.agg (flat (hseg h q)), .agg (flat (hseg h q2))] w fun e w' => e = .returned (.bool true) ∧ Below w.heap.size w w' := by
  have HM := Aside0.mk (((Mem.nil w).new (.cells (flat (hseg h q)) 27)).new' (.cells (flat (hseg h q2)) 27) (g := w.heap.size + 1) (by simp))
  simp only [List.nil_append, List.cons_append] at HM
  have HH := Aside0.mk H
  have hR := hr.below HM.out.b
  have hR2 := hr2.below HM.out.b
  have k0 := Kd.C_string (P := Try.prog) Try.underlying25 Try.underlying5 Try.underlying9 (c := q.oc) hR.o
  have k1 := Kd.C_string (P := Try.prog) Try.underlying25 Try.underlying5 Try.underlying9 (c := q2.oc) hR2.o
  have k2 := Kd.C_string (P := Try.prog) Try.underlying25 Try.underlying5 Try.underlying9 (c := q.dc) hR.d
  have k3 := Kd.C_string (P := Try.prog) Try.underlying25 Try.underlying5 Try.underlying9 (c := q2.dc) hR2.d
  have HEQ : Aside0 (∀ (a : Ad) (W : World), OkA a.b → (Op.equalIn 10000 24 (.agg (av a.v a.b)) (.agg (av a.v a.b))).run Try.prog W = .ok true W) := ⟨fun a W ha => by rw [eq_addr a.v a.v ha.l ha.l W]; simp⟩
  have c0 := hc0 H (HM.out.get 0 rfl)
  have c35 := hc35 H (HM.out.get 0 rfl)
  have c36 := hc36 H (HM.out.get 0 rfl)
  have c37 := hc37 H (HM.out.get 0 rfl)
  have c38 := hc38 H (HM.out.get 0 rfl)
  have c39 := hc39 H (HM.out.get 0 rfl)
  have c40 := hc40 H (HM.out.get 0 rfl)
  have c41 := hc41 H (HM.out.get 0 rfl)
  have c42 := hc42 H (HM.out.get 0 rfl)
  have d0 := hc0 H (HM.out.get 1 rfl)
  have d35 := hc35 H (HM.out.get 1 rfl)
  have d36 := hc36 H (HM.out.get 1 rfl)
  have d37 := hc37 H (HM.out.get 1 rfl)
  have d38 := hc38 H (HM.out.get 1 rfl)
  have d39 := hc39 H (HM.out.get 1 rfl)
  have d40 := hc40 H (HM.out.get 1 rfl)
  have d41 := hc41 H (HM.out.get 1 rfl)
  have d42 := hc42 H (HM.out.get 1 rfl)
  clear H hr hr2 hR hR2
  generalize strOfNums h.ol = s1 at *
  generalize strOfNums h.dl = s2 at *
  go_enter Try.func10, Try.ntmps10
  go_upto_region 1 with fail
  generalize (w.alloc (.cells (flat (hseg h q)) 27)).alloc (.cells (flat (hseg h q2)) 27) = W0 at *
  simp only [List.append_eq, List.cons_append, List.nil_append]
  go_wp2_with (first | ((with_reducible refine gate_load (t := 24) rfl ?_); (try refine gate_guard (by rfl) ?_); first | (refine Kd.event_run rfl (exec_load rfl rfl (load_hs HH.out (HM.out.get 0 rfl))) ?_) | (refine Kd.event_run rfl (exec_load rfl rfl (load_hd HH.out (HM.out.get 0 rfl))) ?_) | (refine Kd.event_run rfl (exec_load rfl rfl (load_hs HH.out (HM.out.get 1 rfl))) ?_) | (refine Kd.event_run rfl (exec_load rfl rfl (load_hd HH.out (HM.out.get 1 rfl))) ?_)) | ((with_reducible refine gate_bin (t := 24) rfl ?_); (try refine gate_guard (by rfl) ?_); first | (refine Kd.event_run rfl (AddrEq.exec_eql Try.eqGuardType24 rfl rfl rfl (HEQ.out h.s _ HH.out.s)) ?_) | (refine Kd.event_run rfl (AddrEq.exec_eql Try.eqGuardType24 rfl rfl rfl (HEQ.out h.d _ HH.out.d)) ?_)))
  go_ret
  exact ⟨rfl, HM.out.b⟩
end Go.Proofs.Ytjidoedlmpjmnaa.Hdr
