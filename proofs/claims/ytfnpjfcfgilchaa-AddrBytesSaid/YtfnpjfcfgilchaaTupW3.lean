/- Tuples: the other way round. -/
import Derived.Test.YtfnpjfcfgilchaaTupW2
import Derived.Test.YtfnpjfcfgilchaaTupZ
namespace Go.Proofs.Ytfnpjfcfgilchaa.AddrW
open Go.RowKit Go.Proofs.Ytfnpjfcfgilchaa.Segs Go.Proofs.Ytfnpjfcfgilchaa.Mem Go.Proofs.Ytfnpjfcfgilchaa.AddrO Go.Proofs.Ytfnpjfcfgilchaa.AddrEq Go.Proofs.Ytfnpjfcfgilchaa.AddrM Go.Proofs.Ytfnpjfcfgilchaa.Bits Go.Proofs.Ytfnpjfcfgilchaa.Help Go.Proofs.YtfnpjfcfgilchaaW.PrintWords Go.Proofs.YtfnpjfcfgilchaaW.PrintLast Go.Proofs.YtfnpjfcfgilchaaW.PrintMore
set_option linter.unusedVariables false
set_option linter.unusedSimpArgs false
def turnT (t : Tu) : Tu := ⟨t.d, t.s, t.p, t.dp, t.sp⟩
theorem turn_ok {t : Tu} (h : OkT t) : OkT (turnT t) := ⟨h.d, h.s, h.p, h.dp, h.sp⟩
set_option maxHeartbeats 4000000 in
theorem RefTurn_any (t : Tu) (w : World) (h : OkT t) : Calls Try.prog 30 #[.agg (flat (tseg t))] w fun e w' => e = .returned (.agg (flat (tseg (turnT t)))) ∧ Below w.heap.size w w' := by
  have hb0 : BT w.heap.size t ((w.alloc (.cells (flat (tseg t)) 44)).alloc (.cells (flat (tseg zT)) 44)) := blk_alloc (blk_new w _) _
  have hz0 : BT (w.heap.size + 1) zT ((w.alloc (.cells (flat (tseg t)) 44)).alloc (.cells (flat (tseg zT)) 44)) := blk_new_at (Array.size_push _).symm
  have hB0 : Below w.heap.size w ((w.alloc (.cells (flat (tseg t)) 44)).alloc (.cells (flat (tseg zT)) 44)) := below_alloc (below_alloc (Below.refl _ _) _) _
  have H := Aside0.mk h
  have HBD : Aside0 (Try.prog.built 44 [(0, .agg (av t.d.v t.d.b)), (1, .agg (av t.s.v t.s.b)), (2, .int .i64 t.p), (3, .int .i64 t.dp), (4, .int .i64 t.sp)] = some (flat (tseg (turnT t)))) := ⟨built_tup (turn_ok h)⟩
  clear h
  go_enter Try.func30, Try.ntmps30
  go_upto_region 1 with fail
  change Code.wp _ _ _ _ ((w.alloc (.cells (flat (tseg t)) 44)).alloc (.cells (flat (tseg zT)) 44))
  generalize (w.alloc (.cells (flat (tseg t)) 44)).alloc (.cells (flat (tseg zT)) 44) = W at *
  obtain ⟨W1, hst, hb1, hB1, -⟩ := tup_over (turn_ok H.out) zT_ok (Nat.le_succ _) hB0 hz0
  have HST := Aside0.mk hst
  have HF := Aside0.mk (And.intro hb1 hB1)
  have HL := Aside0.mk hb0
  obtain ⟨-, -, c34, c35, c36⟩ := tcells H.out hb0
  clear hb0 hz0 hB0 hst hb1 hB1
  go_wp2_with (first | ((with_reducible refine gate_load (t := 25) rfl ?_); first | (refine Kd.event_run rfl (exec_load rfl rfl (load_dst H.out HL.out)) ?_) | (refine Kd.event_run rfl (exec_load rfl rfl (load_src H.out HL.out)) ?_)) | ((with_reducible refine gate_dst (N := 13) rfl ?_); refine Kd.event_run rfl (exec_build rfl (by go_simp) HBD.out) ?_) | ((with_reducible refine gate_store (t := 44) rfl ?_); refine event_skip rfl (exec_store rfl rfl rfl HST.out) ?_))
  exact bodyPost_ret (results_tup rfl _ _ (w.heap.size + 1) (turn_ok H.out) rfl HF.out.1) rfl ⟨rfl, HF.out.2⟩
set_option maxHeartbeats 4000000 in
theorem Turn_any (t : Tu) (w : World) (h : OkT t) : Calls Try.prog 29 #[.agg (flat (tseg t))] w fun e w' => e = .returned (.agg (flat (tseg (turnT t)))) ∧ Below w.heap.size w w' := by
  have hb0 : BT w.heap.size t ((w.alloc (.cells (flat (tseg t)) 44)).alloc (.cells (flat (tseg zT)) 44)) := blk_alloc (blk_new w _) _
  have hz0 : BT (w.heap.size + 1) zT ((w.alloc (.cells (flat (tseg t)) 44)).alloc (.cells (flat (tseg zT)) 44)) := blk_new_at (Array.size_push _).symm
  have hB0 : Below w.heap.size w ((w.alloc (.cells (flat (tseg t)) 44)).alloc (.cells (flat (tseg zT)) 44)) := below_alloc (below_alloc (Below.refl _ _) _) _
  have H := Aside0.mk h
  clear h
  go_enter Try.func29, Try.ntmps29
  go_upto_region 1 with fail
  change Code.wp _ _ _ _ ((w.alloc (.cells (flat (tseg t)) 44)).alloc (.cells (flat (tseg zT)) 44))
  generalize (w.alloc (.cells (flat (tseg t)) 44)).alloc (.cells (flat (tseg zT)) 44) = W at *
  obtain ⟨W1, hs1, hb1, hg1⟩ := seg_store (P := Try.prog) (ty := 25) hb0 (i := 0) rfl (toff H.out).1 (s' := avl t.d) (by rw [avl_len H.out.s, avl_len H.out.d]) info_addr (avl_len H.out.d) (fun x hx => tone t x (by simp [tseg, hx]))
  have hz1 : BT (w.heap.size + 1) zT W1 := blk_grown hz0 hg1 (by simp)
  have hB1 := hB0.grown hg1 hB0.size (fun k hk => by cases hk; exact Nat.le_refl _)
  obtain ⟨W2, hs2, hb2, hg2⟩ := seg_store (P := Try.prog) (ty := 25) (o := 17) hb1 (i := 1) rfl (by simp [off, tseg, avl_len H.out.d]) (s' := avl t.s) (by rw [avl_len H.out.s, avl_len H.out.d]) info_addr (avl_len H.out.s) (fun x hx => tone t x (by simp [tseg, hx]))
  have hz2 : BT (w.heap.size + 1) zT W2 := blk_grown hz1 hg2 (by simp)
  have hB2 := hB1.grown hg2 hB1.size (fun k hk => by cases hk; exact Nat.le_refl _)
  have hb2' : BT w.heap.size ⟨t.d, t.s, t.p, t.sp, t.dp⟩ W2 := hb2
  have ok2 : OkT ⟨t.d, t.s, t.p, t.sp, t.dp⟩ := ⟨H.out.d, H.out.s, H.out.p, H.out.sp, H.out.dp⟩
  obtain ⟨hb3, hg3⟩ := seg_set (y := .int .i64 t.dp) hb2' (i := 3) rfl (toff ok2).2.2.2.1
  have hz3 := blk_grown hz2 hg3 (by simp)
  have hB3 := hB2.grown hg3 hB2.size (fun k hk => by cases hk; exact Nat.le_refl _)
  have hb3' : BT w.heap.size ⟨t.d, t.s, t.p, t.dp, t.dp⟩ (W2.setCell ⟨w.heap.size, 35, none⟩ (.int .i64 t.dp)) := hb3
  have ok3 : OkT ⟨t.d, t.s, t.p, t.dp, t.dp⟩ := ⟨H.out.d, H.out.s, H.out.p, H.out.dp, H.out.dp⟩
  obtain ⟨hb4, hg4⟩ := seg_set (y := .int .i64 t.sp) hb3' (i := 4) rfl (toff ok3).2.2.2.2
  have hz4 := blk_grown hz3 hg4 (by simp)
  have hB4 := hB3.grown hg4 hB3.size (fun k hk => by cases hk; exact Nat.le_refl _)
  have hb4' : BT w.heap.size (turnT t) ((W2.setCell ⟨w.heap.size, 35, none⟩ (.int .i64 t.dp)).setCell ⟨w.heap.size, 36, none⟩ (.int .i64 t.sp)) := hb4
  obtain ⟨W5, hst, hb5, hB5, -⟩ := tup_over (turn_ok H.out) zT_ok (Nat.le_succ _) hB4 hz4
  have HS1 := Aside0.mk hs1
  have HS2 := Aside0.mk hs2
  have HST := Aside0.mk hst
  have HL := Aside0.mk hb0
  have HWH := Aside0.mk (load_tup (turn_ok H.out) hb4')
  have HF := Aside0.mk (And.intro hb5 hB5)
  obtain ⟨-, -, -, c35, c36⟩ := tcells ok2 hb2'
  have f35 : W2.frozen? ⟨w.heap.size, 35, none⟩ = false := blk_frozen hb2' _
  have f36 : W2.frozen? ⟨w.heap.size, 36, none⟩ = false := blk_frozen hb2' _
  clear hb0 hz0 hB0 hst hb1 hB1 hs1 hs2 hz1 hz2 hz3 hz4 hB2 hB3 hB4 hb2 hb2' hb3 hb3' hb4 hb4' hg1 hg2 hg3 hg4 hb5 hB5 ok2 ok3
  go_wp2_with (first | ((with_reducible refine gate_load (t := 25) rfl ?_); first | (refine Kd.event_run rfl (exec_load rfl rfl (load_dst H.out HL.out)) ?_) | (refine Kd.event_run rfl (exec_load rfl rfl (load_src H.out HL.out)) ?_)) | ((with_reducible refine gate_load (t := 44) rfl ?_); refine Kd.event_run rfl (exec_load rfl rfl HWH.out) ?_) | ((with_reducible refine gate_store (t := 25) rfl ?_); first | (refine event_skip rfl (exec_store rfl rfl rfl HS1.out) ?_) | (refine event_skip rfl (exec_store rfl rfl rfl HS2.out) ?_)) | ((with_reducible refine gate_store (t := 44) rfl ?_); refine event_skip rfl (exec_store rfl rfl rfl HST.out) ?_))
  exact bodyPost_ret (results_tup rfl _ _ (w.heap.size + 1) (turn_ok H.out) rfl HF.out.1) rfl ⟨rfl, HF.out.2⟩
end Go.Proofs.Ytfnpjfcfgilchaa.AddrW
