/- Addresses: can it be (the program's). -/
import Derived.Test.YtfnpjfcfgilchaaAddrW2
import Derived.Deep.RegionLaw
import Derived.Test.YtfnpjfcfgilchaaAddrEq
namespace Go.Proofs.Ytfnpjfcfgilchaa.AddrW
open Go.RowKit Go.Proofs.Ytfnpjfcfgilchaa.AddrEq Go.Proofs.Ytfnpjfcfgilchaa.Bits Go.Proofs.Ytfnpjfcfgilchaa.Help Go.Proofs.YtfnpjfcfgilchaaW.PrintWords Go.Proofs.YtfnpjfcfgilchaaW.PrintLast Go.Proofs.YtfnpjfcfgilchaaW.PrintMore
set_option linter.unusedVariables false
set_option linter.unusedSimpArgs false
theorem Right_any (v : Bool) (bs : List Int) (w : World) (hl : bs.length = 16) : Calls Try.prog 15 #[.agg (av v bs)] w fun e w' => e = .returned (.bool (rightB v bs)) ∧ Below w.heap.size w w' := by
  have hb := blk_new w (.cells (av v bs) 25)
  have HB := Aside0.mk hb
  have HL := Aside0.mk hl
  clear hl hb
  go_enter Try.func15, Try.ntmps15
  go_wp2_with fail
  have hb : ((w.alloc (.cells (av v bs) 25)).alloc (.cells (nums .u8 (List.replicate 16 0)).toArray 23)).heap[w.heap.size]? = some (.cells (av v bs) 25 (0, 0)) := blk_alloc HB.out _
  have hz : ((w.alloc (.cells (av v bs) 25)).alloc (.cells (nums .u8 (List.replicate 16 0)).toArray 23)).heap[w.heap.size + 1]? = some (.cells (nums .u8 (List.replicate 16 0)).toArray 23 (0, 0)) := blk_new_at (Array.size_push _).symm
  have hW : Below w.heap.size w ((w.alloc (.cells (av v bs) 25)).alloc (.cells (nums .u8 (List.replicate 16 0)).toArray 23)) := below_alloc (below_alloc (Below.refl _ _) _) _
  have hex : ∃ W, W = (w.alloc (.cells (av v bs) 25)).alloc (.cells (nums .u8 (List.replicate 16 0)).toArray 23) := ⟨_, rfl⟩
  obtain ⟨W, hWe⟩ := hex
  rw [← hWe] at hb hz hW
  change Code.wp _ _ _ _ ((w.alloc (.cells (av v bs) 25)).alloc (.cells (nums .u8 (List.replicate 16 0)).toArray 23))
  rw [← hWe]
  clear hWe
  have HLD := Aside0.mk (load_addr (w := W.drew) HL.out hb)
  refine wp_region_any (by kernel_rfl) ?_
  change wpAny _ _ _ _ _ _ _ (World.drew _)
  have HZ := Aside0.mk (blk_drew hz)
  have HW := Aside0.mk (Below.drew hW)
  replace HB := Aside0.mk (blk_drew hb)
  clear hb hz hW
  generalize W.drew = W at *
  refine wpAny_take (i := 0) (v := ?_) rfl (by kernel_rfl) (by kernel_rfl) (by kernel_rfl) (fun _ _ _ h => h) (Or.inl ⟨by rfl, ?_⟩) ?_
  rotate_left
  · (intro w; go_simp; try with_reducible rfl)
  refine wpAny_take (i := 1) (v := ?_) rfl (by kernel_rfl) (by kernel_rfl) (by kernel_rfl) (fun _ _ _ h => h) (Or.inl ⟨by rfl, ?_⟩) ?_
  rotate_left
  · (intro w; go_simp; try with_reducible rfl)
  refine wpAny_ready (rs := [2]) (by kernel_rfl) (by simp) (AllReady.cons rfl (fun K hK => ?_) AllReady.nil)
  refine event_step rfl (exec_load rfl rfl HLD.out) ?_
  refine hK _ _ ?_
  clear hK K
  refine wpAny_ready (rs := [3]) (by kernel_rfl) (by simp) (AllReady.cons rfl (fun K hK => ?_) AllReady.nil)
  go_simp
  refine (size_any v bs _).mono ?_
  rintro e w1 ⟨rfl, hB⟩
  refine hK _ _ ?_
  clear hK K
  have hb := blk_below HB.out hB
  have hz := blk_below HZ.out hB
  replace HW := Aside0.mk (below_step HW.out hB)
  clear HB HZ HLD hB
  have HB := Aside0.mk hb
  have HZ := Aside0.mk hz
  clear hb hz
  have hinf1 : (Try.prog.info? 5).map (·.size) = some 1 := by kernel_rfl
  have hcp : ∃ w2 cs', (Builtin.copy_ #[22, 22] 3 #[.slice (some ⟨w.heap.size + 1, 0, none⟩) 16 16, .slice (some ⟨w.heap.size, 1 + sz v, none⟩) (16 - sz v) (16 - sz v)]).run Try.prog w1 = .ok (.int .i64 ((16 - sz v : Nat) : Int)) w2 ∧
      w2.heap[w.heap.size + 1]? = some (.cells cs' 23 (0, 0)) ∧ cs' = (nums .u8 (bs.drop (sz v) ++ List.replicate (sz v) 0)).toArray ∧ Below w.heap.size w w2 := by
    have hs := sz_le v
    have hl := HL.out
    have hxl : (bs.drop (sz v)).length = 16 - sz v := by rw [List.length_drop, hl]
    have hr : Kd.C (Kd.int .u8) w1 (some ⟨w.heap.size, 1 + sz v, none⟩) (bs.drop (sz v)).length (bs.drop (sz v)) := by
      refine C_of_block HB.out (by omega) fun j hj => ?_
      rw [Nat.add_assoc, av_at v (by omega)]
      simp [List.getD_eq_getElem?_getD, List.getElem?_drop]
    obtain ⟨w2, hrun, ⟨cs', hc', hcs⟩, hg⟩ := copy_reads (P := Try.prog) (dT := 22) (sT := 22) (ty := 3) (dLen := 16) (dCap := 16) (c := 16 - sz v) Try.underlying22 hinf1 HZ.out hr (m := 16 - sz v) (by rw [hxl]; exact (Nat.min_eq_left (by omega)).symm) (by rw [Nat.zero_add]; exact Nat.sub_le _ _)
    rw [hxl] at hrun
    refine ⟨w2, cs', hrun, hc', ?_, HW.out.grown hg HW.out.size (fun k hk => by cases hk; exact Nat.le_succ _)⟩
    apply Array.ext'
    rw [hcs]
    simp only [splice, List.take_of_length_le (Nat.le_of_eq hxl)]
    simp only [List.take_zero, List.nil_append, nums, List.map_append]
    refine congrArg _ ?_
    rw [List.length_map, hxl, ← List.map_drop, List.drop_replicate]
    congr 2
    omega
  obtain ⟨w2, cs', hrun, hc', rfl, hB2⟩ := hcp
  have HRUN := Aside0.mk hrun
  have HB2 := Aside0.mk hB2
  have HLD2 := Aside0.mk (run_loadVar_row w2 (w.heap.size + 1) 23 23 (nums .u8 (bs.drop (sz v) ++ List.replicate (sz v) 0)).toArray (0, 0) _ hc' Try.underlying23 rfl (by
    have h : (Try.prog.info? 23).map (·.size) = some 16 := by kernel_rfl
    rw [h]; have := sz_le v; have := HL.out; simp only [nums, List.size_toArray, List.length_map, List.length_append, List.length_drop, List.length_replicate]; congr 1; omega))
  have HEQ := Aside0.mk (show (Op.equalIn 10000 23 (.agg (nums .u8 (bs.drop (sz v) ++ List.replicate (sz v) 0)).toArray) (.agg #[.int .u8 0, .int .u8 0, .int .u8 0, .int .u8 0, .int .u8 0, .int .u8 0, .int .u8 0, .int .u8 0, .int .u8 0, .int .u8 0, .int .u8 0, .int .u8 0, .int .u8 0, .int .u8 0, .int .u8 0, .int .u8 0])).run Try.prog w2 = .ok (decide (bs.drop (sz v) ++ List.replicate (sz v) 0 = List.replicate 16 0)) w2 from eq_b16 9998 (xs := bs.drop (sz v) ++ List.replicate (sz v) 0) (ys := List.replicate 16 0) (by have := sz_le v; have := HL.out; rw [List.length_append, List.length_drop, List.length_replicate]; omega) (by simp) w2)
  have hfin : decide (bs.drop (sz v) ++ List.replicate (sz v) 0 = List.replicate 16 0) = rightB v bs := by
    have hs := sz_le v
    have hl := HL.out
    have e : List.replicate 16 (0 : Int) = List.replicate (16 - sz v) 0 ++ List.replicate (sz v) 0 := by
      rw [List.replicate_append_replicate]; congr 1; omega
    rw [e, Bool.eq_iff_iff, decide_eq_true_iff, List.append_left_inj, rightB, List.all_eq_true, List.eq_replicate_iff]
    constructor
    · rintro ⟨_, h⟩ x hx; simpa using h x hx
    · intro h; exact ⟨by rw [List.length_drop, hl], fun x hx => by simpa using h x hx⟩
  have HFIN := Aside0.mk hfin
  clear hrun hB2 hc' hinf1 HB HZ hfin
  cases v with
  | true =>
    have hs : ((sz true : Nat) : Int) = 16 := rfl
    refine wpAny_ready (rs := [4]) (by kernel_rfl) (by simp) (AllReady.cons rfl (fun K hK => ?_) AllReady.nil)
    go_simp
    refine hK _ _ ?_
    clear hK K
    refine wpAny_ready (rs := [5]) (by kernel_rfl) (by simp) (AllReady.cons rfl (fun K hK => ?_) AllReady.nil)
    refine event_step rfl (exec_copy rfl rfl rfl HRUN.out) ?_
    refine hK _ _ ?_
    clear hK K
    refine wpAny_done (by kernel_rfl) ?_ _
    go_wp2_with (first | ((with_reducible refine gate_dst (N := 10) rfl ?_); refine Kd.event_run rfl (exec_load rfl rfl HLD2.out) ?_) | ((with_reducible refine gate_dst (N := 12) rfl ?_); refine Kd.event_run rfl (exec_eql Try.eqGuardType23 rfl rfl rfl HEQ.out) ?_))
    go_ret
    exact ⟨by rw [← HFIN.out]; rfl, HB2.out⟩
  | false =>
    have hs : ((sz false : Nat) : Int) = 4 := rfl
    refine wpAny_ready (rs := [4]) (by kernel_rfl) (by simp) (AllReady.cons rfl (fun K hK => ?_) AllReady.nil)
    go_simp
    refine hK _ _ ?_
    clear hK K
    refine wpAny_ready (rs := [5]) (by kernel_rfl) (by simp) (AllReady.cons rfl (fun K hK => ?_) AllReady.nil)
    refine event_step rfl (exec_copy rfl rfl rfl HRUN.out) ?_
    refine hK _ _ ?_
    clear hK K
    refine wpAny_done (by kernel_rfl) ?_ _
    go_wp2_with (first | ((with_reducible refine gate_dst (N := 10) rfl ?_); refine Kd.event_run rfl (exec_load rfl rfl HLD2.out) ?_) | ((with_reducible refine gate_dst (N := 12) rfl ?_); refine Kd.event_run rfl (exec_eql Try.eqGuardType23 rfl rfl rfl HEQ.out) ?_))
    go_ret
    exact ⟨by rw [← HFIN.out]; rfl, HB2.out⟩
end Go.Proofs.Ytfnpjfcfgilchaa.AddrW
