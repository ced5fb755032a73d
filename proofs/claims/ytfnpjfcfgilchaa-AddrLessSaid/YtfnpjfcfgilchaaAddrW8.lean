/- Addresses: Of. -/
import Derived.Test.YtfnpjfcfgilchaaAddrW7
namespace Go.Proofs.Ytfnpjfcfgilchaa.AddrW
open Go.RowKit Go.Proofs.Ytfnpjfcfgilchaa.Bits Go.Proofs.Ytfnpjfcfgilchaa.Help Go.Proofs.YtfnpjfcfgilchaaW.PrintWords Go.Proofs.YtfnpjfcfgilchaaW.PrintLast Go.Proofs.YtfnpjfcfgilchaaW.PrintMore
set_option linter.unusedVariables false
set_option linter.unusedSimpArgs false
theorem results_addr {fn : Func} {p u : Tmp} (h : fn.results = #[.cell p 25, .tmp u]) (tmps : Array Value) (w : World) (g : Nat) {v : Bool} {bs : List Int} (hl : bs.length = 16) {t : TypeId} (hp : tmps.getD p undef = .pointer (some ⟨g, 0, none⟩)) (hb : w.heap[g]? = some (.cells (av v bs) t (0, 0))) :
    (results fn tmps).run Try.prog w = .ok (.tuple #[.agg (av v bs), tmps.getD u undef]) w := by
  rw [results_cell_tmp h, hp]
  simp only [asAddr, Sem.run_pure, Result.andThen_ok, load_addr hl hb]
theorem av_oneCell (v : Bool) (bs : List Int) : (av v bs).all (·.oneCell') = true := by
  rw [Array.all_eq_true_iff_forall_mem]
  intro x hx
  simp only [av, nums, List.mem_toArray, List.mem_cons, List.mem_map] at hx
  rcases hx with rfl | ⟨q, _, rfl⟩ <;> rfl
/-- An address stored whole over another one. -/
theorem store_addr {w : World} {g : Nat} {v u : Bool} {bs cs : List Int} (hl : bs.length = 16) (hm : cs.length = 16) {t : TypeId} (hb : w.heap[g]? = some (.cells (av u cs) t (0, 0))) :
    (storeVar 25 ⟨g, 0, none⟩ (.agg (av v bs))).run Try.prog w = .ok () (w.setRow g (av v bs)) :=
  run_storeVar_row w g t 25 _ _ hb (by rw [info_addr, av_size v hl]) (by rw [av_size v hl, av_size u hm]) (av_oneCell v bs)
theorem World.grownBy_setRow' (w : World) (g : Nat) (cs : Array Value) : w.grownBy (w.setRow g cs) (some g) :=
  ⟨rfl, rfl, rfl, by simp, fun k _ hk => setRow_other w g k _ (fun e => hk (by simp [e]))⟩
set_option maxHeartbeats 2000000 in
theorem Of_any (A : Option Addr) (c : Nat) (xs : List Int) (w : World) (hr : Kd.C (Kd.int .u8) w A xs.length xs) :
    Calls Try.prog 10 #[.slice A xs.length c] w fun e w' => e = .returned (.tuple #[.agg (av (ofV xs) (ofB xs)), .int .i64 (ofE xs)]) ∧ Below w.heap.size w w' := by
  have HR := Aside0.mk hr
  clear hr
  go_enter Try.func10, Try.ntmps10
  by_cases h4 : xs.length = 4
  · have e4 : ((xs.length : Int) == 4) = true := by rw [h4]; rfl
    have e6 : ((xs.length : Int) == 16) = false := by rw [h4]; rfl
    go_upto_region 5 with fail
    have hb : ((w.alloc (.cells (av false (zs 16)) 25)).alloc (.cells (av false (zs 16)) 25)).heap[w.heap.size]? = some (.cells (av false (zs 16)) 25 (0, 0)) := blk_alloc (blk_new w _) _
    have hz : ((w.alloc (.cells (av false (zs 16)) 25)).alloc (.cells (av false (zs 16)) 25)).heap[w.heap.size + 1]? = some (.cells (av false (zs 16)) 25 (0, 0)) := blk_new_at (Array.size_push _).symm
    have hW : Below w.heap.size w ((w.alloc (.cells (av false (zs 16)) 25)).alloc (.cells (av false (zs 16)) 25)) := below_alloc (below_alloc (Below.refl _ _) _) _
    have hex : ∃ W, W = (w.alloc (.cells (av false (zs 16)) 25)).alloc (.cells (av false (zs 16)) 25) := ⟨_, rfl⟩
    obtain ⟨W, hWe⟩ := hex
    rw [← hWe] at hb hz hW
    change Code.wp _ _ _ _ ((w.alloc (.cells (av false (zs 16)) 25)).alloc (.cells (av false (zs 16)) 25))
    rw [← hWe]
    clear hWe
    obtain ⟨w1, hrun, hz1, hg⟩ := copy_in (c := c) hz (Kd.C_below HR.out hW) (by omega)
    have hl1 : (xs ++ zs (16 - xs.length)).length = 16 := by simp [zs]; omega
    have hb1 := blk_grown hb hg (by simp)
    have hB1 := hW.grown hg hW.size (fun k hk => by cases hk; exact Nat.le_succ _)
    have HRUN := Aside0.mk hrun
    generalize hys : xs ++ zs (16 - xs.length) = ys at *
    have HLD := Aside0.mk (load_addr hl1 hz1)
    have HST := Aside0.mk (store_addr (v := false) (bs := ys) hl1 (by simp [zs]) hb1)
    have HR2 := Aside0.mk (setRow_heap w1 w.heap.size _ (av false ys) _ _ hb1)
    have HB2 := Aside0.mk (hB1.grown (World.grownBy_setRow' w1 w.heap.size (av false ys)) hB1.size (fun k hk => by cases hk; exact Nat.le_refl _))
    have HL1 := Aside0.mk (And.intro hl1 hys)
    clear hb hz hW hrun hz1 hg hb1 hB1 hl1 HR hys
    go_wp2_with (first | ((with_reducible refine gate_dst (N := 17) rfl ?_); refine Kd.event_run rfl (exec_copy rfl rfl rfl HRUN.out) ?_) | ((with_reducible refine gate_dst (N := 18) rfl ?_); refine Kd.event_run rfl (exec_load rfl rfl HLD.out) ?_) | ((with_reducible refine gate_store (t := 25) (p := 2) (v := .tmp 18) rfl ?_); refine event_skip rfl (exec_store rfl rfl rfl HST.out) ?_))
    refine bodyPost_ret (results_addr rfl _ _ w.heap.size HL1.out.1 rfl HR2.out) rfl ?_
    refine ⟨?_, HB2.out⟩
    rw [← HL1.out.2]
    simp [ofV, ofB, ofE, h4]
  · by_cases h6 : xs.length = 16
    · have e4 : ((xs.length : Int) == 4) = false := by rw [h6]; rfl
      have e6 : ((xs.length : Int) == 16) = true := by rw [h6]; rfl
      go_upto_region 5 with fail
      have hb : ((w.alloc (.cells (av false (zs 16)) 25)).alloc (.cells (av true (zs 16)) 25)).heap[w.heap.size]? = some (.cells (av false (zs 16)) 25 (0, 0)) := blk_alloc (blk_new w _) _
      have hz : ((w.alloc (.cells (av false (zs 16)) 25)).alloc (.cells (av true (zs 16)) 25)).heap[w.heap.size + 1]? = some (.cells (av true (zs 16)) 25 (0, 0)) := blk_new_at (Array.size_push _).symm
      have hW : Below w.heap.size w ((w.alloc (.cells (av false (zs 16)) 25)).alloc (.cells (av true (zs 16)) 25)) := below_alloc (below_alloc (Below.refl _ _) _) _
      have hex : ∃ W, W = (w.alloc (.cells (av false (zs 16)) 25)).alloc (.cells (av true (zs 16)) 25) := ⟨_, rfl⟩
      obtain ⟨W, hWe⟩ := hex
      rw [← hWe] at hb hz hW
      change Code.wp _ _ _ _ ((w.alloc (.cells (av false (zs 16)) 25)).alloc (.cells (av true (zs 16)) 25))
      rw [← hWe]
      clear hWe
      obtain ⟨w1, hrun, hz1, hg⟩ := copy_in (c := c) hz (Kd.C_below HR.out hW) (by omega)
      have hl1 : (xs ++ zs (16 - xs.length)).length = 16 := by simp [zs]; omega
      have hb1 := blk_grown hb hg (by simp)
      have hB1 := hW.grown hg hW.size (fun k hk => by cases hk; exact Nat.le_succ _)
      have HRUN := Aside0.mk hrun
      generalize hys : xs ++ zs (16 - xs.length) = ys at *
      have HLD := Aside0.mk (load_addr hl1 hz1)
      have HST := Aside0.mk (store_addr (v := true) (bs := ys) hl1 (by simp [zs]) hb1)
      have HR2 := Aside0.mk (setRow_heap w1 w.heap.size _ (av true ys) _ _ hb1)
      have HB2 := Aside0.mk (hB1.grown (World.grownBy_setRow' w1 w.heap.size (av true ys)) hB1.size (fun k hk => by cases hk; exact Nat.le_refl _))
      have HL1 := Aside0.mk (And.intro hl1 hys)
      clear hb hz hW hrun hz1 hg hb1 hB1 hl1 HR hys
      go_wp2_with (first | ((with_reducible refine gate_dst (N := 17) rfl ?_); refine Kd.event_run rfl (exec_copy rfl rfl rfl HRUN.out) ?_) | ((with_reducible refine gate_dst (N := 18) rfl ?_); refine Kd.event_run rfl (exec_load rfl rfl HLD.out) ?_) | ((with_reducible refine gate_store (t := 25) (p := 2) (v := .tmp 18) rfl ?_); refine event_skip rfl (exec_store rfl rfl rfl HST.out) ?_))
      refine bodyPost_ret (results_addr rfl _ _ w.heap.size HL1.out.1 rfl HR2.out) rfl ?_
      refine ⟨?_, HB2.out⟩
      rw [← HL1.out.2]
      simp [ofV, ofB, ofE, h6]
    · have e4 : ((xs.length : Int) == 4) = false := by simpa using (by omega : ¬ (xs.length : Int) = 4)
      have e6 : ((xs.length : Int) == 16) = false := by simpa using (by omega : ¬ (xs.length : Int) = 16)
      go_wp2_with fail
      refine bodyPost_ret (results_addr (v := false) (bs := zs 16) rfl _ _ w.heap.size (by simp [zs]) rfl (blk_new w (.cells (av false (zs 16)) 25))) rfl ?_
      refine ⟨?_, below_alloc (Below.refl _ _) _⟩
      simp [ofV, ofB, ofE, h4, h6]
end Go.Proofs.Ytfnpjfcfgilchaa.AddrW
