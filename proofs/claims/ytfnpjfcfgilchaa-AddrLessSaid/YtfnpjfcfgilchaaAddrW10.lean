/- Addresses: the reference's Of. -/
import Derived.Test.YtfnpjfcfgilchaaAddrW8
import Derived.Test.YtfnpjfcfgilchaaAddrW9
namespace Go.Proofs.Ytfnpjfcfgilchaa.AddrW
open Go.RowKit Go.Proofs.Ytfnpjfcfgilchaa.Bits Go.Proofs.Ytfnpjfcfgilchaa.Help Go.Proofs.YtfnpjfcfgilchaaW.PrintWords Go.Proofs.YtfnpjfcfgilchaaW.PrintLast Go.Proofs.YtfnpjfcfgilchaaW.PrintMore
set_option linter.unusedVariables false
set_option linter.unusedSimpArgs false
theorem av_set (v : Bool) (bs : List Int) (i : Nat) (x : Int) : (av v bs).setIfInBounds (1 + i) (.int .u8 x) = av v (bs.set i x) := by
  apply Array.ext'
  rw [Array.toList_setIfInBounds]
  simp only [av, nums]
  rw [Nat.add_comm, List.set_cons_succ, ← List.map_set]
theorem fill_set (xs : List Int) (i n : Nat) (hi : i < n) (hx : i < xs.length) : (xs.take i ++ zs (n - i)).set i (xs.getD i 0) = xs.take (i + 1) ++ zs (n - (i + 1)) := by
  have hl : (xs.take i).length = i := by simp; omega
  rw [List.set_append_right _ _ (by omega), hl, Nat.sub_self, show n - i = (n - (i + 1)) + 1 by omega]
  simp only [zs, List.replicate_succ, List.set_cons_zero]
  rw [List.take_succ_eq_append_getElem hx, List.getD_eq_getElem?_getD, List.getElem?_eq_getElem hx, List.append_assoc]
  rfl
/-- An address stored into a block that was made just now. -/
theorem store_new (w : World) {g : Nat} (hg : g = w.heap.size) {v u : Bool} {bs cs : List Int} (hl : bs.length = 16) (hm : cs.length = 16) :
    (storeVar 25 ⟨g, 0, none⟩ (.agg (av v bs))).run Try.prog (w.alloc (.cells (av u cs) 25)) = .ok () (w.alloc (.cells (av v bs) 25)) := by
  subst hg
  rw [store_addr hl hm (blk_new w _), setRow_alloc]
theorem zs16 : (zs 16).length = 16 := by simp [zs]
theorem ofV_eq (xs : List Int) : ((xs.length : Int) == 16) = ofV xs := by
  rw [ofV, Bool.eq_iff_iff]; simp; omega
set_option maxHeartbeats 1000000 in
theorem RefOf_any (A : Option Addr) (c : Nat) (xs : List Int) (w : World) (hr : Kd.C (Kd.int .u8) w A xs.length xs) :
    Calls Try.prog 11 #[.slice A xs.length c] w fun e w' => e = .returned (.tuple #[.agg (av (ofV xs) (ofB xs)), .int .i64 (ofE xs)]) ∧ Below w.heap.size w w' := by
  have HR := Aside0.mk hr
  clear hr
  by_cases h : xs.length = 4 ∨ xs.length = 16
  · have EB : Aside0 (ofB xs = xs ++ zs (16 - xs.length)) := ⟨if_pos h⟩
    have EE : Aside0 (ofE xs = 0) := ⟨if_pos h⟩
    have hn : xs.length ≤ 16 := by omega
    have EV := ofV_eq xs
    go_enter Try.func11, Try.ntmps11
    rcases h with h | h
    have e4 : ((xs.length : Int) != 4) = false := by rw [h]; rfl
    clear h
    go_upto_region 3 with fail
    rotate_left
    have e4 : ((xs.length : Int) != 4) = true := by rw [h]; rfl
    have e6 : ((xs.length : Int) != 16) = false := by rw [h]; rfl
    clear h
    go_upto_region 3 with fail
    all_goals
      have HST := Aside0.mk (store_new (w.alloc (.cells (av false (zs 16)) 25)) (g := w.heap.size + 1) (Array.size_push _).symm (v := ofV xs) (u := false) zs16 zs16)
      go_wp2_with ((with_reducible refine gate_store (t := 25) (p := 4) (v := .tmp 18) rfl ?_); refine event_skip rfl (exec_store rfl rfl rfl HST.out) ?_)
      have hb : ((w.alloc (.cells (av false (zs 16)) 25)).alloc (.cells (av (ofV xs) (zs 16)) 25)).heap[w.heap.size]? = some (.cells (av false (zs 16)) 25 (0, 0)) := blk_alloc (blk_new w _) _
      have hz : ((w.alloc (.cells (av false (zs 16)) 25)).alloc (.cells (av (ofV xs) (zs 16)) 25)).heap[w.heap.size + 1]? = some (.cells (av (ofV xs) (zs 16)) 25 (0, 0)) := blk_new_at (Array.size_push _).symm
      have hW : Below w.heap.size w ((w.alloc (.cells (av false (zs 16)) 25)).alloc (.cells (av (ofV xs) (zs 16)) 25)) := below_alloc (below_alloc (Below.refl _ _) _) _
      go_loopg [5] xs.length (fun kq v5 w' => ∃ i : Nat, Aside0 (kq + i = xs.length) ∧ v5 = .int .i64 (i : Int) ∧ Aside0 (w'.heap[w.heap.size]? = some (.cells (av false (zs 16)) 25 (0, 0))) ∧ Aside0 (w'.heap[w.heap.size + 1]? = some (.cells (av (ofV xs) (xs.take i ++ zs (16 - i))) 25 (0, 0))) ∧ Aside0 (Below w.heap.size w w'))
      case atStart => exact ⟨0, ⟨by simp⟩, rfl, ⟨hb⟩, ⟨hz⟩, ⟨hW⟩⟩
      case round =>
        clear hb hz hW
        obtain ⟨i, HK, rfl, HB, HZ, HW⟩ := hrel
        cases gk with
        | zero =>
          have hi : i = xs.length := by have := HK.out; omega
          subst hi
          have hlt : decide ((xs.length : Int) < (xs.length : Int)) = false := by simp
          have hz1 := HZ.out
          rw [List.take_length, ← EB.out] at hz1
          have hl1 : (ofB xs).length = 16 := by rw [EB.out]; simp [zs]; omega
          have HLD := Aside0.mk (load_addr hl1 hz1)
          have HST := Aside0.mk (store_addr (v := ofV xs) (bs := ofB xs) hl1 (by simp [zs]) HB.out)
          have HR2 := Aside0.mk (setRow_heap wr w.heap.size _ (av (ofV xs) (ofB xs)) _ _ HB.out)
          have HB2 := Aside0.mk (HW.out.grown (World.grownBy_setRow' wr w.heap.size (av (ofV xs) (ofB xs))) HW.out.size (fun k hk => by cases hk; exact Nat.le_refl _))
          have HL1 := Aside0.mk hl1
          clear hz1 hl1
          go_wp2_with (first | ((with_reducible refine gate_dst (N := 32) rfl ?_); refine Kd.event_run rfl (exec_load rfl rfl HLD.out) ?_) | ((with_reducible refine gate_store (t := 25) (p := 2) (v := .tmp 32) rfl ?_); refine event_skip rfl (exec_store rfl rfl rfl HST.out) ?_))
          refine bodyPost_ret (results_addr rfl _ _ w.heap.size HL1.out rfl HR2.out) rfl ?_
          exact ⟨by rw [EE.out]; rfl, HB2.out⟩
        | succ kq =>
          have hi : i < xs.length := by have := HK.out; omega
          have hlt : decide ((i : Int) < (xs.length : Int)) = true := by simp; omega
          obtain ⟨ad, rfl, hcl⟩ := (Kd.reads_of_C (d := (0 : Int)) (Kd.C_below HR.out HW.out)).2.2 (by omega)
          have hc := hcl i hi
          have hi16 : ((i : Nat) : Int) < 16 := by omega
          have hin : ((i : Nat) : Int) < ((xs.length : Nat) : Int) := by omega
          have hz1 : wr.cell? ⟨w.heap.size + 1, 1 + i, none⟩ = some (.int .u8 ((xs.take i ++ zs (16 - i)).getD i 0)) := (blk_cell HZ.out _).trans (av_at _ (by simp [zs]; omega))
          have hf1 : wr.frozen? ⟨w.heap.size + 1, 1 + i, none⟩ = false := blk_frozen HZ.out _
          have HZ2 : Aside0 ((wr.setCell ⟨w.heap.size + 1, 1 + i, none⟩ (.int .u8 (xs.getD i 0))).heap[w.heap.size + 1]? = some (.cells (av (ofV xs) (xs.take (i + 1) ++ zs (16 - (i + 1)))) 25 (0, 0))) := ⟨by
            rw [blk_set HZ.out, av_set, fill_set xs i 16 (by omega) hi]⟩
          have hg := setCells_grown wr (w.heap.size + 1) [Value.int .u8 (xs.getD i 0)] (1 + i)
          have HB2 : Aside0 ((wr.setCell ⟨w.heap.size + 1, 1 + i, none⟩ (.int .u8 (xs.getD i 0))).heap[w.heap.size]? = some (.cells (av false (zs 16)) 25 (0, 0))) := ⟨blk_grown HB.out hg (by simp)⟩
          have HW2 : Aside0 (Below w.heap.size w (wr.setCell ⟨w.heap.size + 1, 1 + i, none⟩ (.int .u8 (xs.getD i 0)))) := ⟨HW.out.grown hg HW.out.size (fun k hk => by cases hk; exact Nat.le_succ _)⟩
          generalize (xs.take i ++ zs (16 - i)).getD i 0 = y at *
          generalize xs.getD i 0 = x at *
          clear hcl hg HB HW HZ
          go_wp2_with fail
          go_roundg kq
          case measure => omega
          case rel => exact ⟨i + 1, ⟨by have := HK.out; omega⟩, rfl, HB2, HZ2, HW2⟩
  · have e4 : ((xs.length : Int) != 4) = true := by simp; omega
    have e6 : ((xs.length : Int) != 16) = true := by simp; omega
    go_enter Try.func11, Try.ntmps11
    have HST := Aside0.mk (store_new w rfl (v := false) (u := false) zs16 zs16)
    go_wp2_with ((with_reducible refine gate_store (t := 25) (p := 2) (v := .tmp 14) rfl ?_); refine event_skip rfl (exec_store rfl rfl rfl HST.out) ?_)
    refine bodyPost_ret (results_addr (v := false) (bs := zs 16) rfl _ _ w.heap.size (by simp [zs]) rfl (blk_new w (.cells (av false (zs 16)) 25))) rfl ?_
    refine ⟨?_, below_alloc (Below.refl _ _) _⟩
    have hne : ¬ xs.length = 16 := fun e => h (.inr e)
    have hn4 : ¬ xs.length = 4 := fun e => h (.inl e)
    simp [ofV, ofB, ofE, hn4, hne]
end Go.Proofs.Ytfnpjfcfgilchaa.AddrW
