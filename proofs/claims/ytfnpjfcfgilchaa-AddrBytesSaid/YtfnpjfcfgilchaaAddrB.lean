/- AddrB: AddrW9, AddrW10, AddrW11, AddrW12, AddrW13, AddrW14, AddrW15. -/
import Derived.Test.YtfnpjfcfgilchaaAddrL
import Derived.Test.YtfnpjfcfgilchaaBase
import Derived.Test.YtfnpjfcfgilchaaOwn
import Derived.Lib.SliceRun
import Derived.Test.YtfnpjfcfgilchaaAddrA
import Derived.Test.YtfnpjfcfgilchaaWGuard
import Derived.StillTailTactics
import Derived.IntWalk
import Derived.Deep.MidRow
namespace Go.Proofs.Ytfnpjfcfgilchaa.AddrW
open Go.RowKit Go.Proofs.Ytfnpjfcfgilchaa.Own Go.Proofs.Ytfnpjfcfgilchaa.Bits Go.Proofs.Ytfnpjfcfgilchaa.Help Go.Proofs.YtfnpjfcfgilchaaW.PrintWords Go.Proofs.YtfnpjfcfgilchaaW.PrintLast Go.Proofs.YtfnpjfcfgilchaaW.PrintMore
set_option linter.unusedVariables false
set_option linter.unusedSimpArgs false
set_option maxHeartbeats 1000000 in
theorem Clone_any (A : Option Addr) (c : Nat) (xs : List Int) (w : World) (hr : Kd.C (Kd.int .u8) w A xs.length xs) (hl : xs.length ≤ 140737488351232) :
    Calls Try.prog 35 #[.slice A xs.length c] w fun e w' => ∃ v, e = .returned v ∧ Owns w' w.heap.size v xs ∧ Below w.heap.size w w' := by
  have hq : ∀ w : World, (binOp .eql 22 (.slice A xs.length c) (.slice none 0 0)).run Try.prog w = .ok (.bool A.isNone) w := fun w => Lib.run_eql_slice_nil w _ _ _ _ _ _ _ Try.underlying22
  rcases A with _ | ad
  · have h0 : xs = [] := by
      rcases xs with _ | ⟨x, r⟩
      · rfl
      · obtain ⟨ad, h, _⟩ := (Kd.reads_of_C (d := (0 : Int)) hr).2.2 (by simp)
        cases h
    subst h0
    have hq0 : ∀ w : World, (binOp .eql 22 (.slice none 0 c) (.slice none 0 0)).run Try.prog w = .ok (.bool true) w := fun w => hq w
    clear hr hq
    go_enter Try.func35, Try.ntmps35
    go_wp2_with fail
    go_ret
    exact ⟨.slice none 0 0, rfl, Owns.nil _ _, Below.refl _ _⟩
  · have HO : Owns (w.alloc (.cells #[] 5)) w.heap.size (.slice (some ⟨w.heap.size, 0, none⟩) 0 0) [] := World.ownsRow_made w #[] 0 (Nat.le_refl _) (Nat.zero_le _) rfl
    obtain ⟨v1, w1, hrun, hO, hg, _⟩ := append_bytes (ty := 22) (c := c) HO (Kd.C_alloc hr _) (by simp; omega) (by simp)
    have HB := Aside0.mk (Owns.keeps (below_alloc (Below.refl w.heap.size w) _) HO hg)
    rw [List.nil_append] at hO
    have HRUN := Aside0.mk hrun
    have HO1 := Aside0.mk hO
    clear hr HO hrun hO hg
    go_enter Try.func35, Try.ntmps35
    go_wp2_with ((with_reducible refine gate_dst (N := 7) rfl ?_); refine Kd.event_run rfl (exec_append rfl rfl rfl HRUN.out) ?_)
    go_ret
    exact ⟨v1, rfl, HO1.out, HB.out⟩
def byR (v : Bool) (bs : List Int) : List Int := if rightB v bs then bs.take (sz v) else []
def byE (v : Bool) (bs : List Int) : Int := if rightB v bs then 0 else 1
/-- The first bytes of an address, as a slice of it. -/
theorem reads_head {w : World} {g : Nat} {v : Bool} {bs : List Int} {t : TypeId} (hl : bs.length = 16) (hb : w.heap[g]? = some (.cells (av v bs) t (0, 0))) (n : Nat) (hn : n ≤ 16) : Kd.C (Kd.int .u8) w (some ⟨g, 1, none⟩) (bs.take n).length (bs.take n) :=
  C_of_block hb (by simp; omega) fun j hj => by
    have h1 : j < n := by simp at hj; omega
    rw [av_at v (by omega)]
    simp [List.getD_eq_getElem?_getD, List.getElem?_take, h1]
theorem Bytes_any (v : Bool) (bs : List Int) (w : World) (hl : bs.length = 16) :
    Calls Try.prog 12 #[.agg (av v bs)] w fun e w' => ∃ r, e = .returned (.tuple #[r, .int .i64 (byE v bs)]) ∧ Owns w' w.heap.size r (byR v bs) ∧ Below w.heap.size w w' := by
  have hb := blk_new w (.cells (av v bs) 25)
  have HB := Aside0.mk hb
  have HL := Aside0.mk hl
  have HLD := Aside0.mk (load_addr hl hb)
  clear hl hb
  go_enter Try.func12, Try.ntmps12
  go_wp2_with ((with_reducible refine gate_dst (N := 4) rfl ?_); refine Kd.event_run rfl (exec_load rfl rfl HLD.out) ?_)
  refine (Right_any v bs _ HL.out).mono ?_
  rintro e w1 ⟨rfl, hB⟩
  have HB1 := Aside0.mk (blk_below HB.out hB)
  have HW := Aside0.mk (below_step (below_alloc (Below.refl w.heap.size w) _) hB)
  clear HB HLD hB
  by_cases hr : rightB v bs = true
  · have E1 : Aside0 (byR v bs = bs.take (sz v)) := ⟨if_pos hr⟩
    have E2 : Aside0 (byE v bs = 0) := ⟨if_pos hr⟩
    rw [hr]
    have HLD := Aside0.mk (load_addr HL.out HB1.out)
    go_wp2_with ((with_reducible refine gate_dst (N := 8) rfl ?_); refine Kd.event_run rfl (exec_load rfl rfl HLD.out) ?_)
    refine (size_any v bs _).mono ?_
    rintro e w2 ⟨rfl, hB⟩
    replace HB1 := Aside0.mk (blk_below HB1.out hB)
    replace HW := Aside0.mk (below_step HW.out hB)
    clear HLD hB
    have hs := sz_le v
    have hlt : (bs.take (sz v)).length = sz v := by rw [List.length_take, HL.out]; exact Nat.min_eq_left hs
    have HC := Clone_any (some ⟨w.heap.size, 1, none⟩) 16 (bs.take (sz v)) w2 (reads_head HL.out HB1.out _ hs) (by omega)
    rw [hlt] at HC
    have HC2 := Aside0.mk HC
    have hs2 : ((sz v : Nat) : Int) ≤ 16 := by omega
    clear HC hlt hr
    generalize bs.take (sz v) = ys at *
    generalize sz v = n at *
    go_wp2_with fail
    refine HC2.out.mono ?_
    rintro e w3 ⟨r, rfl, hO, hB⟩
    have HO := Aside0.mk (hO.lower HW.out.size)
    replace HW := Aside0.mk (below_step HW.out hB)
    clear hO hB HC2
    go_wp2_with fail
    go_ret2
    exact ⟨r, by rw [E2.out]; rfl, by rw [E1.out]; exact HO.out, HW.out⟩
  · have hr' : rightB v bs = false := by simpa using hr
    have E1 : Aside0 (byR v bs = []) := ⟨if_neg hr⟩
    have E2 : Aside0 (byE v bs = 1) := ⟨if_neg hr⟩
    rw [hr']
    clear hr hr'
    go_wp2_with fail
    go_ret2
    exact ⟨_, by rw [E2.out]; rfl, by rw [E1.out]; exact Owns.nil _ _, HW.out⟩
theorem RefBytes_any (v : Bool) (bs : List Int) (w : World) (hl : bs.length = 16) :
    Calls Try.prog 13 #[.agg (av v bs)] w fun e w' => ∃ r, e = .returned (.tuple #[r, .int .i64 (byE v bs)]) ∧ Owns w' w.heap.size r (byR v bs) ∧ Below w.heap.size w w' := by
  have hb := blk_new w (.cells (av v bs) 25)
  have HB := Aside0.mk hb
  have HL := Aside0.mk hl
  have HLD := Aside0.mk (load_addr hl hb)
  clear hl hb
  go_enter Try.func13, Try.ntmps13
  go_wp2_with ((with_reducible refine gate_dst (N := 6) rfl ?_); refine Kd.event_run rfl (exec_load rfl rfl HLD.out) ?_)
  refine (refRight_any v bs _ HL.out).mono ?_
  rintro e w1 ⟨rfl, hB⟩
  have HB1 := Aside0.mk (blk_below HB.out hB)
  have HW := Aside0.mk (below_step (below_alloc (Below.refl w.heap.size w) _) hB)
  clear HB HLD hB
  by_cases hr : rightB v bs = true
  · have E1 : Aside0 (byR v bs = bs.take (sz v)) := ⟨if_pos hr⟩
    have E2 : Aside0 (byE v bs = 0) := ⟨if_pos hr⟩
    rw [hr]
    clear hr
    go_wp2_with fail
    go_loopg [4, 5] (sz v) (fun kq v4 v5 w' => ∃ i : Nat, Aside0 (kq + i = sz v) ∧ v5 = .int .i64 (i : Int) ∧ Aside0 (w'.heap[w.heap.size]? = some (.cells (av v bs) 25 (0, 0))) ∧ Aside0 (Owns w' w.heap.size v4 (bs.take i)) ∧ Aside0 (Below w.heap.size w w'))
    case atStart => exact ⟨0, ⟨by simp⟩, rfl, HB1, ⟨Owns.nil _ _⟩, HW⟩
    case round =>
      clear HB1 HW
      obtain ⟨i, HK, rfl, HB1, HO, HW⟩ := hrel
      have HLD := Aside0.mk (load_addr HL.out HB1.out)
      go_wp2_with ((with_reducible refine gate_dst (N := 10) rfl ?_); refine Kd.event_run rfl (exec_load rfl rfl HLD.out) ?_)
      refine (refsize_any v bs _).mono ?_
      rintro e w2 ⟨rfl, hB⟩
      have hb := blk_below HB1.out hB
      replace HO := Aside0.mk (HO.out.below hB)
      replace HW := Aside0.mk (below_step HW.out hB)
      clear HB1 HLD hB
      have HB1 := Aside0.mk hb
      clear hb
      have hs := sz_le v
      cases gk with
      | zero =>
        have hi : i = sz v := by have := HK.out; omega
        subst hi
        go_wp2_with fail
        go_ret2
        exact ⟨_, by rw [E2.out]; rfl, by rw [E1.out]; exact HO.out, HW.out⟩
      | succ kq =>
        have hi : i < sz v := by have := HK.out; omega
        have hi2 : ((i : Nat) : Int) < ((sz v : Nat) : Int) := by omega
        have hi3 : ((i : Nat) : Int) < 16 := by omega
        have hc : w2.cell? ⟨w.heap.size, 1 + i, none⟩ = some (.int .u8 (bs.getD i 0)) := (blk_cell HB1.out _).trans (av_at v (by rw [HL.out]; omega))
        have hw := blk_lt HB1.out
        generalize hx : bs.getD i 0 = x at *
        have hone : Kd.C (Kd.int .u8) (w2.alloc (.cells #[.int .u8 x] 5)) (some ⟨w2.heap.size, 0, none⟩) [x].length [x] := C_of_block0 (more := []) (blk_new w2 _) (by simp)
        obtain ⟨v1, w3, hrun, hO, hg, _⟩ := append_bytes (ty := 22) (c := 1) (HO.out.below (below_alloc (Below.refl _ _) _)) hone (by simp; omega) (by have := HW.out.size; simp; omega)
        have hB3 := Owns.keeps (below_alloc HW.out _) (HO.out.below (below_alloc (Below.refl _ _) _)) hg
        have HRUN := Aside0.mk hrun
        have hb3 := blk_grown (blk_alloc HB1.out (.cells #[.int .u8 x] 5)) hg (HO.out.ne HB1.out (by decide))
        have HO3 := Aside0.mk hO
        have HW3 := Aside0.mk hB3
        have HB3 := Aside0.mk hb3
        have HTS : Aside0 (bs.take i ++ [x] = bs.take (i + 1)) := ⟨by rw [List.take_succ_eq_append_getElem (by rw [HL.out]; omega), ← hx, List.getD_eq_getElem?_getD, List.getElem?_eq_getElem (by rw [HL.out]; omega)]; rfl⟩
        clear hone hrun hO hg hB3 hb3 HB1 HO HW hx
        go_wp2_with ((with_reducible refine gate_dst (N := 21) rfl ?_); refine Kd.event_run rfl (exec_append rfl rfl rfl HRUN.out) ?_)
        go_roundg kq
        case measure => omega
        case rel => exact ⟨i + 1, ⟨by have := HK.out; omega⟩, rfl, HB3, ⟨by rw [← HTS.out]; exact HO3.out⟩, HW3⟩
  · have hr' : rightB v bs = false := by simpa using hr
    have E1 : Aside0 (byR v bs = []) := ⟨if_neg hr⟩
    have E2 : Aside0 (byE v bs = 1) := ⟨if_neg hr⟩
    rw [hr']
    clear hr hr'
    go_wp2_with fail
    go_ret2
    exact ⟨_, by rw [E2.out]; rfl, by rw [E1.out]; exact Owns.nil _ _, HW.out⟩
end Go.Proofs.Ytfnpjfcfgilchaa.AddrW
namespace Go.Proofs.Ytfnpjfcfgilchaa.AddrW
open Go.RowKit Go.Proofs.Ytfnpjfcfgilchaa.Bits Go.Proofs.Ytfnpjfcfgilchaa.Help Go.Proofs.YtfnpjfcfgilchaaW.PrintWords Go.Proofs.YtfnpjfcfgilchaaW.PrintLast Go.Proofs.YtfnpjfcfgilchaaW.PrintMore
set_option linter.unusedVariables false
set_option linter.unusedSimpArgs false
theorem av_set (v : Bool) (bs : List Int) (i : Nat) (x : Int) : (av v bs).setIfInBounds (1 + i) (.int .u8 x) = av v (bs.set i x) := by
  apply Array.ext'
  rw [Array.toList_setIfInBounds]
  simp only [av, nums]
  rw [Nat.add_comm, List.set_cons_succ, ← List.map_set]
theorem fill_set (xs : List Int) (i n : Nat) (hi : i < n) (hx : i < xs.length) : (xs.take i ++ zs (n - i)).set i (xs.getD i 0) = xs.take (i + 1) ++ zs (n - (i + 1)) := by
  have hl : (xs.take i).length = i := by simp; omega
  rw [List.set_append_right _ _ (by omega), hl, Nat.sub_self, show n - i = (n - (i + 1)) + 1 by omega]
  simp only [zs, List.replicate_succ, List.set_cons_zero]
  rw [List.take_succ_eq_append_getElem hx, List.getD_eq_getElem?_getD, List.getElem?_eq_getElem hx, List.append_assoc]
  rfl
theorem ofV_eq (xs : List Int) : ((xs.length : Int) == 16) = ofV xs := by
  rw [ofV, Bool.eq_iff_iff]; simp; omega
set_option maxHeartbeats 1000000 in
theorem RefOf_any (A : Option Addr) (c : Nat) (xs : List Int) (w : World) (hr : Kd.C (Kd.int .u8) w A xs.length xs) :
    Calls Try.prog 11 #[.slice A xs.length c] w fun e w' => e = .returned (.tuple #[.agg (av (ofV xs) (ofB xs)), .int .i64 (ofE xs)]) ∧ Below w.heap.size w w' := by
  have HR := Aside0.mk hr
  clear hr
  by_cases h : xs.length = 4 ∨ xs.length = 16
  · have EB : Aside0 (ofB xs = xs ++ zs (16 - xs.length)) := ⟨if_pos h⟩
    have EE : Aside0 (ofE xs = 0) := ⟨if_pos h⟩
    have hn : xs.length ≤ 16 := by omega
    have EV := ofV_eq xs
    go_enter Try.func11, Try.ntmps11
    rcases h with h | h
    have e4 : ((xs.length : Int) != 4) = false := by rw [h]; rfl
    clear h
    go_upto_region 3 with fail
    rotate_left
    have e4 : ((xs.length : Int) != 4) = true := by rw [h]; rfl
    have e6 : ((xs.length : Int) != 16) = false := by rw [h]; rfl
    clear h
    go_upto_region 3 with fail
    all_goals
      have HST := Aside0.mk (store_new (w.alloc (.cells (av false (zs 16)) 25)) (g := w.heap.size + 1) (Array.size_push _).symm (v := ofV xs) (u := false) zs16 zs16)
      go_wp2_with ((with_reducible refine gate_store (t := 25) (p := 4) (v := .tmp 18) rfl ?_); refine event_skip rfl (exec_store rfl rfl rfl HST.out) ?_)
      have hb : ((w.alloc (.cells (av false (zs 16)) 25)).alloc (.cells (av (ofV xs) (zs 16)) 25)).heap[w.heap.size]? = some (.cells (av false (zs 16)) 25 (0, 0)) := blk_alloc (blk_new w _) _
      have hz : ((w.alloc (.cells (av false (zs 16)) 25)).alloc (.cells (av (ofV xs) (zs 16)) 25)).heap[w.heap.size + 1]? = some (.cells (av (ofV xs) (zs 16)) 25 (0, 0)) := blk_new_at (Array.size_push _).symm
      have hW : Below w.heap.size w ((w.alloc (.cells (av false (zs 16)) 25)).alloc (.cells (av (ofV xs) (zs 16)) 25)) := below_alloc (below_alloc (Below.refl _ _) _) _
      go_loopg [5] xs.length (fun kq v5 w' => ∃ i : Nat, Aside0 (kq + i = xs.length) ∧ v5 = .int .i64 (i : Int) ∧ Aside0 (w'.heap[w.heap.size]? = some (.cells (av false (zs 16)) 25 (0, 0))) ∧ Aside0 (w'.heap[w.heap.size + 1]? = some (.cells (av (ofV xs) (xs.take i ++ zs (16 - i))) 25 (0, 0))) ∧ Aside0 (Below w.heap.size w w'))
      case atStart => exact ⟨0, ⟨by simp⟩, rfl, ⟨hb⟩, ⟨hz⟩, ⟨hW⟩⟩
      case round =>
        clear hb hz hW
        obtain ⟨i, HK, rfl, HB, HZ, HW⟩ := hrel
        cases gk with
        | zero =>
          have hi : i = xs.length := by have := HK.out; omega
          subst hi
          have hlt : decide ((xs.length : Int) < (xs.length : Int)) = false := by simp
          have hz1 := HZ.out
          rw [List.take_length, ← EB.out] at hz1
          have hl1 : (ofB xs).length = 16 := by rw [EB.out]; simp [zs]; omega
          have HLD := Aside0.mk (load_addr hl1 hz1)
          have HST := Aside0.mk (store_addr (v := ofV xs) (bs := ofB xs) hl1 (by simp [zs]) HB.out)
          have HR2 := Aside0.mk (setRow_heap wr w.heap.size _ (av (ofV xs) (ofB xs)) _ _ HB.out)
          have HB2 := Aside0.mk (HW.out.grown (World.grownBy_setRow' wr w.heap.size (av (ofV xs) (ofB xs))) HW.out.size (fun k hk => by cases hk; exact Nat.le_refl _))
          have HL1 := Aside0.mk hl1
          clear hz1 hl1
          go_wp2_with (first | ((with_reducible refine gate_dst (N := 32) rfl ?_); refine Kd.event_run rfl (exec_load rfl rfl HLD.out) ?_) | ((with_reducible refine gate_store (t := 25) (p := 2) (v := .tmp 32) rfl ?_); refine event_skip rfl (exec_store rfl rfl rfl HST.out) ?_))
          refine bodyPost_ret (results_addr rfl _ _ w.heap.size HL1.out rfl HR2.out) rfl ?_
          exact ⟨by rw [EE.out]; rfl, HB2.out⟩
        | succ kq =>
          have hi : i < xs.length := by have := HK.out; omega
          have hlt : decide ((i : Int) < (xs.length : Int)) = true := by simp; omega
          obtain ⟨ad, rfl, hcl⟩ := (Kd.reads_of_C (d := (0 : Int)) (Kd.C_below HR.out HW.out)).2.2 (by omega)
          have hc := hcl i hi
          have hi16 : ((i : Nat) : Int) < 16 := by omega
          have hin : ((i : Nat) : Int) < ((xs.length : Nat) : Int) := by omega
          have hz1 : wr.cell? ⟨w.heap.size + 1, 1 + i, none⟩ = some (.int .u8 ((xs.take i ++ zs (16 - i)).getD i 0)) := (blk_cell HZ.out _).trans (av_at _ (by simp [zs]; omega))
          have hf1 : wr.frozen? ⟨w.heap.size + 1, 1 + i, none⟩ = false := blk_frozen HZ.out _
          have HZ2 : Aside0 ((wr.setCell ⟨w.heap.size + 1, 1 + i, none⟩ (.int .u8 (xs.getD i 0))).heap[w.heap.size + 1]? = some (.cells (av (ofV xs) (xs.take (i + 1) ++ zs (16 - (i + 1)))) 25 (0, 0))) := ⟨by
            rw [blk_set HZ.out, av_set, fill_set xs i 16 (by omega) hi]⟩
          have hg := setCells_grown wr (w.heap.size + 1) [Value.int .u8 (xs.getD i 0)] (1 + i)
          have HB2 : Aside0 ((wr.setCell ⟨w.heap.size + 1, 1 + i, none⟩ (.int .u8 (xs.getD i 0))).heap[w.heap.size]? = some (.cells (av false (zs 16)) 25 (0, 0))) := ⟨blk_grown HB.out hg (by simp)⟩
          have HW2 : Aside0 (Below w.heap.size w (wr.setCell ⟨w.heap.size + 1, 1 + i, none⟩ (.int .u8 (xs.getD i 0)))) := ⟨HW.out.grown hg HW.out.size (fun k hk => by cases hk; exact Nat.le_succ _)⟩
          generalize (xs.take i ++ zs (16 - i)).getD i 0 = y at *
          generalize xs.getD i 0 = x at *
          clear hcl hg HB HW HZ
          go_wp2_with fail
          go_roundg kq
          case measure => omega
          case rel => exact ⟨i + 1, ⟨by have := HK.out; omega⟩, rfl, HB2, HZ2, HW2⟩
  · have e4 : ((xs.length : Int) != 4) = true := by simp; omega
    have e6 : ((xs.length : Int) != 16) = true := by simp; omega
    go_enter Try.func11, Try.ntmps11
    have HST := Aside0.mk (store_new w rfl (v := false) (u := false) zs16 zs16)
    go_wp2_with ((with_reducible refine gate_store (t := 25) (p := 2) (v := .tmp 14) rfl ?_); refine event_skip rfl (exec_store rfl rfl rfl HST.out) ?_)
    refine bodyPost_ret (results_addr (v := false) (bs := zs 16) rfl _ _ w.heap.size (by simp [zs]) rfl (blk_new w (.cells (av false (zs 16)) 25))) rfl ?_
    refine ⟨?_, below_alloc (Below.refl _ _) _⟩
    have hne : ¬ xs.length = 16 := fun e => h (.inr e)
    have hn4 : ¬ xs.length = 4 := fun e => h (.inl e)
    simp [ofV, ofB, ofE, hn4, hne]
end Go.Proofs.Ytfnpjfcfgilchaa.AddrW
namespace Go.Proofs.Ytfnpjfcfgilchaa.AddrW
open Go.RowKit Go.Proofs.Ytfnpjfcfgilchaa.AddrM Go.Proofs.Ytfnpjfcfgilchaa.Bits Go.Proofs.Ytfnpjfcfgilchaa.Help Go.Proofs.YtfnpjfcfgilchaaW.PrintWords Go.Proofs.YtfnpjfcfgilchaaW.PrintLast Go.Proofs.YtfnpjfcfgilchaaW.PrintMore
set_option linter.unusedVariables false
set_option linter.unusedSimpArgs false
theorem Bit_any (v : Bool) (bs : List Int) (i : Nat) (w : World) (hl : bs.length = 16) (hi : i < 128) :
    Calls Try.prog 39 #[.agg (av v bs), .int .i64 (i : Int)] w fun e w' => e = .returned (.int .u8 (bitN (bs.getD (i / 8) 0) (i % 8))) ∧ Below w.heap.size w w' := by
  have hb := blk_new w (.cells (av v bs) 25)
  have hc : (w.alloc (.cells (av v bs) 25)).cell? ⟨w.heap.size, 1 + i / 8, none⟩ = some (.int .u8 (bs.getD (i / 8) 0)) := (blk_cell hb _).trans (av_at v (by omega))
  have h16 : ((i / 8 : Nat) : Int) < 16 := by omega
  generalize hx : bs.getD (i / 8) 0 = x at *
  clear hb hx
  go_enter Try.func39, Try.ntmps39
  go_wp2_with fail
  go_ret
  exact ⟨rfl, below_alloc (Below.refl _ _) _⟩
end Go.Proofs.Ytfnpjfcfgilchaa.AddrW
namespace Go.Proofs.Ytfnpjfcfgilchaa.AddrW
open Go.RowKit Go.Proofs.Ytfnpjfcfgilchaa.AddrM Go.Proofs.Ytfnpjfcfgilchaa.Bits Go.Proofs.Ytfnpjfcfgilchaa.Help Go.Proofs.YtfnpjfcfgilchaaW.PrintWords Go.Proofs.YtfnpjfcfgilchaaW.PrintLast Go.Proofs.YtfnpjfcfgilchaaW.PrintMore
set_option linter.unusedVariables false
set_option linter.unusedSimpArgs false
def okM (v : Bool) (bs : List Int) (n : Int) : Prop := rightB v bs = true ∧ 0 ≤ n ∧ n ≤ 8 * (sz v : Int)
instance (v : Bool) (bs : List Int) (n : Int) : Decidable (okM v bs n) := by unfold okM; infer_instance
def mV (v : Bool) (bs : List Int) (n : Int) : Bool := if okM v bs n then v else false
def mB (v : Bool) (bs : List Int) (n : Int) : List Int := if okM v bs n then maskL bs n.toNat else zs 16
def mE (v : Bool) (bs : List Int) (n : Int) : Int := if okM v bs n then 0 else 1
theorem sz_int (v : Bool) : 8 * (sz v : Int) ≤ 128 := by cases v <;> decide
theorem mB_len (v : Bool) (bs : List Int) (n : Int) : (mB v bs n).length = 16 := by unfold mB; split; exact mask_len _ _; exact zs16
theorem mB_all (v : Bool) {bs : List Int} (h : AllB bs) (n : Int) : AllB (mB v bs n) := by
  unfold mB; split
  · exact mask_all h _
  · intro x hx; simp [zs] at hx; omega
/-- An address stored over another one: the block, and what else stays. -/
theorem stored {w W : World} {g : Nat} {v u : Bool} {bs cs : List Int} (hl : bs.length = 16) (hm : cs.length = 16) (hg : w.heap.size ≤ g) (hB : Below w.heap.size w W) (hb : W.heap[g]? = some (.cells (av u cs) 25 (0, 0))) :
    ∃ W1, (storeVar 25 ⟨g, 0, none⟩ (.agg (av v bs))).run Try.prog W = .ok () W1 ∧ W1.heap[g]? = some (.cells (av v bs) 25 (0, 0)) ∧ Below w.heap.size w W1 ∧ W.grownBy W1 (some g) :=
  ⟨_, store_addr hl hm hb, setRow_heap _ _ _ _ _ _ hb, hB.grown (World.grownBy_setRow' _ _ _) hB.size (fun k hk => by cases hk; exact hg), World.grownBy_setRow' _ _ _⟩
section
variable {P : Program} {Q : Exit → Act → World → Prop} {a : Act} {w : World} {l : List Oper}
/-- A drawn region whose last operations wait for all the others: in a world of which F is known. -/
theorem region_tail {id : Nat} (F : World → Prop) (n : Nat) (hm : P.follows .mixedOrders = true) (hB : Region.lexTailB .any l.toArray n = true) (hF : F w.drew)
    (h : ∀ W, F W → wpStill P l.toArray W (fun a' => wpList P l.toArray Q (l.drop n) a' W) (l.take n) a) : (Code.region id l.toArray true).wp P Q a w :=
  wp_region_still_tail n hm hB (h _ hF)
end
/-- What Mask has in memory. -/
structure MF (w W : World) (g : Nat) (v : Bool) (bs ms : List Int) : Prop where
  a : W.heap[w.heap.size]? = some (.cells (av v bs) 25 (0, 0))
  z : W.heap[w.heap.size + 1]? = some (.cells (av false (zs 16)) 25 (0, 0))
  m : W.heap[g]? = some (.cells (av v ms) 25 (0, 0))
  b : Below w.heap.size w W
  g : w.heap.size + 2 ≤ g
theorem MF.drew {w W : World} {g : Nat} {v : Bool} {bs ms : List Int} (h : MF w W g v bs ms) : MF w W.drew g v bs ms := ⟨h.a, h.z, h.m, Below.drew h.b, h.g⟩
theorem MF.turn {w W W1 : World} {g : Nat} {v : Bool} {bs ms ms1 : List Int} (h : MF w W g v bs ms) (hm : W1.heap[g]? = some (.cells (av v ms1) 25 (0, 0))) (hg : W.grownBy W1 (some g)) : MF w W1 g v bs ms1 :=
  have := h.g
  ⟨blk_grown h.a hg (by simp; omega), blk_grown h.z hg (by simp; omega), hm, h.b.grown hg h.b.size (fun k hk => by cases hk; omega), h.g⟩
/-- The first q bytes copied. -/
theorem copy_head {w W : World} {g : Nat} {v : Bool} {bs : List Int} (hl : bs.length = 16) (ha : AllB bs) (h : MF w W g v bs (zs 16)) (q : Nat) (hq : q ≤ 16) :
    ∃ W1, (Builtin.copy_ #[22, 22] 3 #[.slice (some ⟨g, 1, none⟩) q 16, .slice (some ⟨w.heap.size, 1, none⟩) q 16]).run Try.prog W = .ok (.int .i64 (q : Int)) W1 ∧ MF w W1 g v bs (maskL bs (8 * q)) := by
  have hlt : (bs.take q).length = q := by rw [List.length_take, hl]; exact Nat.min_eq_left hq
  obtain ⟨w1, h1, ⟨cs', h2, h3⟩, h4⟩ := copy_reads (P := Try.prog) (dT := 22) (sT := 22) (ty := 3) (dLen := q) (dCap := 16) (c := 16) (o := 1) Try.underlying22 info_b h.m (reads_head hl h.a q hq) (m := q) (by rw [hlt]; exact (Nat.min_self q).symm) (by simp [av, nums, zs]; omega)
  rw [hlt] at h1
  refine ⟨w1, h1, h.turn ?_ h4⟩
  have e : cs' = av v (maskL bs (8 * q)) := Array.ext' (by
    have := av_splice v (bs.take q) (by omega)
    rw [hlt] at this
    rw [h3, List.take_of_length_le (by omega), this, mask_whole ha hl q hq]; rfl)
  rw [h2, e]
theorem mask_store {w W : World} {g : Nat} {v : Bool} {bs ms : List Int} (h : MF w W g v bs ms) (j : Nat) (x : Int) : MF w (W.setCell ⟨g, 1 + j, none⟩ (.int .u8 x)) g v bs (ms.set j x) :=
  h.turn (by rw [blk_set h.m, av_set]) (setCells_grown W g [Value.int .u8 x] (1 + j))
set_option maxHeartbeats 2000000 in
theorem Mask_any (v : Bool) (bs : List Int) (n : Int) (w : World) (hl : bs.length = 16) (ha : AllB bs) (hn0 : -9223372036854775808 ≤ n) (hn1 : n ≤ 9223372036854775807) :
    Calls Try.prog 20 #[.agg (av v bs), .int .i64 n] w fun e w' => e = .returned (.tuple #[.agg (av (mV v bs n) (mB v bs n)), .int .i64 (mE v bs n)]) ∧ Below w.heap.size w w' := by
  have hb : ((w.alloc (.cells (av v bs) 25)).alloc (.cells (av false (zs 16)) 25)).heap[w.heap.size]? = some (.cells (av v bs) 25 (0, 0)) := blk_alloc (blk_new w _) _
  have hz : ((w.alloc (.cells (av v bs) 25)).alloc (.cells (av false (zs 16)) 25)).heap[w.heap.size + 1]? = some (.cells (av false (zs 16)) 25 (0, 0)) := blk_new_at (Array.size_push _).symm
  have HW := Aside0.mk (show Below w.heap.size w ((w.alloc (.cells (av v bs) 25)).alloc (.cells (av false (zs 16)) 25)) from below_alloc (below_alloc (Below.refl _ _) _) _)
  have HB := Aside0.mk hb
  have HZ := Aside0.mk hz
  have HL := Aside0.mk hl
  have HA := Aside0.mk ha
  have HLD := Aside0.mk (load_addr hl hb)
  clear hb hz hl ha
  go_enter Try.func20, Try.ntmps20
  go_wp2_with ((with_reducible refine gate_dst (N := 9) rfl ?_); refine Kd.event_run rfl (exec_load rfl rfl HLD.out) ?_)
  refine (Right_any v bs _ HL.out).mono ?_
  rintro e w1 ⟨rfl, hB⟩
  replace HB := Aside0.mk (blk_below HB.out hB)
  replace HZ := Aside0.mk (blk_below HZ.out hB)
  replace HW := Aside0.mk (below_step HW.out hB)
  clear HLD hB
  obtain ⟨W1, hst, hz1, hW1, -⟩ := stored (v := false) (bs := zs 16) zs16 zs16 (Nat.le_succ _) HW.out HZ.out
  have HST := Aside0.mk hst
  have HZ1 := Aside0.mk hz1
  have HW1 := Aside0.mk hW1
  clear hst hz1 hW1
  by_cases hr : rightB v bs = true
  · by_cases h0 : n < 0
    · have EN : Aside0 (¬ okM v bs n) := ⟨fun h => by have := h.2.1; omega⟩
      have d0 : decide (n < 0) = true := by simpa using h0
      rw [hr]
      clear hr h0
      go_wp2_with ((with_reducible refine gate_store (t := 25) (p := 4) (v := .tmp 23) rfl ?_); refine event_skip rfl (exec_store rfl rfl rfl HST.out) ?_)
      refine bodyPost_ret (results_addr (v := false) (bs := zs 16) rfl _ _ (w.heap.size + 1) zs16 rfl HZ1.out) rfl ?_
      exact ⟨by rw [mV, mB, mE, if_neg EN.out, if_neg EN.out, if_neg EN.out]; rfl, HW1.out⟩
    · have d0 : decide (n < 0) = false := by simpa using h0
      have HLD := Aside0.mk (load_addr HL.out HB.out)
      rw [hr]
      go_wp2_with ((with_reducible refine gate_dst (N := 18) rfl ?_); refine gate_guard (by rfl) ?_; refine Kd.event_run rfl (exec_load rfl rfl HLD.out) ?_)
      refine (size_any v bs _).mono ?_
      rintro e w2 ⟨rfl, hB⟩
      replace HB := Aside0.mk (blk_below HB.out hB)
      replace HZ := Aside0.mk (blk_below HZ.out hB)
      replace HW := Aside0.mk (below_step HW.out hB)
      clear HLD hB HST HZ1 HW1 W1
      have hs := sz_int v
      by_cases h1 : n > 8 * (sz v : Int)
      · have EN : Aside0 (¬ okM v bs n) := ⟨fun h => by have := h.2.2; omega⟩
        have d1 : decide (8 * (sz v : Int) < n) = true := by simpa using h1
        obtain ⟨W1, hst, hz1, hW1, -⟩ := stored (v := false) (bs := zs 16) zs16 zs16 (Nat.le_succ _) HW.out HZ.out
        have HST := Aside0.mk hst
        have HZ1 := Aside0.mk hz1
        have HW1 := Aside0.mk hW1
        clear hst hz1 hW1 hr h0 h1
        go_wp2_with ((with_reducible refine gate_store (t := 25) (p := 4) (v := .tmp 23) rfl ?_); refine event_skip rfl (exec_store rfl rfl rfl HST.out) ?_)
        refine bodyPost_ret (results_addr (v := false) (bs := zs 16) rfl _ _ (w.heap.size + 1) zs16 rfl HZ1.out) rfl ?_
        exact ⟨by rw [mV, mB, mE, if_neg EN.out, if_neg EN.out, if_neg EN.out]; rfl, HW1.out⟩
      · have EN : Aside0 (okM v bs n) := ⟨hr, by omega, by omega⟩
        have d1 : decide (8 * (sz v : Int) < n) = false := by simpa using h1
        obtain ⟨k, rfl⟩ : ∃ k : Nat, n = k := ⟨n.toNat, by omega⟩
        have hk : k ≤ 128 := by omega
        have hg2 : w.heap.size + 2 ≤ w2.heap.size := blk_lt HZ.out
        have hc := (blk_cell HB.out 0).trans (av_at0 v bs)
        have HST := Aside0.mk (store_new w2 rfl (v := v) (u := false) zs16 zs16)
        have HM : Aside0 (MF w (w2.alloc (.cells (av v (zs 16)) 25)) w2.heap.size v bs (zs 16)) := ⟨⟨blk_alloc HB.out _, blk_alloc HZ.out _, blk_new w2 _, below_alloc HW.out _, hg2⟩⟩
        clear HB HZ HW h1 h0 hr hg2
        go_upto_region 5 with ((with_reducible refine gate_store (t := 25) (p := 6) (v := .tmp 26) rfl ?_); refine event_skip rfl (exec_store rfl rfl rfl HST.out) ?_)
        have hq8 : ((k : Int) / 8) ≤ 16 := by omega
        have hq0 : (0 : Int) ≤ ((k : Int) / 8) := by omega
        have hqn : ((k : Int) / 8).toNat = k / 8 := by omega
        generalize hgg : w2.heap.size = g at *
        refine region_tail (fun W => MF w W g v bs (zs 16)) 6 (by kernel_rfl) (by kernel_rfl) HM.out.drew ?_
        clear HM HST hgg w2 hc
        intro W hM
        obtain ⟨W1, hcp, hM1⟩ := copy_head HL.out HA.out hM (k / 8) (by omega)
        have HCP := Aside0.mk hcp
        have HM1 := Aside0.mk hM1
        clear hM hcp hM1
        simp only [List.take_succ_cons, List.take_zero, List.drop_succ_cons, List.drop_zero]
        repeat still_step
        refine wpStill_nil ?_
        by_cases h8 : k % 8 = 0
        · have e8 : decide (0 < (k : Int) % 8) = false := by simp; omega
          have hfin : maskL bs (8 * (k / 8)) = maskL bs ((k : Int)).toNat := by congr 1; omega
          have hm := HM1.out
          rw [hfin] at hm
          have HLD := Aside0.mk (load_addr (mask_len _ _) hm.m)
          obtain ⟨W2, hst, hz2, hW2, -⟩ := stored (v := v) (bs := maskL bs ((k : Int)).toNat) (mask_len _ _) zs16 (Nat.le_succ _) hm.b hm.z
          have HST := Aside0.mk hst
          have HZ2 := Aside0.mk hz2
          have HW2 := Aside0.mk hW2
          clear hm hst hz2 hW2 hfin h8 HM1
          go_wp2_with (first | ((with_reducible refine gate_dst (N := 35) rfl ?_); refine Kd.event_run rfl (exec_copy rfl rfl rfl HCP.out) ?_) | ((with_reducible refine gate_dst (N := 50) rfl ?_); refine Kd.event_run rfl (exec_load rfl rfl HLD.out) ?_) | ((with_reducible refine gate_store (t := 25) (p := 4) (v := .tmp 50) rfl ?_); refine event_skip rfl (exec_store rfl rfl rfl HST.out) ?_))
          refine bodyPost_ret (results_addr (v := v) (bs := maskL bs ((k : Int)).toNat) rfl _ _ (w.heap.size + 1) (mask_len _ _) rfl HZ2.out) rfl ?_
          exact ⟨by rw [mV, mB, mE, if_pos EN.out, if_pos EN.out, if_pos EN.out]; rfl, HW2.out⟩
        · have e8 : decide (0 < (k : Int) % 8) = true := by simp; omega
          go_upto_region 8 with ((with_reducible refine gate_dst (N := 35) rfl ?_); refine Kd.event_run rfl (exec_copy rfl rfl rfl HCP.out) ?_)
          refine region_tail (fun W => MF w W g v bs (maskL bs (8 * (k / 8)))) 10 (by kernel_rfl) (by kernel_rfl) HM1.out.drew ?_
          clear HM1 HCP W1 W
          intro W hM
          have hk2 : k < 128 := by omega
          have hq16 : ((k : Int) / 8) < 16 := by omega
          have ca : W.cell? ⟨w.heap.size, 1 + k / 8, none⟩ = some (.int .u8 (bs.getD (k / 8) 0)) := (blk_cell hM.a _).trans (av_at v (by have := HL.out; omega))
          have cm : W.cell? ⟨g, 1 + k / 8, none⟩ = some (.int .u8 ((maskL bs (8 * (k / 8))).getD (k / 8) 0)) := (blk_cell hM.m _).trans (av_at v (by rw [mask_len]; omega))
          have fm : W.frozen? ⟨g, 1 + k / 8, none⟩ = false := blk_frozen hM.m _
          obtain ⟨x, hx⟩ := byte_of (getD_b HA.out (k / 8))
          have hnot : bits .andNot .u8 (bs.getD (k / 8) 0) (255 / 2 ^ ((k : Int) % 8).toNat) = bm (bs.getD (k / 8) 0) (k % 8) := by rw [show ((k : Int) % 8).toNat = k % 8 by omega, hx]; exact not_step x ⟨k % 8, by omega⟩
          have hset := mask_rest HA.out k hk2 (by omega)
          have hm := mask_store hM (k / 8) (bm (bs.getD (k / 8) 0) (k % 8))
          rw [hset] at hm
          have HM1 := Aside0.mk hm
          clear hm hM hset h8 hk2 hx x
          generalize (maskL bs (8 * (k / 8))).getD (k / 8) 0 = y at *
          generalize bm (bs.getD (k / 8) 0) (k % 8) = z at *
          generalize bs.getD (k / 8) 0 = x at *
          simp only [List.take_succ_cons, List.take_zero, List.drop_succ_cons, List.drop_zero]
          repeat still_step
          refine wpStill_nil ?_
          have HLD := Aside0.mk (load_addr (mask_len _ _) HM1.out.m)
          obtain ⟨W2, hst, hz2, hW2, -⟩ := stored (v := v) (bs := maskL bs k) (mask_len _ _) zs16 (Nat.le_succ _) HM1.out.b HM1.out.z
          have HST := Aside0.mk hst
          have HZ2 := Aside0.mk hz2
          have HW2 := Aside0.mk hW2
          clear hst hz2 hW2 HM1
          go_wp2_with (first | ((with_reducible refine gate_dst (N := 50) rfl ?_); refine Kd.event_run rfl (exec_load rfl rfl HLD.out) ?_) | ((with_reducible refine gate_store (t := 25) (p := 4) (v := .tmp 50) rfl ?_); refine event_skip rfl (exec_store rfl rfl rfl HST.out) ?_))
          refine bodyPost_ret (results_addr (v := v) (bs := maskL bs k) rfl _ _ (w.heap.size + 1) (mask_len _ _) rfl HZ2.out) rfl ?_
          exact ⟨by rw [mV, mB, mE, if_pos EN.out, if_pos EN.out, if_pos EN.out]; rfl, HW2.out⟩
  · have EN : Aside0 (¬ okM v bs n) := ⟨fun h => hr h.1⟩
    have hr' : rightB v bs = false := by simpa using hr
    rw [hr']
    clear hr hr'
    go_wp2_with ((with_reducible refine gate_store (t := 25) (p := 4) (v := .tmp 23) rfl ?_); refine event_skip rfl (exec_store rfl rfl rfl HST.out) ?_)
    refine bodyPost_ret (results_addr (v := false) (bs := zs 16) rfl _ _ (w.heap.size + 1) zs16 rfl HZ1.out) rfl ?_
    exact ⟨by rw [mV, mB, mE, if_neg EN.out, if_neg EN.out, if_neg EN.out]; rfl, HW1.out⟩
end Go.Proofs.Ytfnpjfcfgilchaa.AddrW
namespace Go.Proofs.Ytfnpjfcfgilchaa.AddrW
open Go.RowKit Go.Proofs.Ytfnpjfcfgilchaa.AddrM Go.Proofs.Ytfnpjfcfgilchaa.Bits Go.Proofs.Ytfnpjfcfgilchaa.Help Go.Proofs.YtfnpjfcfgilchaaW.PrintWords Go.Proofs.YtfnpjfcfgilchaaW.PrintLast Go.Proofs.YtfnpjfcfgilchaaW.PrintMore
set_option linter.unusedVariables false
set_option linter.unusedSimpArgs false
theorem MF.below {w W W1 : World} {g : Nat} {v : Bool} {bs ms : List Int} (h : MF w W g v bs ms) (hB : Below W.heap.size W W1) : MF w W1 g v bs ms := ⟨blk_below h.a hB, blk_below h.z hB, blk_below h.m hB, below_step h.b hB, h.g⟩
set_option maxHeartbeats 20000000 in
theorem RefMask_any (v : Bool) (bs : List Int) (n : Int) (w : World) (hl : bs.length = 16) (ha : AllB bs) (hn0 : -9223372036854775808 ≤ n) (hn1 : n ≤ 9223372036854775807) :
    Calls Try.prog 21 #[.agg (av v bs), .int .i64 n] w fun e w' => e = .returned (.tuple #[.agg (av (mV v bs n) (mB v bs n)), .int .i64 (mE v bs n)]) ∧ Below w.heap.size w w' := by
  have hb : ((w.alloc (.cells (av v bs) 25)).alloc (.cells (av false (zs 16)) 25)).heap[w.heap.size]? = some (.cells (av v bs) 25 (0, 0)) := blk_alloc (blk_new w _) _
  have hz : ((w.alloc (.cells (av v bs) 25)).alloc (.cells (av false (zs 16)) 25)).heap[w.heap.size + 1]? = some (.cells (av false (zs 16)) 25 (0, 0)) := blk_new_at (Array.size_push _).symm
  have HW := Aside0.mk (show Below w.heap.size w ((w.alloc (.cells (av v bs) 25)).alloc (.cells (av false (zs 16)) 25)) from below_alloc (below_alloc (Below.refl _ _) _) _)
  have HB := Aside0.mk hb
  have HZ := Aside0.mk hz
  have HL := Aside0.mk hl
  have HA := Aside0.mk ha
  have HLD := Aside0.mk (load_addr hl hb)
  clear hb hz hl ha
  go_enter Try.func21, Try.ntmps21
  go_wp2_with ((with_reducible refine gate_dst (N := 8) rfl ?_); refine Kd.event_run rfl (exec_load rfl rfl HLD.out) ?_)
  refine (refRight_any v bs _ HL.out).mono ?_
  rintro e w1 ⟨rfl, hB⟩
  replace HB := Aside0.mk (blk_below HB.out hB)
  replace HZ := Aside0.mk (blk_below HZ.out hB)
  replace HW := Aside0.mk (below_step HW.out hB)
  clear HLD hB
  obtain ⟨W1, hst, hz1, hW1, -⟩ := stored (v := false) (bs := zs 16) zs16 zs16 (Nat.le_succ _) HW.out HZ.out
  have HST := Aside0.mk hst
  have HZ1 := Aside0.mk hz1
  have HW1 := Aside0.mk hW1
  clear hst hz1 hW1
  by_cases hr : rightB v bs = true
  · by_cases h0 : n < 0
    · have EN : Aside0 (¬ okM v bs n) := ⟨fun h => by have := h.2.1; omega⟩
      have d0 : decide (n < 0) = true := by simpa using h0
      rw [hr]
      clear hr h0
      go_wp2_with ((with_reducible refine gate_store (t := 25) (p := 4) (v := .tmp 22) rfl ?_); refine event_skip rfl (exec_store rfl rfl rfl HST.out) ?_)
      refine bodyPost_ret (results_addr (v := false) (bs := zs 16) rfl _ _ (w.heap.size + 1) zs16 rfl HZ1.out) rfl ?_
      exact ⟨by rw [mV, mB, mE, if_neg EN.out, if_neg EN.out, if_neg EN.out]; rfl, HW1.out⟩
    · have d0 : decide (n < 0) = false := by simpa using h0
      have HLD := Aside0.mk (load_addr HL.out HB.out)
      rw [hr]
      go_wp2_with ((with_reducible refine gate_dst (N := 17) rfl ?_); refine gate_guard (by rfl) ?_; refine Kd.event_run rfl (exec_load rfl rfl HLD.out) ?_)
      refine (refsize_any v bs _).mono ?_
      rintro e w2 ⟨rfl, hB⟩
      replace HB := Aside0.mk (blk_below HB.out hB)
      replace HZ := Aside0.mk (blk_below HZ.out hB)
      replace HW := Aside0.mk (below_step HW.out hB)
      clear HLD hB HST HZ1 HW1 W1
      have hs := sz_int v
      by_cases h1 : n > 8 * (sz v : Int)
      · have EN : Aside0 (¬ okM v bs n) := ⟨fun h => by have := h.2.2; omega⟩
        have d1 : decide (8 * (sz v : Int) < n) = true := by simpa using h1
        obtain ⟨W1, hst, hz1, hW1, -⟩ := stored (v := false) (bs := zs 16) zs16 zs16 (Nat.le_succ _) HW.out HZ.out
        have HST := Aside0.mk hst
        have HZ1 := Aside0.mk hz1
        have HW1 := Aside0.mk hW1
        clear hst hz1 hW1 hr h0 h1
        go_wp2_with ((with_reducible refine gate_store (t := 25) (p := 4) (v := .tmp 22) rfl ?_); refine event_skip rfl (exec_store rfl rfl rfl HST.out) ?_)
        refine bodyPost_ret (results_addr (v := false) (bs := zs 16) rfl _ _ (w.heap.size + 1) zs16 rfl HZ1.out) rfl ?_
        exact ⟨by rw [mV, mB, mE, if_neg EN.out, if_neg EN.out, if_neg EN.out]; rfl, HW1.out⟩
      · have EN : Aside0 (okM v bs n) := ⟨hr, by omega, by omega⟩
        have d1 : decide (8 * (sz v : Int) < n) = false := by simpa using h1
        obtain ⟨k, rfl⟩ : ∃ k : Nat, n = k := ⟨n.toNat, by omega⟩
        have hk : k ≤ 128 := by omega
        have hg2 : w.heap.size + 2 ≤ w2.heap.size := blk_lt HZ.out
        have hc := (blk_cell HB.out 0).trans (av_at0 v bs)
        have HST := Aside0.mk (store_new w2 rfl (v := v) (u := false) zs16 zs16)
        have HM : Aside0 (MF w (w2.alloc (.cells (av v (zs 16)) 25)) w2.heap.size v bs (zs 16)) := ⟨⟨blk_alloc HB.out _, blk_alloc HZ.out _, blk_new w2 _, below_alloc HW.out _, hg2⟩⟩
        clear HB HZ HW h1 h0 hr hg2
        replace HM : Aside0 (MF w (w2.alloc (.cells (av v (zs 16)) 25)) w2.heap.size v bs (maskL bs 0)) := by rw [mask_zero HA.out]; exact HM
        go_wp2_with ((with_reducible refine gate_store (t := 25) (p := 6) (v := .tmp 25) rfl ?_); refine event_skip rfl (exec_store rfl rfl rfl HST.out) ?_)
        have HK8 := Aside0.mk hs
        clear hs
        generalize hgg : w2.heap.size = g at *
        go_loopg [7] k (fun kq v7 w' => ∃ i : Nat, Aside0 (kq + i = k) ∧ v7 = .int .i64 (i : Int) ∧ Aside0 (MF w w' g v bs (maskL bs i)))
        case atStart => exact ⟨0, ⟨by simp⟩, rfl, HM⟩
        case round =>
          clear HM HST hgg hc w2
          obtain ⟨i, HK, rfl, HM⟩ := hrel
          cases gk with
          | zero =>
            have hi : i = k := by have := HK.out; omega
            subst hi
            have hlt : decide ((i : Int) < (i : Int)) = false := by simp
            have HLD := Aside0.mk (load_addr (mask_len _ _) HM.out.m)
            obtain ⟨W2, hst, hz2, hW2, -⟩ := stored (v := v) (bs := maskL bs i) (mask_len _ _) zs16 (Nat.le_succ _) HM.out.b HM.out.z
            have HST := Aside0.mk hst
            have HZ2 := Aside0.mk hz2
            have HW2 := Aside0.mk hW2
            clear hst hz2 hW2 HM
            go_wp2_with (first | ((with_reducible refine gate_dst (N := 49) rfl ?_); refine Kd.event_run rfl (exec_load rfl rfl HLD.out) ?_) | ((with_reducible refine gate_store (t := 25) (p := 4) (v := .tmp 49) rfl ?_); refine event_skip rfl (exec_store rfl rfl rfl HST.out) ?_))
            refine bodyPost_ret (results_addr (v := v) (bs := maskL bs i) rfl _ _ (w.heap.size + 1) (mask_len _ _) rfl HZ2.out) rfl ?_
            exact ⟨by rw [mV, mB, mE, if_pos EN.out, if_pos EN.out, if_pos EN.out]; rfl, HW2.out⟩
          | succ kq =>
            have hi : i < k := by have := HK.out; omega
            have hlt : decide ((i : Int) < (k : Int)) = true := by simp; omega
            have h16 : (i : Int) / 8 < 16 := by omega
            have h160 : (0 : Int) ≤ (i : Int) / 8 := by omega
            have h8a : (0 : Int) ≤ (i : Int) % 8 := by omega
            have h8b : (i : Int) % 8 < 8 := by omega
            have hw1 : IntKind.i64.wrap ((i : Int) / 8) = (i : Int) / 8 := IntWalk.i64_in _ (by omega)
            have hw2 : (i : Int).tmod 8 = (i : Int) % 8 := Int.tmod_eq_emod_of_nonneg (by omega)
            have hw4 : IntKind.u64.wrap (7 - (i : Int) % 8) = 7 - (i : Int) % 8 := wrap_u64_id (by omega) (by omega)
            have hn2 : (7 - (i : Int) % 8).toNat = 7 - i % 8 := by omega
            have hw3 : IntKind.i64.wrap (7 - (i : Int) % 8) = 7 - (i : Int) % 8 := IntWalk.i64_in _ (by omega)
            have hn1 : ((i : Int) / 8).toNat = i / 8 := by omega
            have HM1 := Aside0.mk HM.out.drew
            clear HM
            go_upto_region 7 with fail
            have hB8 : i < 128 := by have := HK8.out; omega
            obtain ⟨y, hy⟩ : ∃ y, (maskL bs i).getD (i / 8) 0 = y := ⟨_, rfl⟩
            obtain ⟨z, hz⟩ : ∃ z, bitN (bs.getD (i / 8) 0) (i % 8) = z := ⟨_, rfl⟩
            have HC : Aside0 (∀ W : World, MF w W g v bs (maskL bs i) → W.cell? ⟨g, 1 + i / 8, none⟩ = some (.int .u8 y)) := ⟨fun W hW => by rw [← hy]; exact (blk_cell hW.m _).trans (av_at v (by rw [mask_len]; omega))⟩
            have HBit : Aside0 (∀ W : World, Calls Try.prog 39 #[.agg (av v bs), .int .i64 (i : Int)] W fun e w' => e = .returned (.int .u8 z) ∧ Below W.heap.size W w') := ⟨fun W => hz ▸ Bit_any v bs i W HL.out hB8⟩
            obtain ⟨x, hx⟩ := byte_of (getD_b HA.out (i / 8))
            have hor : bits .or .u8 y (IntKind.u8.wrap (z * 2 ^ (7 - i % 8))) = bm (bs.getD (i / 8) 0) (i % 8 + 1) := by
              rw [← hy, ← hz, mask_getD _ _ (by omega), show i - 8 * (i / 8) = i % 8 by omega, hx]
              exact or_step x ⟨i % 8, by omega⟩
            have HS : Aside0 ((maskL bs i).set (i / 8) (bm (bs.getD (i / 8) 0) (i % 8 + 1)) = maskL bs (i + 1)) := ⟨mask_succ HA.out i hB8⟩
            clear hy hz hx x
            generalize bm (bs.getD (i / 8) 0) (i % 8 + 1) = x at *
            refine RegionF.region_F (F := (fun W => MF w W g v bs (maskL bs i))) 18 (by kernel_rfl) (by kernel_rfl) HM1.out ?_
            simp only [List.take_succ_cons, List.take_zero, List.drop_succ_cons, List.drop_zero]
            clear HM1
            apply RegionF.wpF_step
            · rfl
            · (intro W hW; go_simp; exact RegionF.GivesF.value rfl hW)
            refine RegionF.wpF_put (fun K' hK' => ?_)
            go_simp
            refine hK' _ ?_
            clear hK' K'
            apply RegionF.wpF_step
            · rfl
            · (intro W hW; go_simp; exact RegionF.GivesF.value rfl hW)
            refine RegionF.wpF_put (fun K' hK' => ?_)
            go_simp
            refine hK' _ ?_
            clear hK' K'
            apply RegionF.wpF_step
            · rfl
            · (intro W hW; go_simp; exact RegionF.GivesF.value rfl hW)
            refine RegionF.wpF_put (fun K' hK' => ?_)
            go_simp
            refine hK' _ ?_
            clear hK' K'
            apply RegionF.wpF_step
            · rfl
            · (intro W hW; go_simp; exact RegionF.GivesF.value rfl hW)
            refine RegionF.wpF_put (fun K' hK' => ?_)
            go_simp
            refine hK' _ ?_
            clear hK' K'
            apply RegionF.wpF_step
            · rfl
            · (intro W hW; go_simp; exact RegionF.GivesF.value rfl hW)
            refine RegionF.wpF_put (fun K' hK' => ?_)
            go_simp
            refine hK' _ ?_
            clear hK' K'
            apply RegionF.wpF_step
            · rfl
            · (intro W hW; go_simp; exact RegionF.GivesF.value rfl hW)
            refine RegionF.wpF_put (fun K' hK' => ?_)
            go_simp
            refine hK' _ ?_
            clear hK' K'
            apply RegionF.wpF_step
            · rfl
            · (intro W hW; have hc := HC.out W hW; go_simp; exact RegionF.GivesF.value rfl hW)
            refine RegionF.wpF_put (fun K' hK' => ?_)
            go_simp
            refine hK' _ ?_
            clear hK' K'
            apply RegionF.wpF_step
            · rfl
            · (intro W hW; rw [exec_load rfl rfl (load_addr HL.out hW.a)]; exact RegionF.GivesF.value rfl hW)
            refine RegionF.wpF_put (fun K' hK' => ?_)
            go_simp
            refine hK' _ ?_
            clear hK' K'
            apply RegionF.wpF_step
            · rfl
            · (intro W hW; go_simp; exact RegionF.GivesF.value rfl hW)
            refine RegionF.wpF_put (fun K' hK' => ?_)
            go_simp
            refine hK' _ ?_
            clear hK' K'
            apply RegionF.wpF_step
            · rfl
            · (intro W hW; go_simp; exact RegionF.GivesF.enter ((HBit.out W).mono fun e w1 h => ⟨h.1, hW.below h.2⟩))
            refine RegionF.wpF_put (fun K' hK' => ?_)
            go_simp
            refine hK' _ ?_
            clear hK' K'
            apply RegionF.wpF_step
            · rfl
            · (intro W hW; go_simp; exact RegionF.GivesF.value rfl hW)
            refine RegionF.wpF_put (fun K' hK' => ?_)
            go_simp
            refine hK' _ ?_
            clear hK' K'
            apply RegionF.wpF_step
            · rfl
            · (intro W hW; go_simp; exact RegionF.GivesF.value rfl hW)
            refine RegionF.wpF_put (fun K' hK' => ?_)
            go_simp
            refine hK' _ ?_
            clear hK' K'
            apply RegionF.wpF_step
            · rfl
            · (intro W hW; go_simp; exact RegionF.GivesF.value rfl hW)
            refine RegionF.wpF_put (fun K' hK' => ?_)
            go_simp
            refine hK' _ ?_
            clear hK' K'
            apply RegionF.wpF_step
            · rfl
            · (intro W hW; go_simp; exact RegionF.GivesF.value rfl hW)
            refine RegionF.wpF_put (fun K' hK' => ?_)
            go_simp
            refine hK' _ ?_
            clear hK' K'
            apply RegionF.wpF_step
            · rfl
            · (intro W hW; go_simp; exact RegionF.GivesF.value rfl hW)
            refine RegionF.wpF_put (fun K' hK' => ?_)
            go_simp
            refine hK' _ ?_
            clear hK' K'
            apply RegionF.wpF_step
            · rfl
            · (intro W hW; go_simp; exact RegionF.GivesF.value rfl hW)
            refine RegionF.wpF_put (fun K' hK' => ?_)
            go_simp
            refine hK' _ ?_
            clear hK' K'
            apply RegionF.wpF_step
            · rfl
            · (intro W hW; go_simp; exact RegionF.GivesF.value rfl hW)
            refine RegionF.wpF_put (fun K' hK' => ?_)
            go_simp
            refine hK' _ ?_
            clear hK' K'
            apply RegionF.wpF_step
            · rfl
            · (intro W hW; go_simp; exact RegionF.GivesF.value rfl hW)
            refine RegionF.wpF_put (fun K' hK' => ?_)
            go_simp
            refine hK' _ ?_
            clear hK' K'
            refine RegionF.wpF_nil (fun W hW => ?_)
            have cm := HC.out W hW
            have fm : W.frozen? ⟨g, 1 + i / 8, none⟩ = false := blk_frozen hW.m _
            have hm := mask_store hW (i / 8) x
            rw [HS.out] at hm
            have HM3 := Aside0.mk hm
            clear hm hW HC HBit HS hor
            go_wp2_with fail
            go_roundg kq
            case measure => omega
            case rel => exact ⟨i + 1, ⟨by have := HK.out; omega⟩, rfl, HM3⟩
  · have EN : Aside0 (¬ okM v bs n) := ⟨fun h => hr h.1⟩
    have hr' : rightB v bs = false := by simpa using hr
    rw [hr']
    clear hr hr'
    go_wp2_with ((with_reducible refine gate_store (t := 25) (p := 4) (v := .tmp 22) rfl ?_); refine event_skip rfl (exec_store rfl rfl rfl HST.out) ?_)
    refine bodyPost_ret (results_addr (v := false) (bs := zs 16) rfl _ _ (w.heap.size + 1) zs16 rfl HZ1.out) rfl ?_
    exact ⟨by rw [mV, mB, mE, if_neg EN.out, if_neg EN.out, if_neg EN.out]; rfl, HW1.out⟩
end Go.Proofs.Ytfnpjfcfgilchaa.AddrW
namespace Go.Proofs.Ytfnpjfcfgilchaa.AddrW
open Go.RowKit Go.Proofs.Ytfnpjfcfgilchaa.AddrEq Go.Proofs.Ytfnpjfcfgilchaa.AddrM Go.Proofs.Ytfnpjfcfgilchaa.Bits Go.Proofs.Ytfnpjfcfgilchaa.Help Go.Proofs.YtfnpjfcfgilchaaW.PrintWords Go.Proofs.YtfnpjfcfgilchaaW.PrintLast Go.Proofs.YtfnpjfcfgilchaaW.PrintMore
set_option linter.unusedVariables false
set_option linter.unusedSimpArgs false
def wiB (v : Bool) (bs : List Int) (u : Bool) (cs : List Int) (n : Int) : Bool := mE v bs n == 0 && (mE u cs n == 0 && (mV v bs n == mV u cs n && decide (mB v bs n = mB u cs n)))
/-- The sixteen bytes of an address loaded. -/
theorem load_b16 {w : World} {g : Nat} {v : Bool} {bs : List Int} (hl : bs.length = 16) {t : TypeId} (hb : w.heap[g]? = some (.cells (av v bs) t (0, 0))) : (loadVar 23 ⟨g, 1, none⟩).run Try.prog w = .ok (.agg (nums .u8 bs).toArray) w :=
  run_loadVar_mid w g 1 23 (nums .u8 bs) _ (fun j x hx => by
    have hj : j < bs.length := by have := (List.getElem?_eq_some_iff.1 hx).1; simpa [nums] using this
    rw [blk_cell hb, av_at v hj, ← hx]
    simp [nums, List.getElem?_eq_getElem hj, List.getD_eq_getElem?_getD]) Try.underlying23 rfl (by
    have h : (Try.prog.info? 23).map (·.size) = some 16 := by kernel_rfl
    rw [h]; simp [nums, hl])
set_option maxHeartbeats 4000000 in
theorem Within_any (v : Bool) (bs : List Int) (u : Bool) (cs : List Int) (n : Int) (w : World) (hl : bs.length = 16) (ha : AllB bs) (hm : cs.length = 16) (hb : AllB cs) (hn0 : -9223372036854775808 ≤ n) (hn1 : n ≤ 9223372036854775807) :
    Calls Try.prog 22 #[.agg (av v bs), .agg (av u cs), .int .i64 n] w fun e w' => e = .returned (.bool (wiB v bs u cs n)) ∧ Below w.heap.size w w' := by
  have hx : ((w.alloc (.cells (av v bs) 25)).alloc (.cells (av u cs) 25)).heap[w.heap.size]? = some (.cells (av v bs) 25 (0, 0)) := blk_alloc (blk_new w _) _
  have hy : ((w.alloc (.cells (av v bs) 25)).alloc (.cells (av u cs) 25)).heap[w.heap.size + 1]? = some (.cells (av u cs) 25 (0, 0)) := blk_new_at (Array.size_push _).symm
  have HW := Aside0.mk (show Below w.heap.size w ((w.alloc (.cells (av v bs) 25)).alloc (.cells (av u cs) 25)) from below_alloc (below_alloc (Below.refl _ _) _) _)
  have HX := Aside0.mk hx
  have HY := Aside0.mk hy
  have HL := Aside0.mk (And.intro hl ha)
  have HM := Aside0.mk (And.intro hm hb)
  have HN := Aside0.mk (And.intro hn0 hn1)
  have HLD := Aside0.mk (load_addr hl hx)
  clear hx hy hl ha hm hb hn0 hn1
  go_enter Try.func22, Try.ntmps22
  go_wp2_with ((with_reducible refine gate_dst (N := 12) rfl ?_); refine Kd.event_run rfl (exec_load rfl rfl HLD.out) ?_)
  refine (Mask_any v bs n _ HL.out.1 HL.out.2 HN.out.1 HN.out.2).mono ?_
  rintro e w1 ⟨rfl, hB⟩
  have HX1 := Aside0.mk (load_addr HM.out.1 (blk_alloc (blk_below HY.out hB) (.cells (av (mV v bs n) (mB v bs n)) 25)))
  have HW1 := Aside0.mk (below_alloc (below_step HW.out hB) (.cells (av (mV v bs n) (mB v bs n)) 25))
  have HST := Aside0.mk (store_new w1 rfl (v := mV v bs n) (u := false) (mB_len v bs n) zs16)
  have HA1 := Aside0.mk (blk_new w1 (.cells (av (mV v bs n) (mB v bs n)) 25))
  clear hB HX HY HW HLD
  go_wp2_with (first | ((with_reducible refine gate_store (t := 25) (p := 7) (v := .tmp 15) rfl ?_); refine event_skip rfl (exec_store rfl rfl rfl HST.out) ?_) | ((with_reducible refine gate_dst (N := 18) rfl ?_); refine Kd.event_run rfl (exec_load rfl rfl HX1.out) ?_))
  refine (Mask_any u cs n _ HM.out.1 HM.out.2 HN.out.1 HN.out.2).mono ?_
  rintro e w2 ⟨rfl, hB⟩
  have HA2 := Aside0.mk (blk_alloc (blk_below HA1.out hB) (.cells (av (mV u cs n) (mB u cs n)) 25))
  have HB2 := Aside0.mk (blk_new w2 (.cells (av (mV u cs n) (mB u cs n)) 25))
  have HW2 := Aside0.mk (below_alloc (below_step HW1.out hB) (.cells (av (mV u cs n) (mB u cs n)) 25))
  have HST2 := Aside0.mk (store_new w2 rfl (v := mV u cs n) (u := false) (mB_len u cs n) zs16)
  clear hB HX1 HW1 HST HA1
  have c1 := (blk_cell HA2.out 0).trans (av_at0 _ _)
  have c2 := (blk_cell HB2.out 0).trans (av_at0 _ _)
  have HL1 := Aside0.mk (load_b16 (mB_len v bs n) HA2.out)
  have HL2 := Aside0.mk (load_b16 (mB_len u cs n) HB2.out)
  have HEQ := Aside0.mk (fun w : World => eq_b16 9998 (xs := mB v bs n) (ys := mB u cs n) (mB_len v bs n) (mB_len u cs n) w)
  have HR : Aside0 (wiB v bs u cs n = (mE v bs n == 0 && (mE u cs n == 0 && (mV v bs n == mV u cs n && decide (mB v bs n = mB u cs n))))) := ⟨rfl⟩
  generalize mV v bs n = v1 at *
  generalize mV u cs n = u1 at *
  generalize mB v bs n = b1 at *
  generalize mB u cs n = b2 at *
  generalize mE v bs n = e1 at *
  generalize mE u cs n = e2 at *
  clear HA2 HB2
  by_cases h1 : e1 = 0
  · have d1 : (e1 == 0) = true := by simpa using h1
    by_cases h2 : e2 = 0
    · have d2 : (e2 == 0) = true := by simpa using h2
      by_cases h3 : v1 = u1
      · have d3 : (v1 == u1) = true := by simpa using h3
        clear h1 h2 h3
        go_wp2_with (first | ((with_reducible refine gate_store (t := 25) (p := 9) (v := .tmp 21) rfl ?_); refine event_skip rfl (exec_store rfl rfl rfl HST2.out) ?_) | ((with_reducible refine gate_dst (N := 38) rfl ?_); refine gate_guard (by rfl) ?_; refine Kd.event_run rfl (exec_load rfl rfl HL1.out) ?_) | ((with_reducible refine gate_dst (N := 40) rfl ?_); refine gate_guard (by rfl) ?_; refine Kd.event_run rfl (exec_load rfl rfl HL2.out) ?_) | ((with_reducible refine gate_dst (N := 41) rfl ?_); refine gate_guard (by rfl) ?_; refine Kd.event_run rfl (exec_eql Try.eqGuardType23 rfl rfl rfl (HEQ.out _)) ?_))
        go_ret
        exact ⟨by rw [HR.out, d1, d2, d3]; rfl, HW2.out⟩
      · have d3 : (v1 == u1) = false := by simpa using h3
        clear h1 h2 h3
        go_wp2_with ((with_reducible refine gate_store (t := 25) (p := 9) (v := .tmp 21) rfl ?_); refine event_skip rfl (exec_store rfl rfl rfl HST2.out) ?_)
        go_ret
        exact ⟨by rw [HR.out, d1, d2, d3]; rfl, HW2.out⟩
    · have d2 : (e2 == 0) = false := by simpa using h2
      clear h1 h2
      go_wp2_with ((with_reducible refine gate_store (t := 25) (p := 9) (v := .tmp 21) rfl ?_); refine event_skip rfl (exec_store rfl rfl rfl HST2.out) ?_)
      go_ret
      exact ⟨by rw [HR.out, d1, d2]; rfl, HW2.out⟩
  · have d1 : (e1 == 0) = false := by simpa using h1
    clear h1
    go_wp2_with ((with_reducible refine gate_store (t := 25) (p := 9) (v := .tmp 21) rfl ?_); refine event_skip rfl (exec_store rfl rfl rfl HST2.out) ?_)
    go_ret
    exact ⟨by rw [HR.out, d1]; rfl, HW2.out⟩
set_option maxHeartbeats 4000000 in
theorem RefWithin_any (v : Bool) (bs : List Int) (u : Bool) (cs : List Int) (n : Int) (w : World) (hl : bs.length = 16) (ha : AllB bs) (hm : cs.length = 16) (hb : AllB cs) (hn0 : -9223372036854775808 ≤ n) (hn1 : n ≤ 9223372036854775807) :
    Calls Try.prog 23 #[.agg (av v bs), .agg (av u cs), .int .i64 n] w fun e w' => e = .returned (.bool (wiB v bs u cs n)) ∧ Below w.heap.size w w' := by
  have hx : ((w.alloc (.cells (av v bs) 25)).alloc (.cells (av u cs) 25)).heap[w.heap.size]? = some (.cells (av v bs) 25 (0, 0)) := blk_alloc (blk_new w _) _
  have hy : ((w.alloc (.cells (av v bs) 25)).alloc (.cells (av u cs) 25)).heap[w.heap.size + 1]? = some (.cells (av u cs) 25 (0, 0)) := blk_new_at (Array.size_push _).symm
  have HW := Aside0.mk (show Below w.heap.size w ((w.alloc (.cells (av v bs) 25)).alloc (.cells (av u cs) 25)) from below_alloc (below_alloc (Below.refl _ _) _) _)
  have HX := Aside0.mk hx
  have HY := Aside0.mk hy
  have HL := Aside0.mk (And.intro hl ha)
  have HM := Aside0.mk (And.intro hm hb)
  have HN := Aside0.mk (And.intro hn0 hn1)
  have HLD := Aside0.mk (load_addr hl hx)
  clear hx hy hl ha hm hb hn0 hn1
  go_enter Try.func23, Try.ntmps23
  go_wp2_with ((with_reducible refine gate_dst (N := 12) rfl ?_); refine Kd.event_run rfl (exec_load rfl rfl HLD.out) ?_)
  refine (RefMask_any v bs n _ HL.out.1 HL.out.2 HN.out.1 HN.out.2).mono ?_
  rintro e w1 ⟨rfl, hB⟩
  have HX1 := Aside0.mk (load_addr HM.out.1 (blk_alloc (blk_below HY.out hB) (.cells (av (mV v bs n) (mB v bs n)) 25)))
  have HW1 := Aside0.mk (below_alloc (below_step HW.out hB) (.cells (av (mV v bs n) (mB v bs n)) 25))
  have HST := Aside0.mk (store_new w1 rfl (v := mV v bs n) (u := false) (mB_len v bs n) zs16)
  have HA1 := Aside0.mk (blk_new w1 (.cells (av (mV v bs n) (mB v bs n)) 25))
  clear hB HX HY HW HLD
  go_wp2_with (first | ((with_reducible refine gate_store (t := 25) (p := 7) (v := .tmp 15) rfl ?_); refine event_skip rfl (exec_store rfl rfl rfl HST.out) ?_) | ((with_reducible refine gate_dst (N := 18) rfl ?_); refine Kd.event_run rfl (exec_load rfl rfl HX1.out) ?_))
  refine (RefMask_any u cs n _ HM.out.1 HM.out.2 HN.out.1 HN.out.2).mono ?_
  rintro e w2 ⟨rfl, hB⟩
  have HA2 := Aside0.mk (blk_alloc (blk_below HA1.out hB) (.cells (av (mV u cs n) (mB u cs n)) 25))
  have HB2 := Aside0.mk (blk_new w2 (.cells (av (mV u cs n) (mB u cs n)) 25))
  have HW2 := Aside0.mk (below_alloc (below_step HW1.out hB) (.cells (av (mV u cs n) (mB u cs n)) 25))
  have HST2 := Aside0.mk (store_new w2 rfl (v := mV u cs n) (u := false) (mB_len u cs n) zs16)
  clear hB HX1 HW1 HST HA1
  have HL1 := Aside0.mk (load_addr (mB_len v bs n) HA2.out)
  have HL2 := Aside0.mk (load_addr (mB_len u cs n) HB2.out)
  have HEQ := Aside0.mk (fun w : World => eq_addr (mV v bs n) (mV u cs n) (mB_len v bs n) (mB_len u cs n) w)
  have HR : Aside0 (wiB v bs u cs n = (mE v bs n == 0 && (mE u cs n == 0 && (mV v bs n == mV u cs n && decide (mB v bs n = mB u cs n))))) := ⟨rfl⟩
  generalize mV v bs n = v1 at *
  generalize mV u cs n = u1 at *
  generalize mB v bs n = b1 at *
  generalize mB u cs n = b2 at *
  generalize mE v bs n = e1 at *
  generalize mE u cs n = e2 at *
  clear HA2 HB2
  by_cases h1 : e1 = 0
  · have d1 : (e1 == 0) = true := by simpa using h1
    by_cases h2 : e2 = 0
    · have d2 : (e2 == 0) = true := by simpa using h2
      clear h1 h2
      go_wp2_with (first | ((with_reducible refine gate_store (t := 25) (p := 9) (v := .tmp 21) rfl ?_); refine event_skip rfl (exec_store rfl rfl rfl HST2.out) ?_) | ((with_reducible refine gate_dst (N := 30) rfl ?_); refine gate_guard (by rfl) ?_; refine Kd.event_run rfl (exec_load rfl rfl HL1.out) ?_) | ((with_reducible refine gate_dst (N := 31) rfl ?_); refine gate_guard (by rfl) ?_; refine Kd.event_run rfl (exec_load rfl rfl HL2.out) ?_) | ((with_reducible refine gate_dst (N := 32) rfl ?_); refine gate_guard (by rfl) ?_; refine Kd.event_run rfl (exec_eql Try.eqGuardType25 rfl rfl rfl (HEQ.out _)) ?_))
      go_ret
      exact ⟨by rw [HR.out, d1, d2]; rfl, HW2.out⟩
    · have d2 : (e2 == 0) = false := by simpa using h2
      clear h1 h2
      go_wp2_with ((with_reducible refine gate_store (t := 25) (p := 9) (v := .tmp 21) rfl ?_); refine event_skip rfl (exec_store rfl rfl rfl HST2.out) ?_)
      go_ret
      exact ⟨by rw [HR.out, d1, d2]; rfl, HW2.out⟩
  · have d1 : (e1 == 0) = false := by simpa using h1
    clear h1
    go_wp2_with ((with_reducible refine gate_store (t := 25) (p := 9) (v := .tmp 21) rfl ?_); refine event_skip rfl (exec_store rfl rfl rfl HST2.out) ?_)
    go_ret
    exact ⟨by rw [HR.out, d1]; rfl, HW2.out⟩
end Go.Proofs.Ytfnpjfcfgilchaa.AddrW
namespace Go.Proofs.Ytfnpjfcfgilchaa.AddrW
open Go.RowKit Go.Proofs.Ytfnpjfcfgilchaa.AddrEq Go.Proofs.Ytfnpjfcfgilchaa.AddrM Go.Proofs.Ytfnpjfcfgilchaa.Bits Go.Proofs.Ytfnpjfcfgilchaa.Help Go.Proofs.YtfnpjfcfgilchaaW.PrintWords Go.Proofs.YtfnpjfcfgilchaaW.PrintLast Go.Proofs.YtfnpjfcfgilchaaW.PrintMore
set_option linter.unusedVariables false
set_option linter.unusedSimpArgs false
def kA : List Int := [10, 1, 2, 3, 0, 0, 0, 0, 0, 0, 0, 0, 0, 0, 0, 0]
def kM : List Int := [10, 0, 0, 0, 0, 0, 0, 0, 0, 0, 0, 0, 0, 0, 0, 0]
theorem kA_all : AllB kA := by unfold AllB kA; decide
theorem kM_all : AllB kM := by unfold AllB kM; decide
theorem k_of : ofV [10, 1, 2, 3] = false ∧ ofB [10, 1, 2, 3] = kA ∧ ofE [10, 1, 2, 3] = 0 := by decide
theorem k_mask : mV false kA 12 = false ∧ mB false kA 12 = kM ∧ mE false kA 12 = 0 := by decide
theorem k_bytes : byR false kM = [10, 0, 0, 0] ∧ byE false kM = 0 := by decide
theorem k_wi : wiB false kA false kM 12 = true := by decide
theorem k_less : decide (ordS false kM false kA < 0) = true := by decide
set_option maxHeartbeats 4000000 in
theorem known_any (w : World) : Calls Try.prog 17 #[] w fun e w' => e = .returned (.bool true) ∧ Below w.heap.size w w' := by
  have OF : Aside0 (∀ W : World, Calls Try.prog 10 #[.slice (some ⟨W.heap.size, 0, none⟩) 4 4] (W.alloc (.cells (nums .u8 [10, 1, 2, 3]).toArray 5)) fun e w' => e = .returned (.tuple #[.agg (av false kA), .int .i64 0]) ∧ Below (W.alloc (.cells (nums .u8 [10, 1, 2, 3]).toArray 5)).heap.size (W.alloc (.cells (nums .u8 [10, 1, 2, 3]).toArray 5)) w') := ⟨fun W => by
    have h := Of_any (some ⟨W.heap.size, 0, none⟩) 4 [10, 1, 2, 3] _ (C_of_block0 (more := []) (t := 5) (k := .u8) (blk_new W (.cells (nums .u8 [10, 1, 2, 3] ++ []).toArray 5)) (by decide))
    rw [k_of.1, k_of.2.1, k_of.2.2] at h
    exact h⟩
  go_enter Try.func17, Try.ntmps17
  go_wp2_with fail
  refine (OF.out _).mono ?_
  rintro e w1 ⟨rfl, hB⟩
  have HA := Aside0.mk (blk_new w1 (.cells (av false kA) 25))
  have HW := Aside0.mk (below_alloc (below_step (below_alloc (Below.refl w.heap.size w) _) hB) (.cells (av false kA) 25))
  have HST := Aside0.mk (store_new w1 rfl (v := false) (u := false) (bs := kA) rfl zs16)
  have HLD := Aside0.mk (load_addr (bs := kA) rfl HA.out)
  clear hB OF
  go_wp2_with (first | ((with_reducible refine gate_store (t := 25) (p := 1) (v := .tmp 10) rfl ?_); refine event_skip rfl (exec_store rfl rfl rfl HST.out) ?_) | ((with_reducible refine gate_dst (N := 13) rfl ?_); refine Kd.event_run rfl (exec_load rfl rfl HLD.out) ?_))
  refine (Mask_any false kA 12 _ rfl kA_all (by decide) (by decide)).mono ?_
  rw [k_mask.1, k_mask.2.1, k_mask.2.2]
  rintro e w2 ⟨rfl, hB⟩
  replace HA := Aside0.mk (blk_alloc (blk_below HA.out hB) (.cells (av false kM) 25))
  have HM := Aside0.mk (blk_new w2 (.cells (av false kM) 25))
  replace HW := Aside0.mk (below_alloc (below_step HW.out hB) (.cells (av false kM) 25))
  replace HST := Aside0.mk (store_new w2 rfl (v := false) (u := false) (bs := kM) rfl zs16)
  replace HLD := Aside0.mk (load_addr (bs := kM) rfl HM.out)
  clear hB
  go_wp2_with (first | ((with_reducible refine gate_store (t := 25) (p := 3) (v := .tmp 15) rfl ?_); refine event_skip rfl (exec_store rfl rfl rfl HST.out) ?_) | ((with_reducible refine gate_dst (N := 18) rfl ?_); refine Kd.event_run rfl (exec_load rfl rfl HLD.out) ?_))
  refine (Bytes_any false kM _ rfl).mono ?_
  rw [k_bytes.1, k_bytes.2]
  rintro e w3 ⟨r, rfl, hO, hB⟩
  replace HA := Aside0.mk (blk_below HA.out hB)
  replace HM := Aside0.mk (blk_below HM.out hB)
  replace HW := Aside0.mk (below_step HW.out hB)
  obtain ⟨A, c, rfl, _, hr⟩ := hO.reads (by decide)
  have k0 := Kd.C_string (P := Try.prog) Try.underlying22 Try.underlying5 Try.underlying9 (c := c) hr
  have k1 : (convert 22 9 (.slice A 4 c)).run Try.prog w3 = .ok (.string ⟨#[10, 0, 0, 0]⟩) w3 := k0
  have HLA := Aside0.mk (load_addr (bs := kA) rfl HA.out)
  have HLM := Aside0.mk (load_addr (bs := kM) rfl HM.out)
  clear hB hO hr HST HLD k0
  go_wp2_with (first | ((with_reducible refine gate_dst (N := 38) rfl ?_); refine gate_guard (by rfl) ?_; refine Kd.event_run rfl (exec_load rfl rfl HLA.out) ?_) | ((with_reducible refine gate_dst (N := 39) rfl ?_); refine gate_guard (by rfl) ?_; refine Kd.event_run rfl (exec_load rfl rfl HLM.out) ?_))
  refine (Within_any false kA false kM 12 _ rfl kA_all rfl kM_all (by decide) (by decide)).mono ?_
  rw [k_wi]
  rintro e w4 ⟨rfl, hB⟩
  replace HLA := Aside0.mk (load_addr (bs := kA) rfl (blk_below HA.out hB))
  replace HLM := Aside0.mk (load_addr (bs := kM) rfl (blk_below HM.out hB))
  replace HW := Aside0.mk (below_step HW.out hB)
  clear hB k1
  go_wp2_with (first | ((with_reducible refine gate_dst (N := 43) rfl ?_); refine gate_guard (by rfl) ?_; refine Kd.event_run rfl (exec_load rfl rfl HLM.out) ?_) | ((with_reducible refine gate_dst (N := 44) rfl ?_); refine gate_guard (by rfl) ?_; refine Kd.event_run rfl (exec_load rfl rfl HLA.out) ?_))
  refine (Less_any false kM false kA _ rfl rfl).mono ?_
  rw [k_less]
  rintro e w5 ⟨rfl, hB⟩
  replace HW := Aside0.mk (below_step HW.out hB)
  clear hB
  go_wp2_with fail
  go_ret
  exact ⟨rfl, HW.out⟩
end Go.Proofs.Ytfnpjfcfgilchaa.AddrW
