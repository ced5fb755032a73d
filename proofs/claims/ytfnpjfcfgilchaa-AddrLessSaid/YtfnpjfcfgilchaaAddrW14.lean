/- Addresses: alike in so many first bits. -/
import Derived.Test.YtfnpjfcfgilchaaAddrW13
import Derived.Test.YtfnpjfcfgilchaaAddrEq2
import Derived.Deep.MidRow
namespace Go.Proofs.Ytfnpjfcfgilchaa.AddrW
open Go.RowKit Go.Proofs.Ytfnpjfcfgilchaa.AddrEq Go.Proofs.Ytfnpjfcfgilchaa.AddrM Go.Proofs.Ytfnpjfcfgilchaa.Bits Go.Proofs.Ytfnpjfcfgilchaa.Help Go.Proofs.YtfnpjfcfgilchaaW.PrintWords Go.Proofs.YtfnpjfcfgilchaaW.PrintLast Go.Proofs.YtfnpjfcfgilchaaW.PrintMore
set_option linter.unusedVariables false
set_option linter.unusedSimpArgs false
def wiB (v : Bool) (bs : List Int) (u : Bool) (cs : List Int) (n : Int) : Bool := mE v bs n == 0 && (mE u cs n == 0 && (mV v bs n == mV u cs n && decide (mB v bs n = mB u cs n)))
/-- The sixteen bytes of an address loaded. -/
theorem load_b16 {w : World} {g : Nat} {v : Bool} {bs : List Int} (hl : bs.length = 16) {t : TypeId} (hb : w.heap[g]? = some (.cells (av v bs) t (0, 0))) : (loadVar 23 ⟨g, 1, none⟩).run Try.prog w = .ok (.agg (nums .u8 bs).toArray) w :=
  run_loadVar_mid w g 1 23 (nums .u8 bs) _ (fun j x hx => by
    have hj : j < bs.length := by have := (List.getElem?_eq_some_iff.1 hx).1; simpa [nums] using this
    rw [blk_cell hb, av_at v hj, ← hx]
    simp [nums, List.getElem?_eq_getElem hj, List.getD_eq_getElem?_getD]) Try.underlying23 rfl (by
    have h : (Try.prog.info? 23).map (·.size) = some 16 := by kernel_rfl
    rw [h]; simp [nums, hl])
set_option maxHeartbeats 4000000 in
theorem Within_any (v : Bool) (bs : List Int) (u : Bool) (cs : List Int) (n : Int) (w : World) (hl : bs.length = 16) (ha : AllB bs) (hm : cs.length = 16) (hb : AllB cs) (hn0 : -9223372036854775808 ≤ n) (hn1 : n ≤ 9223372036854775807) :
    Calls Try.prog 22 #[.agg (av v bs), .agg (av u cs), .int .i64 n] w fun e w' => e = .returned (.bool (wiB v bs u cs n)) ∧ Below w.heap.size w w' := by
  have hx : ((w.alloc (.cells (av v bs) 25)).alloc (.cells (av u cs) 25)).heap[w.heap.size]? = some (.cells (av v bs) 25 (0, 0)) := blk_alloc (blk_new w _) _
  have hy : ((w.alloc (.cells (av v bs) 25)).alloc (.cells (av u cs) 25)).heap[w.heap.size + 1]? = some (.cells (av u cs) 25 (0, 0)) := blk_new_at (Array.size_push _).symm
  have HW := Aside0.mk (show Below w.heap.size w ((w.alloc (.cells (av v bs) 25)).alloc (.cells (av u cs) 25)) from below_alloc (below_alloc (Below.refl _ _) _) _)
  have HX := Aside0.mk hx
  have HY := Aside0.mk hy
  have HL := Aside0.mk (And.intro hl ha)
  have HM := Aside0.mk (And.intro hm hb)
  have HN := Aside0.mk (And.intro hn0 hn1)
  have HLD := Aside0.mk (load_addr hl hx)
  clear hx hy hl ha hm hb hn0 hn1
  go_enter Try.func22, Try.ntmps22
  go_wp2_with ((with_reducible refine gate_dst (N := 12) rfl ?_); refine Kd.event_run rfl (exec_load rfl rfl HLD.out) ?_)
  refine (Mask_any v bs n _ HL.out.1 HL.out.2 HN.out.1 HN.out.2).mono ?_
  rintro e w1 ⟨rfl, hB⟩
  have HX1 := Aside0.mk (load_addr HM.out.1 (blk_alloc (blk_below HY.out hB) (.cells (av (mV v bs n) (mB v bs n)) 25)))
  have HW1 := Aside0.mk (below_alloc (below_step HW.out hB) (.cells (av (mV v bs n) (mB v bs n)) 25))
  have HST := Aside0.mk (store_new w1 rfl (v := mV v bs n) (u := false) (mB_len v bs n) zs16)
  have HA1 := Aside0.mk (blk_new w1 (.cells (av (mV v bs n) (mB v bs n)) 25))
  clear hB HX HY HW HLD
  go_wp2_with (first | ((with_reducible refine gate_store (t := 25) (p := 7) (v := .tmp 15) rfl ?_); refine event_skip rfl (exec_store rfl rfl rfl HST.out) ?_) | ((with_reducible refine gate_dst (N := 18) rfl ?_); refine Kd.event_run rfl (exec_load rfl rfl HX1.out) ?_))
  refine (Mask_any u cs n _ HM.out.1 HM.out.2 HN.out.1 HN.out.2).mono ?_
  rintro e w2 ⟨rfl, hB⟩
  have HA2 := Aside0.mk (blk_alloc (blk_below HA1.out hB) (.cells (av (mV u cs n) (mB u cs n)) 25))
  have HB2 := Aside0.mk (blk_new w2 (.cells (av (mV u cs n) (mB u cs n)) 25))
  have HW2 := Aside0.mk (below_alloc (below_step HW1.out hB) (.cells (av (mV u cs n) (mB u cs n)) 25))
  have HST2 := Aside0.mk (store_new w2 rfl (v := mV u cs n) (u := false) (mB_len u cs n) zs16)
  clear hB HX1 HW1 HST HA1
  have c1 := (blk_cell HA2.out 0).trans (av_at0 _ _)
  have c2 := (blk_cell HB2.out 0).trans (av_at0 _ _)
  have HL1 := Aside0.mk (load_b16 (mB_len v bs n) HA2.out)
  have HL2 := Aside0.mk (load_b16 (mB_len u cs n) HB2.out)
  have HEQ := Aside0.mk (fun w : World => eq_b16 9998 (xs := mB v bs n) (ys := mB u cs n) (mB_len v bs n) (mB_len u cs n) w)
  have HR : Aside0 (wiB v bs u cs n = (mE v bs n == 0 && (mE u cs n == 0 && (mV v bs n == mV u cs n && decide (mB v bs n = mB u cs n))))) := ⟨rfl⟩
  generalize mV v bs n = v1 at *
  generalize mV u cs n = u1 at *
  generalize mB v bs n = b1 at *
  generalize mB u cs n = b2 at *
  generalize mE v bs n = e1 at *
  generalize mE u cs n = e2 at *
  clear HA2 HB2
  by_cases h1 : e1 = 0
  · have d1 : (e1 == 0) = true := by simpa using h1
    by_cases h2 : e2 = 0
    · have d2 : (e2 == 0) = true := by simpa using h2
      by_cases h3 : v1 = u1
      · have d3 : (v1 == u1) = true := by simpa using h3
        clear h1 h2 h3
        go_wp2_with (first | ((with_reducible refine gate_store (t := 25) (p := 9) (v := .tmp 21) rfl ?_); refine event_skip rfl (exec_store rfl rfl rfl HST2.out) ?_) | ((with_reducible refine gate_dst (N := 38) rfl ?_); refine gate_guard (by rfl) ?_; refine Kd.event_run rfl (exec_load rfl rfl HL1.out) ?_) | ((with_reducible refine gate_dst (N := 40) rfl ?_); refine gate_guard (by rfl) ?_; refine Kd.event_run rfl (exec_load rfl rfl HL2.out) ?_) | ((with_reducible refine gate_dst (N := 41) rfl ?_); refine gate_guard (by rfl) ?_; refine Kd.event_run rfl (exec_eql Try.eqGuardType23 rfl rfl rfl (HEQ.out _)) ?_))
        go_ret
        exact ⟨by rw [HR.out, d1, d2, d3]; rfl, HW2.out⟩
      · have d3 : (v1 == u1) = false := by simpa using h3
        clear h1 h2 h3
        go_wp2_with ((with_reducible refine gate_store (t := 25) (p := 9) (v := .tmp 21) rfl ?_); refine event_skip rfl (exec_store rfl rfl rfl HST2.out) ?_)
        go_ret
        exact ⟨by rw [HR.out, d1, d2, d3]; rfl, HW2.out⟩
    · have d2 : (e2 == 0) = false := by simpa using h2
      clear h1 h2
      go_wp2_with ((with_reducible refine gate_store (t := 25) (p := 9) (v := .tmp 21) rfl ?_); refine event_skip rfl (exec_store rfl rfl rfl HST2.out) ?_)
      go_ret
      exact ⟨by rw [HR.out, d1, d2]; rfl, HW2.out⟩
  · have d1 : (e1 == 0) = false := by simpa using h1
    clear h1
    go_wp2_with ((with_reducible refine gate_store (t := 25) (p := 9) (v := .tmp 21) rfl ?_); refine event_skip rfl (exec_store rfl rfl rfl HST2.out) ?_)
    go_ret
    exact ⟨by rw [HR.out, d1]; rfl, HW2.out⟩
set_option maxHeartbeats 4000000 in
theorem RefWithin_any (v : Bool) (bs : List Int) (u : Bool) (cs : List Int) (n : Int) (w : World) (hl : bs.length = 16) (ha : AllB bs) (hm : cs.length = 16) (hb : AllB cs) (hn0 : -9223372036854775808 ≤ n) (hn1 : n ≤ 9223372036854775807) :
    Calls Try.prog 23 #[.agg (av v bs), .agg (av u cs), .int .i64 n] w fun e w' => e = .returned (.bool (wiB v bs u cs n)) ∧ Below w.heap.size w w' := by
  have hx : ((w.alloc (.cells (av v bs) 25)).alloc (.cells (av u cs) 25)).heap[w.heap.size]? = some (.cells (av v bs) 25 (0, 0)) := blk_alloc (blk_new w _) _
  have hy : ((w.alloc (.cells (av v bs) 25)).alloc (.cells (av u cs) 25)).heap[w.heap.size + 1]? = some (.cells (av u cs) 25 (0, 0)) := blk_new_at (Array.size_push _).symm
  have HW := Aside0.mk (show Below w.heap.size w ((w.alloc (.cells (av v bs) 25)).alloc (.cells (av u cs) 25)) from below_alloc (below_alloc (Below.refl _ _) _) _)
  have HX := Aside0.mk hx
  have HY := Aside0.mk hy
  have HL := Aside0.mk (And.intro hl ha)
  have HM := Aside0.mk (And.intro hm hb)
  have HN := Aside0.mk (And.intro hn0 hn1)
  have HLD := Aside0.mk (load_addr hl hx)
  clear hx hy hl ha hm hb hn0 hn1
  go_enter Try.func23, Try.ntmps23
  go_wp2_with ((with_reducible refine gate_dst (N := 12) rfl ?_); refine Kd.event_run rfl (exec_load rfl rfl HLD.out) ?_)
  refine (RefMask_any v bs n _ HL.out.1 HL.out.2 HN.out.1 HN.out.2).mono ?_
  rintro e w1 ⟨rfl, hB⟩
  have HX1 := Aside0.mk (load_addr HM.out.1 (blk_alloc (blk_below HY.out hB) (.cells (av (mV v bs n) (mB v bs n)) 25)))
  have HW1 := Aside0.mk (below_alloc (below_step HW.out hB) (.cells (av (mV v bs n) (mB v bs n)) 25))
  have HST := Aside0.mk (store_new w1 rfl (v := mV v bs n) (u := false) (mB_len v bs n) zs16)
  have HA1 := Aside0.mk (blk_new w1 (.cells (av (mV v bs n) (mB v bs n)) 25))
  clear hB HX HY HW HLD
  go_wp2_with (first | ((with_reducible refine gate_store (t := 25) (p := 7) (v := .tmp 15) rfl ?_); refine event_skip rfl (exec_store rfl rfl rfl HST.out) ?_) | ((with_reducible refine gate_dst (N := 18) rfl ?_); refine Kd.event_run rfl (exec_load rfl rfl HX1.out) ?_))
  refine (RefMask_any u cs n _ HM.out.1 HM.out.2 HN.out.1 HN.out.2).mono ?_
  rintro e w2 ⟨rfl, hB⟩
  have HA2 := Aside0.mk (blk_alloc (blk_below HA1.out hB) (.cells (av (mV u cs n) (mB u cs n)) 25))
  have HB2 := Aside0.mk (blk_new w2 (.cells (av (mV u cs n) (mB u cs n)) 25))
  have HW2 := Aside0.mk (below_alloc (below_step HW1.out hB) (.cells (av (mV u cs n) (mB u cs n)) 25))
  have HST2 := Aside0.mk (store_new w2 rfl (v := mV u cs n) (u := false) (mB_len u cs n) zs16)
  clear hB HX1 HW1 HST HA1
  have HL1 := Aside0.mk (load_addr (mB_len v bs n) HA2.out)
  have HL2 := Aside0.mk (load_addr (mB_len u cs n) HB2.out)
  have HEQ := Aside0.mk (fun w : World => eq_addr (mV v bs n) (mV u cs n) (mB_len v bs n) (mB_len u cs n) w)
  have HR : Aside0 (wiB v bs u cs n = (mE v bs n == 0 && (mE u cs n == 0 && (mV v bs n == mV u cs n && decide (mB v bs n = mB u cs n))))) := ⟨rfl⟩
  generalize mV v bs n = v1 at *
  generalize mV u cs n = u1 at *
  generalize mB v bs n = b1 at *
  generalize mB u cs n = b2 at *
  generalize mE v bs n = e1 at *
  generalize mE u cs n = e2 at *
  clear HA2 HB2
  by_cases h1 : e1 = 0
  · have d1 : (e1 == 0) = true := by simpa using h1
    by_cases h2 : e2 = 0
    · have d2 : (e2 == 0) = true := by simpa using h2
      clear h1 h2
      go_wp2_with (first | ((with_reducible refine gate_store (t := 25) (p := 9) (v := .tmp 21) rfl ?_); refine event_skip rfl (exec_store rfl rfl rfl HST2.out) ?_) | ((with_reducible refine gate_dst (N := 30) rfl ?_); refine gate_guard (by rfl) ?_; refine Kd.event_run rfl (exec_load rfl rfl HL1.out) ?_) | ((with_reducible refine gate_dst (N := 31) rfl ?_); refine gate_guard (by rfl) ?_; refine Kd.event_run rfl (exec_load rfl rfl HL2.out) ?_) | ((with_reducible refine gate_dst (N := 32) rfl ?_); refine gate_guard (by rfl) ?_; refine Kd.event_run rfl (exec_eql Try.eqGuardType25 rfl rfl rfl (HEQ.out _)) ?_))
      go_ret
      exact ⟨by rw [HR.out, d1, d2]; rfl, HW2.out⟩
    · have d2 : (e2 == 0) = false := by simpa using h2
      clear h1 h2
      go_wp2_with ((with_reducible refine gate_store (t := 25) (p := 9) (v := .tmp 21) rfl ?_); refine event_skip rfl (exec_store rfl rfl rfl HST2.out) ?_)
      go_ret
      exact ⟨by rw [HR.out, d1, d2]; rfl, HW2.out⟩
  · have d1 : (e1 == 0) = false := by simpa using h1
    clear h1
    go_wp2_with ((with_reducible refine gate_store (t := 25) (p := 9) (v := .tmp 21) rfl ?_); refine event_skip rfl (exec_store rfl rfl rfl HST2.out) ?_)
    go_ret
    exact ⟨by rw [HR.out, d1]; rfl, HW2.out⟩
end Go.Proofs.Ytfnpjfcfgilchaa.AddrW
