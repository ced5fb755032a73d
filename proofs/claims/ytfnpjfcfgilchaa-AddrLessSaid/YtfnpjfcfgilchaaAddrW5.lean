/- Addresses: Less. -/
import Derived.Test.YtfnpjfcfgilchaaAddrW4
namespace Go.Proofs.Ytfnpjfcfgilchaa.AddrW
open Go.RowKit Go.Proofs.Ytfnpjfcfgilchaa.AddrCmp Go.Proofs.Ytfnpjfcfgilchaa.AddrEq Go.Proofs.Ytfnpjfcfgilchaa.Bits Go.Proofs.Ytfnpjfcfgilchaa.Help Go.Proofs.YtfnpjfcfgilchaaW.PrintWords Go.Proofs.YtfnpjfcfgilchaaW.PrintLast Go.Proofs.YtfnpjfcfgilchaaW.PrintMore
set_option linter.unusedVariables false
set_option linter.unusedSimpArgs false
theorem Less_any (v : Bool) (bs : List Int) (u : Bool) (cs : List Int) (w : World) (hl : bs.length = 16) (hm : cs.length = 16) :
    Calls Try.prog 18 #[.agg (av v bs), .agg (av u cs)] w fun e w' => e = .returned (.bool (decide (ordS v bs u cs < 0))) ∧ Below w.heap.size w w' := by
  have hb : ((w.alloc (.cells (av v bs) 25)).alloc (.cells (av u cs) 25)).heap[w.heap.size]? = some (.cells (av v bs) 25 (0, 0)) := blk_alloc (blk_new w _) _
  have hz : ((w.alloc (.cells (av v bs) 25)).alloc (.cells (av u cs) 25)).heap[w.heap.size + 1]? = some (.cells (av u cs) 25 (0, 0)) := blk_new_at (Array.size_push _).symm
  have hW : Below w.heap.size w ((w.alloc (.cells (av v bs) 25)).alloc (.cells (av u cs) 25)) := below_alloc (below_alloc (Below.refl _ _) _) _
  have HX := Aside0.mk (load_addr hl hb)
  have HY := Aside0.mk (load_addr hm hz)
  have HL := Aside0.mk (And.intro hl hm)
  have HW := Aside0.mk hW
  clear hb hz hW hl hm
  go_enter Try.func18, Try.ntmps18
  go_wp2_with (first | ((with_reducible refine gate_dst (N := 5) rfl ?_); refine Kd.event_run rfl (exec_load rfl rfl HX.out) ?_) | ((with_reducible refine gate_dst (N := 6) rfl ?_); refine Kd.event_run rfl (exec_load rfl rfl HY.out) ?_))
  refine (order_any v bs u cs _ HL.out.1 HL.out.2).mono ?_
  rintro e w1 ⟨rfl, hB⟩
  have HW1 := Aside0.mk (below_step HW.out hB)
  clear hB HW HX HY
  go_wp2_with fail
  go_ret
  exact ⟨rfl, HW1.out⟩
end Go.Proofs.Ytfnpjfcfgilchaa.AddrW
