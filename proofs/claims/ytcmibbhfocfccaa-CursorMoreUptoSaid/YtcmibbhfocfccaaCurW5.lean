/- Who gives up: try. -/
import Derived.Test.YtcmibbhfocfccaaCurW4
import Derived.Defers
import Derived.Recover
import Derived.Laws.Pointers
namespace Go.Proofs.Ytcmibbhfocfccaa.Cur
open Go.RowKit Go.Proofs.Ytcmibbhfocfccaa.Segs Go.Proofs.Ytcmibbhfocfccaa.Own Go.Proofs.Ytcmibbhfocfccaa.CurP Go.Proofs.Ytcmibbhfocfccaa.Mem Go.Proofs.Ytcmibbhfocfccaa.Bits Go.Proofs.Ytcmibbhfocfccaa.Help Go.Proofs.YtcmibbhfocfccaaW.PrintWords Go.Proofs.YtcmibbhfocfccaaW.PrintLast Go.Proofs.YtcmibbhfocfccaaW.PrintMore
set_option linter.unusedVariables false
set_option linter.unusedSimpArgs false
theorem catch_idle (p : Addr) (w : World) :
    CallsD Try.prog 38 #[.pointer (some p)] .returning w fun e u' w' => e = .returned (.tuple #[]) ∧ u' = .returning ∧ w' = w := by
  refine callsD_of_wpS Try.func38 rfl fun c₀ cs hu => ?_
  apply wpS_seq
  apply wpS_region
  simp [wpOpsS, go_sem, recoverD, hu, Try.ntmps38, Exit.thenS]
  have ht : (#[Value.pointer (some p)] ++ (Array.replicate 11 undef).setIfInBounds 3 (Value.nilIface)) = #[.pointer (some p), undef, undef, undef, Value.nilIface, undef, undef, undef, undef, undef, undef, undef] := rfl
  rw [ht]
  refine wpS_of_wp ?_
  go_wp2_with fail
  cases c₀
  simp_all [bodyPostS, results, Try.results38]
theorem catch_stop (b : Nat) (k x : Int) (older : List PanicEntry) (w : World) (hb : w.heap[b]? = some (.cells #[.int .i64 x] 26 (0, 0))) :
    CallsD Try.prog 38 #[.pointer (some ⟨b, 0, none⟩)] (.panicking ({ v := stopV k, recovered := false } :: older)) w fun e u' w' =>
      e = .returned (.tuple #[]) ∧ u' = .panicking ({ v := stopV k, recovered := true } :: older) ∧ w' = (w.alloc (.cells #[.int .i64 k] 73)).setCell ⟨b, 0, none⟩ (.int .i64 k) := by
  have hc : (w.alloc (.cells #[.int .i64 k] 73)).cell? ⟨b, 0, none⟩ = some (.int .i64 x) := blk_cell (blk_alloc hb _) 0
  have hz : (w.alloc (.cells #[.int .i64 k] 73)).frozen? ⟨b, 0, none⟩ = false := blk_frozen (blk_alloc hb _) 0
  have hta : ∀ w : World, (Instr.typeAssert (.iface 73 (.agg #[.int .i64 k])) 20 73 true).run Try.prog w = .ok (.tuple #[.agg #[.int .i64 k], .bool true]) w := fun w => by kernel_rfl
  refine callsD_of_wpS Try.func38 rfl fun c₀ cs hu => ?_
  apply wpS_seq
  apply wpS_region
  simp [wpOpsS, go_sem, recoverD, hu, Try.ntmps38, Exit.thenS, stopV]
  have ht : (#[Value.pointer (some ⟨b, 0, none⟩)] ++ (Array.replicate 11 undef).setIfInBounds 3 (Value.iface 73 (.agg #[.int .i64 k]))) = #[.pointer (some ⟨b, 0, none⟩), undef, undef, undef, Value.iface 73 (.agg #[.int .i64 k]), undef, undef, undef, undef, undef, undef, undef] := rfl
  rw [ht]
  refine wpS_of_wp ?_
  go_wp2_with fail
  cases c₀
  simp_all [bodyPostS, results, Try.results38]
/-- What try comes to: R says of the world behind what was tried how it ended. -/
theorem try_any (f : FuncId) (caps : Array Value) (w : World) (R : Int → World → Prop)
    (hf : ∀ w : World, (callFunc f caps).run Try.prog w = .ok (.enter f caps) w) (hR : ∀ k W, R k W → W.heap[w.heap.size]? = some (.cells #[.int .i64 0] 26 (0, 0)))
    (h : Calls Try.prog f caps (w.alloc (.cells #[.int .i64 0] 26)) fun e W => (e = .returned (.tuple #[]) ∧ R 0 W) ∨ ∃ k, e = stops k ∧ R k W) :
    Calls Try.prog 23 #[.func (.func f) #[] caps] w fun e w' => ∃ k W, e = .returned (.int .i64 k) ∧ R k W ∧ W.grownBy w' (some w.heap.size) := by
  have hmf : ∀ (fn : Fn) (first cap : Array Value) (w : World), (Instr.makeFunc fn first cap).run Try.prog w = .ok (.func fn first cap) w := fun _ _ _ _ => rfl
  have H := Aside0.mk h
  have HR := Aside0.mk hR
  clear h hR
  go_enter_defers Try.func23, Try.ntmps23
  go_wp2_with fail
  refine H.out.mono ?_
  rintro e W (⟨rfl, hW⟩ | ⟨k, rfl, hW⟩)
  · have hb := HR.out 0 W hW
    have cb := blk_cell hb 0
    have fb := blk_frozen hb 0
    have HW := Aside0.mk (And.intro hW hb)
    clear hW hb
    go_wp2_with fail
    refine leaves_cons (f := 38) (args := #[.pointer (some ⟨w.heap.size, 0, none⟩)]) (by simp) (by simp [go_sem]) ?_
    refine (catch_idle ⟨w.heap.size, 0, none⟩ _).mono ?_
    rintro e u' w'' ⟨rfl, rfl, rfl⟩
    have hcc := blk_cell (blk_set HW.out.2 0 (.int .i64 0)) 0
    have hcc2 : (W.setCell ⟨w.heap.size, 0, none⟩ (.int .i64 0)).cell? ⟨w.heap.size, 0, none⟩ = some (.int .i64 0) := by rw [hcc]; rfl
    have hfin : ∃ W', R 0 W' ∧ W'.grownBy (W.setCell ⟨w.heap.size, 0, none⟩ (.int .i64 0)) (some w.heap.size) := ⟨W, HW.out.1, setCells_grown W w.heap.size [.int .i64 0] 0⟩
    clear hcc cb fb HW
    generalize W.setCell ⟨w.heap.size, 0, none⟩ (.int .i64 0) = Y at *
    simp [Leaves, settle, results, Try.results23, go_sem, hcc2]
    exact hfin
  · have hb := HR.out k W hW
    have HW := Aside0.mk (And.intro hW hb)
    clear hW hb
    unfold stops
    go_wp2_with fail
    refine leaves_cons (f := 38) (args := #[.pointer (some ⟨w.heap.size, 0, none⟩)]) (by simp) (by simp [go_sem]) ?_
    refine (catch_stop w.heap.size k 0 [] _ HW.out.2).mono ?_
    rintro e u' w'' ⟨rfl, rfl, rfl⟩
    have hcc := blk_cell (blk_set (blk_alloc HW.out.2 (.cells #[.int .i64 k] 73)) 0 (.int .i64 k)) 0
    have hcc2 : ((W.alloc (.cells #[.int .i64 k] 73)).setCell ⟨w.heap.size, 0, none⟩ (.int .i64 k)).cell? ⟨w.heap.size, 0, none⟩ = some (.int .i64 k) := by rw [hcc]; rfl
    have hfin : ∃ W', R k W' ∧ W'.grownBy ((W.alloc (.cells #[.int .i64 k] 73)).setCell ⟨w.heap.size, 0, none⟩ (.int .i64 k)) (some w.heap.size) := ⟨W, HW.out.1, (World.grownBy_alloc W _ _).trans (setCells_grown _ w.heap.size [.int .i64 k] 0)⟩
    clear hcc HW
    generalize (W.alloc (.cells #[.int .i64 k] 73)).setCell ⟨w.heap.size, 0, none⟩ (.int .i64 k) = Y at *
    simp [Leaves, settle, results, Try.results23, go_sem, hcc2]
    exact hfin
end Go.Proofs.Ytcmibbhfocfccaa.Cur
