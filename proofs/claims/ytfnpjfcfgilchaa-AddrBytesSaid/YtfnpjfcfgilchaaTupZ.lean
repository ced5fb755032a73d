/- A tuple of noughts; a tuple stored, built, handed back. -/
import Derived.Test.YtfnpjfcfgilchaaTupW1
import Derived.Test.YtfnpjfcfgilchaaAddrL
namespace Go.Proofs.Ytfnpjfcfgilchaa.AddrW
open Go.RowKit Go.Proofs.Ytfnpjfcfgilchaa.Segs Go.Proofs.Ytfnpjfcfgilchaa.Mem Go.Proofs.Ytfnpjfcfgilchaa.AddrEq Go.Proofs.Ytfnpjfcfgilchaa.AddrM Go.Proofs.Ytfnpjfcfgilchaa.Bits Go.Proofs.Ytfnpjfcfgilchaa.Help Go.Proofs.YtfnpjfcfgilchaaW.PrintWords Go.Proofs.YtfnpjfcfgilchaaW.PrintLast Go.Proofs.YtfnpjfcfgilchaaW.PrintMore
set_option linter.unusedVariables false
set_option linter.unusedSimpArgs false
def zA : Ad := ⟨false, zs 16⟩
def zT : Tu := ⟨zA, zA, 0, 0, 0⟩
theorem zA_ok : OkA zA.b := ⟨zs16, fun x hx => by simp [zA, zs] at hx; omega⟩
theorem zT_ok : OkT zT := ⟨zA_ok, zA_ok, ⟨by decide, by decide⟩, ⟨by decide, by decide⟩, ⟨by decide, by decide⟩⟩
theorem exec_build {P : Program} {o : Oper} {a : Act} {W : World} {t : TypeId} {parts : Array (Nat × Operand)} {vals : List (Nat × Value)} {cells : Array Value} (ho : o.op = .build t parts) (hv : (parts.map fun (i, x) => (i, a.eval x)).toList = vals) (h : P.built t vals = some cells) : (execOp a.eval o).run P W = .ok (.value (.agg cells)) W := by
  have := run_build (P := P) W t (parts.map fun (i, x) => (i, a.eval x)) cells (by rw [hv]; exact h)
  simp only [execOp, ho, Sem.run_bind, this, Result.andThen_ok, Sem.run_pure]
theorem built44 (parts : List (Nat × Value)) : Try.prog.built 44 parts = Instr.fill (([(0, 17), (17, 17), (34, 1), (35, 1), (36, 1)] : List (Nat × Nat)).toArray[·]?) (flat (tseg zT)) parts := by kernel_rfl
theorem built_tup {x : Tu} (h : OkT x) : Try.prog.built 44 [(0, .agg (av x.s.v x.s.b)), (1, .agg (av x.d.v x.d.b)), (2, .int .i64 x.p), (3, .int .i64 x.sp), (4, .int .i64 x.dp)] = some (flat (tseg x)) := by
  rw [built44]
  have a17 : (av x.s.v x.s.b).toList.length = 17 := avl_len h.s
  have b17 : (av x.d.v x.d.b).toList.length = 17 := avl_len h.d
  obtain ⟨o0, o1, o2, o3, o4⟩ := toff h
  refine fill_struct _ _ (by simp [tseg, avl_len h.s, avl_len h.d, avl_len zA_ok, zT]) ?_ ?_
  · intro p hp
    simp only [List.mem_cons, List.not_mem_nil, or_false] at hp
    rcases hp with rfl | rfl | rfl | rfl | rfl
    · exact ⟨rfl, by rw [o0]; simp only [Value.cells, a17]; rfl⟩
    · exact ⟨rfl, by rw [o1]; simp only [Value.cells, b17]; rfl⟩
    · exact ⟨rfl, by rw [o2]; rfl⟩
    · exact ⟨rfl, by rw [o3]; rfl⟩
    · exact ⟨rfl, by rw [o4]; rfl⟩
  · intro i hi hn
    have h5 : i < 5 := hi
    rcases (show i = 0 ∨ i = 1 ∨ i = 2 ∨ i = 3 ∨ i = 4 by omega) with rfl | rfl | rfl | rfl | rfl
    · exact absurd rfl (hn _ (.head _))
    · exact absurd rfl (hn _ (.tail _ (.head _)))
    · exact absurd rfl (hn _ (.tail _ (.tail _ (.head _))))
    · exact absurd rfl (hn _ (.tail _ (.tail _ (.tail _ (.head _)))))
    · exact absurd rfl (hn _ (.tail _ (.tail _ (.tail _ (.tail _ (.head _))))))
theorem results_tup {fn : Func} {p : Tmp} (h : fn.results = #[.cell p 44]) (tmps : Array Value) (w : World) (g : Nat) {x : Tu} (hx : OkT x) (hp : tmps.getD p undef = .pointer (some ⟨g, 0, none⟩)) (hb : BT g x w) :
    (results fn tmps).run Try.prog w = .ok (.agg (flat (tseg x))) w :=
  results_cell_row h tmps w g _ _ (0, 0) _ hp hb Try.underlying44 rfl (by rw [infoT]; simp [flat]; have := tlen hx; simpa using this.symm)
theorem tup_new (w : World) {g : Nat} (hg : g = w.heap.size) {x y : Tu} (hx : OkT x) (hy : OkT y) : (storeVar 44 ⟨g, 0, none⟩ (.agg (flat (tseg x)))).run Try.prog (w.alloc (.cells (flat (tseg y)) 44)) = .ok () (w.alloc (.cells (flat (tseg x)) 44)) := by
  have h1 : (flat (tseg y)).size = 37 := by have := tlen hy; simpa [flat] using this
  exact seg_new w hg (by rw [h1, tlen hx]) (by rw [h1]; exact infoT) (tone x)
/-- A tuple stored over another one. -/
theorem tup_over {w W : World} {g : Nat} {x y : Tu} (hx : OkT x) (hy : OkT y) (hg : w.heap.size ≤ g) (hB : Below w.heap.size w W) (hb : BT g y W) :
    ∃ W1, (storeVar 44 ⟨g, 0, none⟩ (.agg (flat (tseg x)))).run Try.prog W = .ok () W1 ∧ BT g x W1 ∧ Below w.heap.size w W1 ∧ W.grownBy W1 (some g) := by
  exact ⟨_, seg_over hb (by rw [tlen hx, tlen hy]) infoT (tlen hx) (tone x), setRow_heap _ _ _ _ _ _ hb, hB.grown (World.grownBy_setRow' W g (flat (tseg x))) hB.size (fun k hk => by cases hk; exact hg), World.grownBy_setRow' W g (flat (tseg x))⟩
end Go.Proofs.Ytfnpjfcfgilchaa.AddrW
