/- '==' of arrays of bytes, as one Bool. -/
import Derived.Test.YtfnpjfcfgilchaaProg
import Derived.Test.YtfnpjfcfgilchaaArrEq
import Derived.Test.YtfnpjfcfgilchaaHelp
namespace Go.Proofs.Ytfnpjfcfgilchaa.AddrEq
open Go.RowKit Go.Proofs.Ytfnpjfcfgilchaa.ArrEq Go.Proofs.YtfnpjfcfgilchaaW.PrintWords
set_option linter.unusedVariables false
set_option linter.unusedSimpArgs false
theorem part_u8 (cs : Array Value) (i : Nat) (v : Value) (w : World) (h : cs[i]? = some v) : (part 5 cs (i * 1)).run Try.prog w = .ok v w := by
  have hu := Try.underlying5
  rw [Nat.mul_one]
  simp [part, isAgg, run_underlying hu, h, go_sem]
theorem eq_u8 (d : Nat) (a b : Int) (w : World) : (Op.equalIn (d + 1) 5 (.int .u8 a) (.int .u8 b)).run Try.prog w = .ok (a == b) w := by
  have hu := Try.underlying5
  simp [Op.equalIn, run_underlying hu, go_sem]
theorem eqItems_u8 (d : Nat) (xs ys : List Int) (w : World) : ∀ (is : List Nat), (∀ i ∈ is, i < xs.length ∧ i < ys.length) →
    (Op.eqItems (d + 1) 5 1 (nums .u8 xs).toArray (nums .u8 ys).toArray is).run Try.prog w = .ok (is.all fun i => xs.getD i 0 == ys.getD i 0) w := by
  intro is
  induction is with
  | nil => intro _; simp [Op.eqItems]
  | cons i is ih =>
    intro h
    obtain ⟨h1, h2⟩ := h i List.mem_cons_self
    rw [List.all_cons]
    refine eqi_cons (part_u8 _ i (.int .u8 (xs.getD i 0)) w ?_) (part_u8 _ i (.int .u8 (ys.getD i 0)) w ?_) (eq_u8 d _ _ w) (ih fun j hj => h j (List.mem_cons_of_mem _ hj))
    · simp [nums, List.getElem?_eq_getElem h1, List.getD_eq_getElem?_getD]
    · simp [nums, List.getElem?_eq_getElem h2, List.getD_eq_getElem?_getD]
theorem all_eq {n : Nat} {xs ys : List Int} (hx : xs.length = n) (hy : ys.length = n) : ((List.range n).all fun i => xs.getD i 0 == ys.getD i 0) = decide (xs = ys) := by
  rw [Bool.eq_iff_iff, List.all_eq_true, decide_eq_true_iff]
  constructor
  · intro h
    apply List.ext_getElem (by omega)
    intro i h1 h2
    have := h i (List.mem_range.2 (by omega))
    simpa [List.getD_eq_getElem?_getD, List.getElem?_eq_getElem h1, List.getElem?_eq_getElem h2] using this
  · rintro rfl i _
    simp
theorem eq_b16 (d : Nat) {xs ys : List Int} (hx : xs.length = 16) (hy : ys.length = 16) (w : World) :
    (Op.equalIn (d + 2) 23 (.agg (nums .u8 xs).toArray) (.agg (nums .u8 ys).toArray)).run Try.prog w = .ok (decide (xs = ys)) w := by
  have hc : Try.prog.cellsOf 5 = 1 := by kernel_rfl
  have hi : (Try.prog.info? 5).isSome = true := by kernel_rfl
  refine eqArr_of (d := d + 1) (List.range 16) Try.underlying23 hi hc rfl ?_
  rw [eqItems_u8 d xs ys w _ (fun i hi => by have := List.mem_range.1 hi; omega), all_eq hx hy]
theorem exec_eql {P : Program} {o : Oper} {a : Act} {W : World} {x y : Operand} {t u : TypeId} {cs ds : Array Value} {b : Bool} (hg : P.eqGuardType P.depth t = false) (ho : o.op = .binOp .eql t x y u) (hx : a.eval x = .agg cs) (hy : a.eval y = .agg ds)
    (h : (Op.equalIn 10000 t (.agg cs) (.agg ds)).run P W = .ok b W) : (execOp a.eval o).run P W = .ok (.value (.bool b)) W := by
  simp only [execOp, ho, hx, hy, Sem.run_bind, run_eqGuard_agg _ _ _ _ _ _ _ hg, run_eql_struct, h, Result.andThen_ok, Sem.run_pure]
theorem exec_neq {P : Program} {o : Oper} {a : Act} {W : World} {x y : Operand} {t u : TypeId} {cs ds : Array Value} {b : Bool} (hg : P.eqGuardType P.depth t = false) (ho : o.op = .binOp .neq t x y u) (hx : a.eval x = .agg cs) (hy : a.eval y = .agg ds)
    (h : (Op.equalIn 10000 t (.agg cs) (.agg ds)).run P W = .ok b W) : (execOp a.eval o).run P W = .ok (.value (.bool (!b))) W := by
  simp only [execOp, ho, hx, hy, Sem.run_bind, run_eqGuard_agg _ _ _ _ _ _ _ hg, run_neq_struct, h, Result.andThen_ok, Sem.run_pure]
end Go.Proofs.Ytfnpjfcfgilchaa.AddrEq
