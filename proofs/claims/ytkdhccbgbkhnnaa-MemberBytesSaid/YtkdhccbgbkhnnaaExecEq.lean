/- '==' of structs, as an operation of a drawn region. -/
import Derived.Test.YtkdhccbgbkhnnaaBase
import Derived.Test.YtkdhccbgbkhnnaaWEqStruct
namespace Go.Proofs.Ytkdhccbgbkhnnaa.ExecEq
open Go.RowKit Go.Proofs.YtkdhccbgbkhnnaaW.PrintWords
set_option linter.unusedVariables false
set_option linter.unusedSimpArgs false
theorem exec_eql {P : Program} {o : Oper} {a : Act} {W : World} {x y : Operand} {t u : TypeId} {cs ds : Array Value} {b : Bool} (hg : P.eqGuardType P.depth t = false) (ho : o.op = .binOp .eql t x y u) (hx : a.eval x = .agg cs) (hy : a.eval y = .agg ds)
    (h : (Op.equalIn 10000 t (.agg cs) (.agg ds)).run P W = .ok b W) : (execOp a.eval o).run P W = .ok (.value (.bool b)) W := by
  simp only [execOp, ho, hx, hy, Sem.run_bind, run_eqGuard_agg _ _ _ _ _ _ _ hg, run_eql_struct, h, Result.andThen_ok, Sem.run_pure]
theorem exec_neq {P : Program} {o : Oper} {a : Act} {W : World} {x y : Operand} {t u : TypeId} {cs ds : Array Value} {b : Bool} (hg : P.eqGuardType P.depth t = false) (ho : o.op = .binOp .neq t x y u) (hx : a.eval x = .agg cs) (hy : a.eval y = .agg ds)
    (h : (Op.equalIn 10000 t (.agg cs) (.agg ds)).run P W = .ok b W) : (execOp a.eval o).run P W = .ok (.value (.bool (!b))) W := by
  simp only [execOp, ho, hx, hy, Sem.run_bind, run_eqGuard_agg _ _ _ _ _ _ _ hg, run_neq_struct, h, Result.andThen_ok, Sem.run_pure]
end Go.Proofs.Ytkdhccbgbkhnnaa.ExecEq
