/- '==' of how one is seen; a whole one loaded. -/
import Derived.Test.YtkdhccbgbkhnnaaMemV
import Derived.Test.YtkdhccbgbkhnnaaWEqStruct
namespace Go.Proofs.Ytkdhccbgbkhnnaa.Memb
open Go.RowKit Go.Proofs.Ytkdhccbgbkhnnaa.MapI Go.Proofs.Ytkdhccbgbkhnnaa.Mem Go.Proofs.Ytkdhccbgbkhnnaa.Help Go.Proofs.YtkdhccbgbkhnnaaW.PrintWords Go.Proofs.YtkdhccbgbkhnnaaW.PrintLast Go.Proofs.YtkdhccbgbkhnnaaW.PrintMore
set_option linter.unusedVariables false
set_option linter.unusedSimpArgs false
theorem part_i (T : TypeId) (k : IntKind) (hu : Try.prog.underlying T = some (.int k)) (i : Nat) (cs : Array Value) (v : Value) (w : World) (h : cs[i]? = some v) : (part T cs i).run Try.prog w = .ok v w := by
  simp [part, isAgg, run_underlying hu, h, go_sem]
theorem eq_i (T : TypeId) (k : IntKind) (hu : Try.prog.underlying T = some (.int k)) (d : Nat) (a b : Int) (w : World) : (Op.equalIn (d + 1) T (.int k a) (.int k b)).run Try.prog w = .ok (a == b) w := by
  simp [Op.equalIn, run_underlying hu, go_sem]
theorem eq_I23 (x y : Int × Int) (w : World) : (Op.equalIn 10000 23 (infV x) (infV y)).run Try.prog w = .ok (x.1 == y.1 && x.2 == y.2) w := by
  refine eqA_of (d := 9999) Try.underlying23 Try.stoodInHeld23 ?_
  refine eqf_cons (by rfl) (part_i _ .i64 Try.underlying3 0 _ _ w rfl) (part_i _ .i64 Try.underlying3 0 _ _ w rfl) (eq_i _ .i64 Try.underlying3 9998 _ _ w) ?_
  exact eqf_last (by rfl) (part_i _ .i64 Try.underlying2 1 _ _ w rfl) (part_i _ .i64 Try.underlying2 1 _ _ w rfl) (eq_i _ .i64 Try.underlying2 9998 _ _ w)
theorem eq_I24 (x y : Int × Int) (w : World) : (Op.equalIn 10000 24 (infV x) (infV y)).run Try.prog w = .ok (x.1 == y.1 && x.2 == y.2) w := by
  refine eqA_of (d := 9999) Try.underlying24 Try.stoodInHeld24 ?_
  refine eqf_cons (by rfl) (part_i _ .i64 Try.underlying3 0 _ _ w rfl) (part_i _ .i64 Try.underlying3 0 _ _ w rfl) (eq_i _ .i64 Try.underlying3 9998 _ _ w) ?_
  exact eqf_last (by rfl) (part_i _ .i64 Try.underlying2 1 _ _ w rfl) (part_i _ .i64 Try.underlying2 1 _ _ w rfl) (eq_i _ .i64 Try.underlying2 9998 _ _ w)
/-- A block that holds one. -/
def BI (T : TypeId) (g : Nat) (x : Int × Int) : World → Prop := Blk g (.cells #[.int .i64 x.1, .int .i64 x.2] T (0, 0))
theorem loadI23 {W : World} {g : Nat} {x : Int × Int} (h : BI 23 g x W) : (loadVar 23 ⟨g, 0, none⟩).run Try.prog W = .ok (.agg #[.int .i64 x.1, .int .i64 x.2]) W := by
  have c0 := blk_cell h 0
  have c1 := blk_cell h 1
  go_simp
theorem loadI24 {W : World} {g : Nat} {x : Int × Int} (h : BI 24 g x W) : (loadVar 24 ⟨g, 0, none⟩).run Try.prog W = .ok (.agg #[.int .i64 x.1, .int .i64 x.2]) W := by
  have c0 := blk_cell h 0
  have c1 := blk_cell h 1
  go_simp
end Go.Proofs.Ytkdhccbgbkhnnaa.Memb
