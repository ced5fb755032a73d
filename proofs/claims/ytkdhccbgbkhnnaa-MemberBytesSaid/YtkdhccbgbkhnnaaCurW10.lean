/- The law's own lists: told. -/
import Derived.Test.YtkdhccbgbkhnnaaCurW9
namespace Go.Proofs.Ytkdhccbgbkhnnaa.Cur
open Go.RowKit Go.Proofs.Ytkdhccbgbkhnnaa.Segs Go.Proofs.Ytkdhccbgbkhnnaa.Own Go.Proofs.Ytkdhccbgbkhnnaa.CurP Go.Proofs.Ytkdhccbgbkhnnaa.Mem Go.Proofs.Ytkdhccbgbkhnnaa.Bits Go.Proofs.Ytkdhccbgbkhnnaa.Help Go.Proofs.YtkdhccbgbkhnnaaW.PrintWords Go.Proofs.YtkdhccbgbkhnnaaW.PrintLast Go.Proofs.YtkdhccbgbkhnnaaW.PrintMore
set_option linter.unusedVariables false
set_option linter.unusedSimpArgs false
theorem info_rval : (Try.prog.info? 106).map (fun i => (i.zero, i.size, i.bytes)) = some (some (.agg #[.int .u64 0, .slice none 0 0]), dV.sz, 32) := by kernel_rfl
theorem told_reads {w w' : World} {v : Value} {l : List (Int × List Int)} (h : Kd.S (Kd.fixed dV w) 106 w' w.heap.size (fun _ => True) v l) (hB : Below w.heap.size w w') :
    ∃ A c, v = .slice A l.length c ∧ l.length ≤ c ∧ dV.C w' A l.length l := by
  obtain ⟨A, c, h1, h2, h3⟩ := Kd.S_reads h
  exact ⟨A, c, h1, h2, Kd.C_imp (d := Kd.fixed dV w) rfl (fun w1 x cs hk => hk) h3 |> fun h => h.imp_ (Below.refl _ _) (fun x cs hk => dV.K_below hB hk)⟩
end Go.Proofs.Ytkdhccbgbkhnnaa.Cur
