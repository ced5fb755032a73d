/- '==' of addresses. -/
import Derived.Test.YtfnpjfcfgilchaaAddrW3
namespace Go.Proofs.Ytfnpjfcfgilchaa.AddrW
open Go.RowKit Go.Proofs.Ytfnpjfcfgilchaa.AddrEq Go.Proofs.Ytfnpjfcfgilchaa.Bits Go.Proofs.Ytfnpjfcfgilchaa.Help Go.Proofs.YtfnpjfcfgilchaaW.PrintWords Go.Proofs.YtfnpjfcfgilchaaW.PrintLast Go.Proofs.YtfnpjfcfgilchaaW.PrintMore
set_option linter.unusedVariables false
set_option linter.unusedSimpArgs false
theorem part_bool (v : Bool) (bs : List Int) (w : World) : (part 4 (av v bs) 0).run Try.prog w = .ok (.bool v) w := by
  have hu := Try.underlying4
  simp [part, isAgg, run_underlying hu, av_at0, go_sem]
theorem part_b16 (v : Bool) {bs : List Int} (hl : bs.length = 16) (w : World) : (part 23 (av v bs) 1).run Try.prog w = .ok (.agg (nums .u8 bs).toArray) w := by
  have hu := Try.underlying23
  have hi : (Try.prog.info? 23).map (·.size) = some 16 := by kernel_rfl
  have he : (av v bs).extract 1 17 = (nums .u8 bs).toArray := by
    apply Array.ext'
    simp [av, Array.toList_extract, List.extract_eq_take_drop]
    rw [List.take_of_length_le]
    simp [nums, hl]
  obtain ⟨j, hj, hs⟩ := Option.map_eq_some_iff.1 hi
  simp [part, isAgg, run_underlying hu, sizeOf, typeInfo, hj, hs, he, go_sem]
theorem eq_bool (d : Nat) (a b : Bool) (w : World) : (Op.equalIn (d + 1) 4 (.bool a) (.bool b)).run Try.prog w = .ok (a == b) w := by
  have hu := Try.underlying4
  simp [Op.equalIn, run_underlying hu, go_sem]
theorem eq_addr (v : Bool) {bs : List Int} (u : Bool) {cs : List Int} (hl : bs.length = 16) (hm : cs.length = 16) (w : World) :
    (Op.equalIn 10000 25 (.agg (av v bs)) (.agg (av u cs))).run Try.prog w = .ok (v == u && decide (bs = cs)) w := by
  refine eqA_of (d := 9999) Try.underlying25 Try.stoodInHeld25 ?_
  refine eqf_cons (by rfl) (part_bool v bs w) (part_bool u cs w) (eq_bool 9998 v u w) ?_
  exact eqf_last (by rfl) (part_b16 v hl w) (part_b16 u hm w) (eq_b16 9997 hl hm w)
end Go.Proofs.Ytfnpjfcfgilchaa.AddrW
