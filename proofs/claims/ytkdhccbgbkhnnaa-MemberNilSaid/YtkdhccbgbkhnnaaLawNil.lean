/- MemberNil, walked. -/
import Derived.Test.YtkdhccbgbkhnnaaMemN
import Derived.Test.YtkdhccbgbkhnnaaMemNL
import Derived.Test.YtkdhccbgbkhnnaaMemK
import Derived.Test.YtkdhccbgbkhnnaaExecEq
import Derived.Test.YtkdhccbgbkhnnaaMemEq
namespace Go.Proofs.Ytkdhccbgbkhnnaa.Memb
open Go.RowKit Go.Proofs.Ytkdhccbgbkhnnaa.ExecEq Go.Proofs.Ytkdhccbgbkhnnaa.MapI Go.Proofs.Ytkdhccbgbkhnnaa.Mem Go.Proofs.Ytkdhccbgbkhnnaa.Help Go.Proofs.YtkdhccbgbkhnnaaW.PrintWords Go.Proofs.YtkdhccbgbkhnnaaW.PrintLast Go.Proofs.YtkdhccbgbkhnnaaW.PrintMore
set_option linter.unusedVariables false
set_option linter.unusedSimpArgs false
structure NilS (w0 : World) (g1 g2 g3 : Nat) (W : World) : Prop where
  a : BI 24 g1 (0, 0) W
  c : BI 24 g2 (0, 0) W
  d : BI 23 g3 (0, 0) W
  b : Below w0.heap.size w0 W
theorem NilS.below {w0 W W' : World} {g1 g2 g3 : Nat} (h : NilS w0 g1 g2 g3 W) (hB : Below W.heap.size W W') : NilS w0 g1 g2 g3 W' := ⟨blk_below h.a hB, blk_below h.c hB, blk_below h.d hB, below_step h.b hB⟩
set_option maxRecDepth 20000 in
set_option maxHeartbeats 4000000 in
theorem MemberNil_any (k : Int) (x : Int × Int) (w : World) : Calls Try.prog 7 #[.int .i64 k, infV x] w fun e w' => e = .returned (.bool true) ∧ Below w.heap.size w w' := by
  have HG := Aside0.mk (given_any x)
  have HH := Aside0.mk (Hear_nil k x)
  have HX := Aside0.mk (taken_any (0, 0))
  have HGN := Aside0.mk (Get_nil k)
  have HKN := Aside0.mk known_any
  have HEQ3 : Aside0 (∀ W, (Op.equalIn 10000 23 (.agg #[.int .i64 0, .int .i64 0]) (.agg #[.int .i64 0, .int .i64 0])).run Try.prog W = .ok true W) := ⟨fun W => by have := eq_I23 (0, 0) (0, 0) W; unfold infV at this; simpa using this⟩
  have HEQ4 : Aside0 (∀ W, (Op.equalIn 10000 24 (.agg #[.int .i64 0, .int .i64 0]) (.agg #[.int .i64 0, .int .i64 0])).run Try.prog W = .ok true W) := ⟨fun W => by have := eq_I24 (0, 0) (0, 0) W; unfold infV at this; simpa using this⟩
  unfold infV at *
  go_enter Try.func7, Try.ntmps7
  go_wp2_with fail
  refine (HG.out _).mono ?_
  rintro e w1 ⟨rfl, hB1⟩
  replace hB1 := below_step (below_alloc (Below.refl w.heap.size w) _) hB1
  go_wp2_with fail
  refine (HH.out _).mono ?_
  rintro e w2 ⟨rfl, hB⟩
  replace hB1 := below_step hB1 hB
  clear hB HG HH
  go_wp2_with fail
  refine (Doubt_nil k _).mono ?_
  rintro e w3 ⟨rfl, hB⟩
  replace hB1 := below_step hB1 hB
  clear hB
  have HM : Aside0 (BI 24 w3.heap.size (0, 0) (w3.alloc (.cells #[.int .i64 0, .int .i64 0] 24)) ∧ Below w.heap.size w (w3.alloc (.cells #[.int .i64 0, .int .i64 0] 24))) := ⟨blk_new w3 _, below_alloc hB1 _⟩
  clear hB1
  go_wp2_with fail
  refine (Bury_nil k _).mono ?_
  rintro e w4 ⟨rfl, hB⟩
  replace HM : Aside0 (BI 24 w3.heap.size (0, 0) (w4.alloc (.cells #[.int .i64 0, .int .i64 0] 24)) ∧ BI 24 w4.heap.size (0, 0) (w4.alloc (.cells #[.int .i64 0, .int .i64 0] 24)) ∧ Below w.heap.size w (w4.alloc (.cells #[.int .i64 0, .int .i64 0] 24))) := ⟨blk_alloc (blk_below HM.out.1 hB) _, blk_new w4 _, below_alloc (below_step HM.out.2 hB) _⟩
  clear hB
  generalize w3.heap.size = g1 at *
  go_wp2_with fail
  refine (New_yes 0 1 _ (by decide)).mono ?_
  rintro e w5 ⟨g, b, hg, hb, rfl, hV, hB⟩
  have HS : Aside0 (NilS w g1 w4.heap.size w5.heap.size (w5.alloc (.cells #[.int .i64 0, .int .i64 0] 23)).drew) :=
    ⟨NilS.below ⟨blk_alloc (blk_below HM.out.1 hB) _, blk_alloc (blk_below HM.out.2.1 hB) _, blk_new w5 _, below_alloc (below_step HM.out.2.2 hB) _⟩ (below_drew (Below.refl _ _))⟩
  clear HM hB hV hg hb
  go_upto_region 7 with fail
  generalize w4.heap.size = g2 at *
  generalize w5.heap.size = g3 at *
  simp only [List.append_eq, List.cons_append, List.nil_append]
  refine RegionF.region_F (F := (NilS w g1 g2 g3)) 73 (by kernel_rfl) (by kernel_rfl) HS.out ?_
  simp only [List.take_succ_cons, List.take_zero, List.drop_succ_cons, List.drop_zero]
  repeat (first
    | (refine RegionF.wpF_skip (by rfl) ?_
       refine RegionF.wpF_put (fun K' hK' => ?_)
       go_simp
       refine hK' _ ?_
       clear hK' K')
    | (apply RegionF.wpF_step
       · rfl
       · (intro W hW; first | (rw [exec_load rfl rfl (loadI24 hW.a)]; exact RegionF.GivesF.value rfl hW) | (rw [exec_load rfl rfl (loadI24 hW.c)]; exact RegionF.GivesF.value rfl hW) | (rw [exec_load rfl rfl (loadI23 hW.d)]; exact RegionF.GivesF.value rfl hW) | (rw [exec_eql Try.eqGuardType23 rfl rfl rfl (HEQ3.out W)]; exact RegionF.GivesF.value rfl hW) | (rw [exec_eql Try.eqGuardType24 rfl rfl rfl (HEQ4.out W)]; exact RegionF.GivesF.value rfl hW) | (go_simp; first | exact RegionF.GivesF.value rfl hW | (apply RegionF.GivesF.enter; first | (with_reducible exact (HX.out W).mono fun e w1 h => ⟨h.1, hW.below h.2⟩) | (with_reducible exact (HGN.out W).mono fun e w1 h => ⟨h.1, hW.below h.2⟩) | (with_reducible exact (Live_nil W).mono fun e w1 h => ⟨h.1, hW.below h.2⟩) | (with_reducible exact (Same_nn W).mono fun e w1 h => ⟨h.1, hW.below h.2⟩) | (with_reducible exact (Same_nv _ W).mono fun e w1 h => ⟨h.1, hW.below h.2⟩) | (with_reducible exact (Same_vn _ W).mono fun e w1 h => ⟨h.1, hW.below h.2⟩) | (with_reducible exact (Copy_nil W).mono fun e w1 h => ⟨h.1, hW.below h.2⟩) | (with_reducible exact (Bytes_nil W).mono fun e w1 h => ⟨h.1, hW.below h.2⟩) | (with_reducible exact (HKN.out W).mono fun e w1 h => ⟨h.1, hW.below h.2⟩))))
       refine RegionF.wpF_put (fun K' hK' => ?_)
       go_simp
       refine hK' _ ?_
       clear hK' K'))
  refine RegionF.wpF_nil (fun X hX => ?_)
  have HI := Aside0.mk hX
  clear hX HS
  go_wp2_with fail
  go_ret
  exact ⟨rfl, HI.out.b⟩
end Go.Proofs.Ytkdhccbgbkhnnaa.Memb
