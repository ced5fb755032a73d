/- A view: Get, Hear. -/
import Derived.Test.YtkdhccbgbkhnnaaMemW2
import Derived.Maps.OwnOps
namespace Go.Proofs.Ytkdhccbgbkhnnaa.Memb
open Go.RowKit Go.Proofs.Ytkdhccbgbkhnnaa.MapI Go.Proofs.Ytkdhccbgbkhnnaa.Mem Go.Proofs.Ytkdhccbgbkhnnaa.Help Go.Proofs.YtkdhccbgbkhnnaaW.PrintWords Go.Proofs.YtkdhccbgbkhnnaaW.PrintLast Go.Proofs.YtkdhccbgbkhnnaaW.PrintMore
set_option linter.unusedVariables false
set_option linter.unusedSimpArgs false
theorem Get_nil (k : Int) (w : World) : Calls Try.prog 19 #[.pointer none, .int .i64 k] w fun e w' => e = .returned (infV (0, 0)) ∧ Below w.heap.size w w' := by
  unfold infV
  go_enter Try.func19, Try.ntmps19
  go_wp2_with fail
  refine bodyPost_ret (v := .agg #[.int .i64 0, .int .i64 0]) (by simp [results, Try.results19, go_sem]) rfl ?_
  exact ⟨rfl, below_alloc (Below.refl _ _) _⟩
theorem Get_any {me : Int} {g b : Nat} {xs : List (Int × Int)} (k : Int) (w : World) (hV : VW me g b xs w) (hk : (Lit.int .i64 k).wf = true) :
    Calls Try.prog 19 #[.pointer (some ⟨g, 0, none⟩), .int .i64 k] w fun e w' => e = .returned (infV (getI xs k)) ∧ Below w.heap.size w w' := by
  have hV1 := hV.kept (below_alloc (Below.refl w.heap.size w) (.cells #[.int .i64 0, .int .i64 0] 24 (0, 0)))
  have HL := Aside0.mk (hV1.look false hk)
  have c2 := blk_cell hV1.v 2
  generalize getI xs k = x at *
  obtain ⟨s, c⟩ := x
  clear hV hV1
  unfold infV at *
  dsimp only at *
  go_enter Try.func19, Try.ntmps19
  go_wp2_with (at_lookup; refine Kd.event_run rfl (exec_lookup rfl rfl rfl HL.out) ?_)
  refine bodyPost_ret (v := .agg #[.int .i64 s, .int .i64 c]) (by simp [results, Try.results19, go_sem]) rfl ?_
  exact ⟨rfl, below_alloc (Below.refl _ _) _⟩
def capI (c : Int) : Int := if 1099511627776 < c then 1099511627776 else c
/-- It is said that me is not there. -/
def ansX (me : Nat) (xs : List (Int × Int)) (y c : Int) : Bool × List (Int × Int) :=
  if c < y then (false, xs) else (decide (c < 1099511627776), xs.set me (0, capI (c + 1)))
theorem answer_any {me : Nat} {g b : Nat} {xs : List (Int × Int)} (s y c : Int) (w : World) (hV : VW me g b xs w) (hm : me < xs.length) (hl : xs.length < 1000) (hc : c ≤ 1099511627776) (hc0 : 0 ≤ c) :
    Calls Try.prog 39 #[.pointer (some ⟨g, 0, none⟩), infV (s, y), .int .i64 c] w fun e w' => e = .returned (.bool (ansX me xs y c).1) ∧ VW me g b (ansX me xs y c).2 w' ∧ w.grownBy w' (some b) := by
  unfold ansX
  by_cases h : c < y
  · rw [if_pos h]
    have HF := Aside0.mk (hV.kept (below_alloc (Below.refl w.heap.size w) (.cells #[.int .i64 s, .int .i64 y] 24 (0, 0))))
    unfold infV
    clear hV
    go_enter Try.func39, Try.ntmps39
    go_wp2_with fail
    go_ret
    exact ⟨rfl, HF.out, World.grownBy_alloc _ _ _⟩
  · rw [if_neg h]
    have hV1 := hV.kept (below_alloc (Below.refl w.heap.size w) (.cells #[.int .i64 s, .int .i64 y] 24 (0, 0)))
    have HV := Aside0.mk (show VW me g b xs (w.alloc (.cells #[.int .i64 s, .int .i64 y] 24 (0, 0))).drew from ⟨hV1.v, hV1.m⟩)
    have HG := Aside0.mk (show w.grownBy (w.alloc (.cells #[.int .i64 s, .int .i64 y] 24 (0, 0))).drew (some b) from ⟨rfl, rfl, rfl, by simp, fun i hi _ => (World.grownBy_alloc w _ none).block i hi (by simp)⟩)
    clear hV hV1
    unfold infV
    have HW : Aside0 (IntKind.i64.wrap (c + 1) = c + 1) := ⟨by rw [IntKind.wrap_i64]; omega⟩
    have HM := Aside0.mk hm
    have HLN := Aside0.mk hl
    clear hm hl
    go_enter Try.func39, Try.ntmps39
    go_upto_region 12 with fail
    refine RegionF.region_F (F := (fun X => X = (w.alloc (.cells #[.int .i64 s, .int .i64 y] 24 (0, 0))).drew)) 12 (by kernel_rfl) (by kernel_rfl) rfl ?_
    simp only [List.take_succ_cons, List.take_zero, List.drop_succ_cons, List.drop_zero]
    generalize (w.alloc (.cells #[.int .i64 s, .int .i64 y] 24 (0, 0))).drew = Y at *
    have c0 := blk_cell HV.out.v 0
    have c2 := blk_cell HV.out.v 2
    have hw := HW.out
    apply RegionF.wpF_step
    · rfl
    · (intro X hX; subst hX; go_simp; exact RegionF.GivesF.value rfl rfl)
    refine RegionF.wpF_put (fun K' hK' => ?_)
    go_simp
    refine hK' _ ?_
    clear hK' K'
    apply RegionF.wpF_step
    · rfl
    · (intro X hX; subst hX; go_simp; exact RegionF.GivesF.value rfl rfl)
    refine RegionF.wpF_put (fun K' hK' => ?_)
    go_simp
    refine hK' _ ?_
    clear hK' K'
    apply RegionF.wpF_step
    · rfl
    · (intro X hX; subst hX; go_simp; exact RegionF.GivesF.value rfl rfl)
    refine RegionF.wpF_put (fun K' hK' => ?_)
    go_simp
    refine hK' _ ?_
    clear hK' K'
    apply RegionF.wpF_step
    · rfl
    · (intro X hX; subst hX; go_simp; exact RegionF.GivesF.value rfl rfl)
    refine RegionF.wpF_put (fun K' hK' => ?_)
    go_simp
    refine hK' _ ?_
    clear hK' K'
    apply RegionF.wpF_step
    · rfl
    · (intro X hX; subst hX; go_simp; exact RegionF.GivesF.value rfl rfl)
    refine RegionF.wpF_put (fun K' hK' => ?_)
    go_simp
    refine hK' _ ?_
    clear hK' K'
    apply RegionF.wpF_step
    · rfl
    · (intro X hX; subst hX; go_simp; exact RegionF.GivesF.value rfl rfl)
    refine RegionF.wpF_put (fun K' hK' => ?_)
    go_simp
    refine hK' _ ?_
    clear hK' K'
    apply RegionF.wpF_step
    · rfl
    · (intro X hX; subst hX; go_simp; exact RegionF.GivesF.value rfl rfl)
    refine RegionF.wpF_put (fun K' hK' => ?_)
    go_simp
    refine hK' _ ?_
    clear hK' K'
    apply RegionF.wpF_step
    · rfl
    · (intro X hX; subst hX; go_simp; exact RegionF.GivesF.value rfl rfl)
    refine RegionF.wpF_put (fun K' hK' => ?_)
    go_simp
    refine hK' _ ?_
    clear hK' K'
    apply RegionF.wpF_step
    · rfl
    · (intro X hX; subst hX; go_simp; exact RegionF.GivesF.value rfl rfl)
    refine RegionF.wpF_put (fun K' hK' => ?_)
    go_simp
    refine hK' _ ?_
    clear hK' K'
    apply RegionF.wpF_step
    · rfl
    · (intro X hX; subst hX; go_simp; exact RegionF.GivesF.value rfl rfl)
    refine RegionF.wpF_put (fun K' hK' => ?_)
    go_simp
    refine hK' _ ?_
    clear hK' K'
    apply RegionF.wpF_step
    · rfl
    · (intro X hX; subst hX; go_simp; exact RegionF.GivesF.value rfl rfl)
    refine RegionF.wpF_put (fun K' hK' => ?_)
    go_simp
    refine hK' _ ?_
    clear hK' K'
    apply RegionF.wpF_step
    · rfl
    · (intro X hX; subst hX; go_simp; exact RegionF.GivesF.value rfl rfl)
    refine RegionF.wpF_put (fun K' hK' => ?_)
    go_simp
    refine hK' _ ?_
    clear hK' K'
    refine RegionF.wpF_nil (fun X hX => ?_)
    subst hX
    obtain ⟨w2, hrun, hV2, hg2⟩ := HV.out.put HM.out HLN.out (0, capI (c + 1))
    have HRUN := Aside0.mk hrun
    have HF := Aside0.mk (And.intro hV2 (HG.out.trans hg2))
    clear hrun hV2 hg2
    unfold infV capI at HRUN
    dsimp only at HRUN
    generalize (if 1099511627776 < c + 1 then (1099511627776 : Int) else c + 1) = q at HRUN ⊢
    go_wp2_with (at_mapUpdate; refine event_skip rfl (exec_mapUpdate rfl (by go_simp) (by go_simp) (by go_simp) HRUN.out) ?_)
    go_ret
    exact ⟨rfl, HF.out.1, HF.out.2⟩
end Go.Proofs.Ytkdhccbgbkhnnaa.Memb
