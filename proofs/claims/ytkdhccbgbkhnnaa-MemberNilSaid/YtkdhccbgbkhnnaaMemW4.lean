/- A view: Hear. -/
import Derived.Test.YtkdhccbgbkhnnaaMemW3
namespace Go.Proofs.Ytkdhccbgbkhnnaa.Memb
open Go.RowKit Go.Proofs.Ytkdhccbgbkhnnaa.MapI Go.Proofs.Ytkdhccbgbkhnnaa.Mem Go.Proofs.Ytkdhccbgbkhnnaa.Help Go.Proofs.YtkdhccbgbkhnnaaW.PrintWords Go.Proofs.YtkdhccbgbkhnnaaW.PrintLast Go.Proofs.YtkdhccbgbkhnnaaW.PrintMore
set_option linter.unusedVariables false
set_option linter.unusedSimpArgs false
def hearX (me : Nat) (xs : List (Int × Int)) (k : Int) (x : Int × Int) : (Bool × Int) × List (Int × Int) :=
  if (hasI xs k && rightI x) = true then
    (if k = me ∧ x.1 ≠ 0 then (((ansX me xs (getI xs k).2 x.2).1, 0), (ansX me xs (getI xs k).2 x.2).2)
     else if newB x (getI xs k) = true then ((true, 0), xs.set k.toNat x) else ((false, 0), xs))
  else ((false, 1), xs)
def HearPost (me g b : Nat) (w : World) (r : (Bool × Int) × List (Int × Int)) (e : Ending) (w' : World) : Prop :=
  e = .returned (.tuple #[.bool r.1.1, .int .i64 r.1.2]) ∧ VW me g b r.2 w' ∧ w.grownBy w' (some b)
theorem Hear_nil (k : Int) (x : Int × Int) (w : World) : Calls Try.prog 16 #[.pointer none, .int .i64 k, infV x] w fun e w' => e = .returned (.tuple #[.bool false, .int .i64 2]) ∧ Below w.heap.size w w' := by
  unfold infV
  go_enter Try.func16, Try.ntmps16
  go_wp2_with fail
  go_ret2
  exact ⟨rfl, below_alloc (Below.refl _ _) _⟩
theorem below_grownS {w w' : World} (h : Below w.heap.size w w') (b : Nat) : w.grownBy w' (some b) := ⟨h.1, h.2, h.3, h.4, fun k hk _ => h.5 k hk⟩
theorem hasI_in {xs : List (Int × Int)} {k : Int} (h : hasI xs k = true) : 0 ≤ k ∧ k < xs.length := by
  unfold hasI at h; simp at h; exact h
theorem rightI_c {x : Int × Int} (h : rightI x = true) : 0 ≤ x.2 ∧ x.2 ≤ 1099511627776 := by
  unfold rightI at h; simp at h; omega
theorem Hear_any {me : Nat} {g b : Nat} {xs : List (Int × Int)} (k : Int) (x : Int × Int) (w : World) (hV : VW me g b xs w) (hm : me < xs.length) (hl : xs.length < 1000) (hk : (Lit.int .i64 k).wf = true) :
    Calls Try.prog 16 #[.pointer (some ⟨g, 0, none⟩), .int .i64 k, infV x] w (HearPost me g b w (hearX me xs k x)) := by
  have hB1 := below_alloc (Below.refl w.heap.size w) (.cells #[.int .i64 x.1, .int .i64 x.2] 24 (0, 0))
  have hV1 := hV.kept hB1
  have HL := Aside0.mk (hV1.look true hk)
  have c2 := blk_cell hV1.v 2
  have hg : g < w.heap.size := (Array.getElem?_eq_some_iff.1 hV.v).1
  have hB2 := below_alloc hB1 (.cells #[.int .i64 (getI xs k).1, .int .i64 (getI xs k).2] 24 (0, 0))
  have HW2 := Aside0.mk (hV.kept hB2)
  generalize hR : hearX me xs k x = R
  unfold hearX at hR
  generalize hy : getI xs k = y at *
  cases hh : hasI xs k
  · rw [hh] at HL hR
    subst hR
    have HF := Aside0.mk (And.intro HW2.out hB2)
    clear hV hV1 hB1 hB2 HW2
    unfold infV at *
    go_enter Try.func16, Try.ntmps16
    go_wp2_with (at_lookup; refine Kd.event_run rfl (exec_lookup rfl rfl rfl HL.out) ?_)
    go_ret2
    exact ⟨rfl, HF.out.1, below_grownS HF.out.2 b⟩
  · rw [hh] at HL hR
    cases hr : rightI x
    · rw [hr] at hR
      subst hR
      have HB2 := Aside0.mk hB2
      have HR := Aside0.mk (fun W => Right_any x W)
      clear hV hV1 hB1 hB2
      unfold infV at *
      go_enter Try.func16, Try.ntmps16
      go_wp2_with (at_lookup; refine Kd.event_run rfl (exec_lookup rfl rfl rfl HL.out) ?_)
      refine (HR.out _).mono ?_
      rintro e w1 ⟨rfl, hB⟩
      rw [hr]
      have HF := Aside0.mk (And.intro (HW2.out.kept hB) (below_step HB2.out hB))
      clear hB HW2 HB2
      go_wp2_with fail
      go_ret2
      exact ⟨rfl, HF.out.1, below_grownS HF.out.2 b⟩
    · skip
      have HB2 := Aside0.mk hB2
      have HR := Aside0.mk (fun W => Right_any x W)
      have HMX := Aside0.mk hm
      have HLX := Aside0.mk hl
      have hx1 := blk_alloc (blk_new w (.cells #[.int .i64 x.1, .int .i64 x.2] 24 (0, 0))) (.cells #[.int .i64 y.1, .int .i64 y.2] 24 (0, 0))
      have hy1 := blk_new_at (w := w.alloc (.cells #[.int .i64 x.1, .int .i64 x.2] 24 (0, 0))) (o := .cells #[.int .i64 y.1, .int .i64 y.2] 24 (0, 0)) (g := w.heap.size + 1) (by unfold World.alloc; simp)
      have HX := Aside0.mk hx1
      have HY := Aside0.mk hy1
      clear hV hV1 hB1 hB2 hm hl hx1 hy1
      unfold infV at *
      rw [hr] at hR
      simp only [Bool.and_self, if_true] at hR
      by_cases hme : k = (me : Int) ∧ x.1 ≠ 0
      · obtain ⟨rfl, hx0⟩ := hme
        rw [if_pos ⟨rfl, hx0⟩] at hR
        subst hR
        have hx0' : (x.1 == 0) = false := by simpa using hx0
        go_enter Try.func16, Try.ntmps16
        go_wp2_with (at_lookup; refine Kd.event_run rfl (exec_lookup rfl rfl rfl HL.out) ?_)
        refine (HR.out _).mono ?_
        rintro e w1 ⟨rfl, hB⟩
        rw [hr]
        have HF := Aside0.mk (And.intro (HW2.out.kept hB) (below_step HB2.out hB))
        have c0 := blk_cell HF.out.1.v 0
        have c2 := blk_cell HF.out.1.v 2
        have hx := blk_below HX.out hB
        have hy' := blk_below HY.out hB
        have x0 := blk_cell hx 0
        have x1 := blk_cell hx 1
        have y0 := blk_cell hy' 0
        have y1 := blk_cell hy' 1
        have hW1 := hB.size
        have HX := Aside0.mk hx
        clear hB hx hy' HW2 HB2
        have HA := Aside0.mk (answer_any y.1 y.2 x.2 w1 HF.out.1 HMX.out HLX.out (rightI_c hr).2 (rightI_c hr).1)
        unfold infV at HA
        generalize ansX me xs y.2 x.2 = R at *
        obtain ⟨r1, r2⟩ := R
        go_wp2_with fail
        refine HA.out.mono ?_
        rintro e w2 ⟨rfl, hV2, hg2⟩
        have HF2 := Aside0.mk (And.intro hV2 ((below_grownS HF.out.2 b).trans hg2))
        clear hV2 hg2 HA
        go_wp2_with fail
        go_ret2
        exact ⟨rfl, HF2.out.1, HF2.out.2⟩
      · rw [if_neg hme] at hR
        have HN := Aside0.mk (fun W => Newer_any x y W)
        unfold infV at HN
        have hcase : (k == (me : Int)) = false ∨ ((k == (me : Int)) = true ∧ (x.1 == 0) = true) := by
          by_cases h1 : k = (me : Int)
          · right; refine ⟨by simpa using h1, ?_⟩
            have : ¬ x.1 ≠ 0 := fun h2 => hme ⟨h1, h2⟩
            simpa using this
          · left; simpa using h1
        have HK := Aside0.mk (hasI_in hh)
        have HX0 := Aside0.mk hR
        clear hR hme
        rcases hcase with hk0 | ⟨hk0, hx0⟩ <;> (
          go_enter Try.func16, Try.ntmps16
          go_wp2_with (at_lookup; refine Kd.event_run rfl (exec_lookup rfl rfl rfl HL.out) ?_)
          refine (HR.out _).mono ?_
          rintro e w1 ⟨rfl, hB⟩
          rw [hr]
          have HF := Aside0.mk (And.intro (HW2.out.kept hB) (below_step HB2.out hB))
          have c0 := blk_cell HF.out.1.v 0
          have c2 := blk_cell HF.out.1.v 2
          have hx := blk_below HX.out hB
          have hy' := blk_below HY.out hB
          have x0 := blk_cell hx 0
          have x1 := blk_cell hx 1
          have y0 := blk_cell hy' 0
          have y1 := blk_cell hy' 1
          have HX := Aside0.mk hx
          have HY := Aside0.mk hy'
          clear hB hx hy' HW2 HB2
          go_wp2_with fail
          refine (HN.out _).mono ?_
          rintro e w2 ⟨rfl, hB⟩
          replace HF := Aside0.mk (And.intro (HF.out.1.kept hB) (below_step HF.out.2 hB))
          replace HX := Aside0.mk (blk_below HX.out hB)
          clear hB c0 c2 x0 x1 y0 y1 HN HR
          cases hn : newB x y
          · have hR := HX0.out
            rw [hn] at hR
            rw [if_neg (by simp)] at hR
            subst hR
            go_wp2_with fail
            go_ret2
            exact ⟨rfl, HF.out.1, below_grownS HF.out.2 b⟩
          · have hR := HX0.out
            rw [hn, if_pos rfl] at hR
            subst hR
            obtain ⟨hk1, hk2⟩ := HK.out
            obtain ⟨kn, rfl⟩ : ∃ kn : Nat, k = (kn : Int) := ⟨k.toNat, by omega⟩
            have HKN : Aside0 (kn < xs.length) := ⟨by omega⟩
            clear hk1 hk2
            replace HF := Aside0.mk (show VW me g b xs w2.drew ∧ w.grownBy w2.drew (some b) from ⟨⟨HF.out.1.v, HF.out.1.m⟩, below_grownS (below_drew HF.out.2) b⟩)
            replace HX := Aside0.mk (show w2.drew.heap[w.heap.size]? = _ from HX.out)
            go_upto_region 10 with fail
            refine RegionF.region_F (F := (fun X => X = w2.drew)) 6 (by kernel_rfl) (by kernel_rfl) rfl ?_
            simp only [List.take_succ_cons, List.take_zero, List.drop_succ_cons, List.drop_zero]
            generalize w2.drew = Y at *
            have c2 := blk_cell HF.out.1.v 2
            have x0 := blk_cell HX.out 0
            have x1 := blk_cell HX.out 1
            apply RegionF.wpF_step
            · rfl
            · (intro X hX; subst hX; go_simp; exact RegionF.GivesF.value rfl rfl)
            refine RegionF.wpF_put (fun K' hK' => ?_)
            go_simp
            refine hK' _ ?_
            clear hK' K'
            apply RegionF.wpF_step
            · rfl
            · (intro X hX; subst hX; go_simp; exact RegionF.GivesF.value rfl rfl)
            refine RegionF.wpF_put (fun K' hK' => ?_)
            go_simp
            refine hK' _ ?_
            clear hK' K'
            apply RegionF.wpF_step
            · rfl
            · (intro X hX; subst hX; go_simp; exact RegionF.GivesF.value rfl rfl)
            refine RegionF.wpF_put (fun K' hK' => ?_)
            go_simp
            refine hK' _ ?_
            clear hK' K'
            apply RegionF.wpF_step
            · rfl
            · (intro X hX; subst hX; go_simp; exact RegionF.GivesF.value rfl rfl)
            refine RegionF.wpF_put (fun K' hK' => ?_)
            go_simp
            refine hK' _ ?_
            clear hK' K'
            apply RegionF.wpF_step
            · rfl
            · (intro X hX; subst hX; go_simp; exact RegionF.GivesF.value rfl rfl)
            refine RegionF.wpF_put (fun K' hK' => ?_)
            go_simp
            refine hK' _ ?_
            clear hK' K'
            apply RegionF.wpF_step
            · rfl
            · (intro X hX; subst hX; go_simp; exact RegionF.GivesF.value rfl rfl)
            refine RegionF.wpF_put (fun K' hK' => ?_)
            go_simp
            refine hK' _ ?_
            clear hK' K'
            refine RegionF.wpF_nil (fun X hX => ?_)
            subst hX
            obtain ⟨w3, hrun, hV2, hg2⟩ := HF.out.1.put HKN.out HLX.out x
            have HRUN := Aside0.mk hrun
            replace HF := Aside0.mk (And.intro hV2 (HF.out.2.trans hg2))
            clear hrun hV2 hg2 c2
            unfold infV at HRUN
            go_wp2_with (at_mapUpdate; refine event_skip rfl (exec_mapUpdate rfl (by go_simp) (by go_simp) (by go_simp) HRUN.out) ?_)
            go_ret2
            exact ⟨rfl, by rw [Int.toNat_natCast]; exact HF.out.1, HF.out.2⟩)
end Go.Proofs.Ytkdhccbgbkhnnaa.Memb
