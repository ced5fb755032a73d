/- The walks of rounds, take. -/
import Derived.Test.YtjcmcjhfmcabnaaHashW2
import Derived.Deep.CutRange
namespace Go.Proofs.Ytjcmcjhfmcabnaa.Hash
open Go.RowKit Go.Proofs.Ytjcmcjhfmcabnaa.Bits Go.Proofs.Ytjcmcjhfmcabnaa.Help Go.Proofs.YtjcmcjhfmcabnaaW.PrintWords Go.Proofs.YtjcmcjhfmcabnaaW.PrintLast Go.Proofs.YtjcmcjhfmcabnaaW.PrintMore
set_option linter.unusedVariables false
set_option linter.unusedSimpArgs false
set_option maxRecDepth 10000 in
set_option maxHeartbeats 8000000 in
theorem rounds_any {t : TypeId} (g n : Nat) (v : S4) (w : World) (hn : n ≤ 1000) (hb0 : w.heap[g]? = some (.cells v.vals.toArray t (0, 0))) :
    Calls Try.prog 23 #[.pointer (some ⟨g, 0, none⟩), .int .i64 n] w fun e w' => e = .returned (.tuple #[]) ∧ w'.heap[g]? = some (.cells (rnds n v).vals.toArray t (0, 0)) ∧ w.grownBy w' (some g) := by
  have HB := Aside0.mk hb0
  clear hb0
  go_enter Try.func23, Try.ntmps23
  go_wp2
  go_loopg [5] n (fun kq v5 w' => ∃ i : Nat, Aside0 (kq + i = n) ∧ v5 = .int .i64 (i : Int) ∧ Aside0 (w'.heap[g]? = some (.cells (rnds i v).vals.toArray t (0, 0))) ∧ Aside0 (w.grownBy w' (some g)))
  case atStart => exact ⟨0, ⟨rfl⟩, rfl, HB, ⟨World.grownBy.refl _ _⟩⟩
  case round =>
    obtain ⟨i, HI, rfl, HB1, HG⟩ := hrel
    clear HB
    cases gk with
    | zero =>
      have hj : i = n := by have := HI.out; omega
      subst hj
      have hlt : decide ((i : Int) < (i : Int)) = false := decide_eq_false (by omega)
      go_wp2
      exact bodyPost_end (results_none rfl _ _ _) rfl ⟨rfl, HB1.out, HG.out⟩
    | succ kq =>
      have hj : i < n := by have := HI.out; omega
      have hlt : decide ((i : Int) < (n : Int)) = true := decide_eq_true (by omega)
      have hb := HB1.out
      have hG := HG.out
      clear HB1 HG
      generalize hv : rnds i v = u at *
      obtain ⟨a, b, c, d⟩ := u
      go_wp2
      obtain ⟨a1, ha1⟩ : ∃ x, Aside0 (x = IntKind.u64.wrap (a + b)) := ⟨_, ⟨rfl⟩⟩
      obtain ⟨c1, hc1⟩ : ∃ x, Aside0 (x = IntKind.u64.wrap (c + d)) := ⟨_, ⟨rfl⟩⟩
      obtain ⟨b1, hb1⟩ : ∃ x, Aside0 (x = bits .xor .u64 (rot b 13) a1) := ⟨_, ⟨rfl⟩⟩
      obtain ⟨d1, hd1⟩ : ∃ x, Aside0 (x = bits .xor .u64 (rot d 16) c1) := ⟨_, ⟨rfl⟩⟩
      obtain ⟨a2, ha2⟩ : ∃ x, Aside0 (x = rot a1 32) := ⟨_, ⟨rfl⟩⟩
      obtain ⟨c2, hc2⟩ : ∃ x, Aside0 (x = IntKind.u64.wrap (c1 + b1)) := ⟨_, ⟨rfl⟩⟩
      obtain ⟨a3, ha3⟩ : ∃ x, Aside0 (x = IntKind.u64.wrap (a2 + d1)) := ⟨_, ⟨rfl⟩⟩
      obtain ⟨b2, hb2⟩ : ∃ x, Aside0 (x = bits .xor .u64 (rot b1 17) c2) := ⟨_, ⟨rfl⟩⟩
      obtain ⟨d2, hd2⟩ : ∃ x, Aside0 (x = bits .xor .u64 (rot d1 21) a3) := ⟨_, ⟨rfl⟩⟩
      obtain ⟨c3, hc3⟩ : ∃ x, Aside0 (x = rot c2 32) := ⟨_, ⟨rfl⟩⟩
      go_cut [] from 7 to 118 (fun wx => Aside0 (wx.heap[g]? = some (.cells #[.int .u64 a1, .int .u64 b, .int .u64 c, .int .u64 d] t (0, 0))) ∧ Aside0 (w.grownBy wx (some g)))
      case first =>
        refine region4 11 (by kernel_rfl) (by kernel_rfl) hb ?_
        intro wq hb1 hg1
        replace hG := Aside0.mk (hG.trans hg1)
        try replace hr := Aside0.mk (blk_grown hr.out hg1 (by simp))
        clear hb hg1
        obtain ⟨c0, c1, c2, c3, f0, f1, f2, f3⟩ := cells4 hb1
        have hb := Aside0.mk hb1
        clear hb1
        simp only [List.take_succ_cons, List.take_zero, List.drop_succ_cons, List.drop_zero]
        repeat still_step
        repeat still_step
        refine wpStill_nil ?_
        go_wp2_with fail
        go_meet
        rw [ha1.out]
        exact ⟨⟨blk_set hb.out 0 _⟩, ⟨hG.out.trans (setCells_grown _ g [_] 0)⟩⟩
      obtain ⟨⟨hb⟩, ⟨hG⟩⟩ := hcut
      go_wp2_with fail
      go_cut [] from 7 to 118 (fun wx => Aside0 (wx.heap[g]? = some (.cells #[.int .u64 a1, .int .u64 b, .int .u64 c1, .int .u64 d] t (0, 0))) ∧ Aside0 (w.grownBy wx (some g)))
      case first =>
        refine region4 11 (by kernel_rfl) (by kernel_rfl) hb ?_
        intro wq hb1 hg1
        replace hG := Aside0.mk (hG.trans hg1)
        try replace hr := Aside0.mk (blk_grown hr.out hg1 (by simp))
        clear hb hg1
        obtain ⟨c0, c1, c2, c3, f0, f1, f2, f3⟩ := cells4 hb1
        have hb := Aside0.mk hb1
        clear hb1
        simp only [List.take_succ_cons, List.take_zero, List.drop_succ_cons, List.drop_zero]
        repeat still_step
        repeat still_step
        refine wpStill_nil ?_
        go_wp2_with fail
        go_meet
        rw [hc1.out]
        exact ⟨⟨blk_set hb.out 2 _⟩, ⟨hG.out.trans (setCells_grown _ g [_] 2)⟩⟩
      obtain ⟨⟨hb⟩, ⟨hG⟩⟩ := hcut
      go_wp2_with fail
      go_cut [] from 7 to 118 (fun wx => Aside0 (wx.heap[g]? = some (.cells #[.int .u64 a1, .int .u64 b1, .int .u64 c1, .int .u64 d] t (0, 0))) ∧ Aside0 (w.grownBy wx (some g)))
      case first =>
        refine region4 13 (by kernel_rfl) (by kernel_rfl) hb ?_
        intro wq hb1 hg1
        replace hG := Aside0.mk (hG.trans hg1)
        try replace hr := Aside0.mk (blk_grown hr.out hg1 (by simp))
        clear hb hg1
        obtain ⟨c0, c1, c2, c3, f0, f1, f2, f3⟩ := cells4 hb1
        have hb := Aside0.mk hb1
        clear hb1
        simp only [List.take_succ_cons, List.take_zero, List.drop_succ_cons, List.drop_zero]
        repeat still_step
        still_call rotl_any _ 13 _ (by rfl) (by decide) (by decide)
        repeat still_step
        refine wpStill_nil ?_
        go_wp2_with fail
        go_meet
        rw [hb1.out]
        exact ⟨⟨blk_set hb.out 1 _⟩, ⟨hG.out.trans (setCells_grown _ g [_] 1)⟩⟩
      obtain ⟨⟨hb⟩, ⟨hG⟩⟩ := hcut
      go_wp2_with fail
      go_cut [] from 7 to 118 (fun wx => Aside0 (wx.heap[g]? = some (.cells #[.int .u64 a1, .int .u64 b1, .int .u64 c1, .int .u64 d1] t (0, 0))) ∧ Aside0 (w.grownBy wx (some g)))
      case first =>
        refine region4 13 (by kernel_rfl) (by kernel_rfl) hb ?_
        intro wq hb1 hg1
        replace hG := Aside0.mk (hG.trans hg1)
        try replace hr := Aside0.mk (blk_grown hr.out hg1 (by simp))
        clear hb hg1
        obtain ⟨c0, c1, c2, c3, f0, f1, f2, f3⟩ := cells4 hb1
        have hb := Aside0.mk hb1
        clear hb1
        simp only [List.take_succ_cons, List.take_zero, List.drop_succ_cons, List.drop_zero]
        repeat still_step
        still_call rotl_any _ 16 _ (by rfl) (by decide) (by decide)
        repeat still_step
        refine wpStill_nil ?_
        go_wp2_with fail
        go_meet
        rw [hd1.out]
        exact ⟨⟨blk_set hb.out 3 _⟩, ⟨hG.out.trans (setCells_grown _ g [_] 3)⟩⟩
      obtain ⟨⟨hb⟩, ⟨hG⟩⟩ := hcut
      go_wp2_with fail
      go_cut [] from 7 to 118 (fun wx => Aside0 (wx.heap[g]? = some (.cells #[.int .u64 a2, .int .u64 b1, .int .u64 c1, .int .u64 d1] t (0, 0))) ∧ Aside0 (w.grownBy wx (some g)))
      case first =>
        refine region4 8 (by kernel_rfl) (by kernel_rfl) hb ?_
        intro wq hb1 hg1
        replace hG := Aside0.mk (hG.trans hg1)
        try replace hr := Aside0.mk (blk_grown hr.out hg1 (by simp))
        clear hb hg1
        obtain ⟨c0, c1, c2, c3, f0, f1, f2, f3⟩ := cells4 hb1
        have hb := Aside0.mk hb1
        clear hb1
        simp only [List.take_succ_cons, List.take_zero, List.drop_succ_cons, List.drop_zero]
        repeat still_step
        still_call rotl_any _ 32 _ (by rfl) (by decide) (by decide)
        repeat still_step
        refine wpStill_nil ?_
        go_wp2_with fail
        go_meet
        rw [ha2.out]
        exact ⟨⟨blk_set hb.out 0 _⟩, ⟨hG.out.trans (setCells_grown _ g [_] 0)⟩⟩
      obtain ⟨⟨hb⟩, ⟨hG⟩⟩ := hcut
      go_wp2_with fail
      go_cut [] from 7 to 118 (fun wx => Aside0 (wx.heap[g]? = some (.cells #[.int .u64 a2, .int .u64 b1, .int .u64 c2, .int .u64 d1] t (0, 0))) ∧ Aside0 (w.grownBy wx (some g)))
      case first =>
        refine region4 11 (by kernel_rfl) (by kernel_rfl) hb ?_
        intro wq hb1 hg1
        replace hG := Aside0.mk (hG.trans hg1)
        try replace hr := Aside0.mk (blk_grown hr.out hg1 (by simp))
        clear hb hg1
        obtain ⟨c0, c1, c2, c3, f0, f1, f2, f3⟩ := cells4 hb1
        have hb := Aside0.mk hb1
        clear hb1
        simp only [List.take_succ_cons, List.take_zero, List.drop_succ_cons, List.drop_zero]
        repeat still_step
        repeat still_step
        refine wpStill_nil ?_
        go_wp2_with fail
        go_meet
        rw [hc2.out]
        exact ⟨⟨blk_set hb.out 2 _⟩, ⟨hG.out.trans (setCells_grown _ g [_] 2)⟩⟩
      obtain ⟨⟨hb⟩, ⟨hG⟩⟩ := hcut
      go_wp2_with fail
      go_cut [] from 7 to 118 (fun wx => Aside0 (wx.heap[g]? = some (.cells #[.int .u64 a3, .int .u64 b1, .int .u64 c2, .int .u64 d1] t (0, 0))) ∧ Aside0 (w.grownBy wx (some g)))
      case first =>
        refine region4 11 (by kernel_rfl) (by kernel_rfl) hb ?_
        intro wq hb1 hg1
        replace hG := Aside0.mk (hG.trans hg1)
        try replace hr := Aside0.mk (blk_grown hr.out hg1 (by simp))
        clear hb hg1
        obtain ⟨c0, c1, c2, c3, f0, f1, f2, f3⟩ := cells4 hb1
        have hb := Aside0.mk hb1
        clear hb1
        simp only [List.take_succ_cons, List.take_zero, List.drop_succ_cons, List.drop_zero]
        repeat still_step
        repeat still_step
        refine wpStill_nil ?_
        go_wp2_with fail
        go_meet
        rw [ha3.out]
        exact ⟨⟨blk_set hb.out 0 _⟩, ⟨hG.out.trans (setCells_grown _ g [_] 0)⟩⟩
      obtain ⟨⟨hb⟩, ⟨hG⟩⟩ := hcut
      go_wp2_with fail
      go_cut [] from 7 to 118 (fun wx => Aside0 (wx.heap[g]? = some (.cells #[.int .u64 a3, .int .u64 b2, .int .u64 c2, .int .u64 d1] t (0, 0))) ∧ Aside0 (w.grownBy wx (some g)))
      case first =>
        refine region4 13 (by kernel_rfl) (by kernel_rfl) hb ?_
        intro wq hb1 hg1
        replace hG := Aside0.mk (hG.trans hg1)
        try replace hr := Aside0.mk (blk_grown hr.out hg1 (by simp))
        clear hb hg1
        obtain ⟨c0, c1, c2, c3, f0, f1, f2, f3⟩ := cells4 hb1
        have hb := Aside0.mk hb1
        clear hb1
        simp only [List.take_succ_cons, List.take_zero, List.drop_succ_cons, List.drop_zero]
        repeat still_step
        still_call rotl_any _ 17 _ (by rfl) (by decide) (by decide)
        repeat still_step
        refine wpStill_nil ?_
        go_wp2_with fail
        go_meet
        rw [hb2.out]
        exact ⟨⟨blk_set hb.out 1 _⟩, ⟨hG.out.trans (setCells_grown _ g [_] 1)⟩⟩
      obtain ⟨⟨hb⟩, ⟨hG⟩⟩ := hcut
      go_wp2_with fail
      go_cut [] from 7 to 118 (fun wx => Aside0 (wx.heap[g]? = some (.cells #[.int .u64 a3, .int .u64 b2, .int .u64 c2, .int .u64 d2] t (0, 0))) ∧ Aside0 (w.grownBy wx (some g)))
      case first =>
        refine region4 13 (by kernel_rfl) (by kernel_rfl) hb ?_
        intro wq hb1 hg1
        replace hG := Aside0.mk (hG.trans hg1)
        try replace hr := Aside0.mk (blk_grown hr.out hg1 (by simp))
        clear hb hg1
        obtain ⟨c0, c1, c2, c3, f0, f1, f2, f3⟩ := cells4 hb1
        have hb := Aside0.mk hb1
        clear hb1
        simp only [List.take_succ_cons, List.take_zero, List.drop_succ_cons, List.drop_zero]
        repeat still_step
        still_call rotl_any _ 21 _ (by rfl) (by decide) (by decide)
        repeat still_step
        refine wpStill_nil ?_
        go_wp2_with fail
        go_meet
        rw [hd2.out]
        exact ⟨⟨blk_set hb.out 3 _⟩, ⟨hG.out.trans (setCells_grown _ g [_] 3)⟩⟩
      obtain ⟨⟨hb⟩, ⟨hG⟩⟩ := hcut
      go_wp2_with fail
      refine region4 8 (by kernel_rfl) (by kernel_rfl) hb ?_
      intro wq hb1 hg1
      replace hG := Aside0.mk (hG.trans hg1)
      try replace hr := Aside0.mk (blk_grown hr.out hg1 (by simp))
      clear hb hg1
      obtain ⟨c0, c1, c2, c3, f0, f1, f2, f3⟩ := cells4 hb1
      have hb := Aside0.mk hb1
      clear hb1
      simp only [List.take_succ_cons, List.take_zero, List.drop_succ_cons, List.drop_zero]
      repeat still_step
      still_call rotl_any _ 32 _ (by rfl) (by decide) (by decide)
      repeat still_step
      refine wpStill_nil ?_
      go_wp2_with fail
      go_roundg kq
      case measure => omega
      case rel =>
        refine ⟨i + 1, ⟨by have := HI.out; omega⟩, rfl, ⟨?_⟩, ⟨hG.out.trans (setCells_grown _ g [_] 2)⟩⟩
        rw [rnds_succ, hv]
        obtain ⟨rfl⟩ := ha1; obtain ⟨rfl⟩ := hc1; obtain ⟨rfl⟩ := hb1; obtain ⟨rfl⟩ := hd1; obtain ⟨rfl⟩ := ha2; obtain ⟨rfl⟩ := hc2; obtain ⟨rfl⟩ := ha3; obtain ⟨rfl⟩ := hb2; obtain ⟨rfl⟩ := hd2; obtain ⟨rfl⟩ := hc3
        exact blk_set hb.out 2 _
end Go.Proofs.Ytjcmcjhfmcabnaa.Hash
