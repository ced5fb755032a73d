/- The walks of turn, RotateLeft64, round, in. -/
import Derived.Test.YtjcmcjhfmcabnaaProg
import Derived.Test.YtjcmcjhfmcabnaaHashS
import Derived.Test.YtjcmcjhfmcabnaaWMore
import Derived.Test.YtjcmcjhfmcabnaaBase
import Derived.StillTailTactics
namespace Go.Proofs.Ytjcmcjhfmcabnaa.Hash
open Go.RowKit Go.Proofs.Ytjcmcjhfmcabnaa.Bits Go.Proofs.Ytjcmcjhfmcabnaa.Help Go.Proofs.YtjcmcjhfmcabnaaW.PrintWords Go.Proofs.YtjcmcjhfmcabnaaW.PrintLast Go.Proofs.YtjcmcjhfmcabnaaW.PrintMore
set_option linter.unusedVariables false
set_option linter.unusedSimpArgs false
theorem turn_any (x k : Int) (w : World) (h0 : 0 ≤ k) (h1 : k ≤ 64) : Calls Try.prog 29 #[.int .u64 x, .int .u64 k] w fun e w' => e = .returned (.int .u64 (rot x k)) ∧ w' = w := by
  have e1 : IntKind.u64.wrap (64 - k) = 64 - k := wrap_u64_id (by omega) (by omega)
  go_enter Try.func29, Try.ntmps29
  go_wp2_with fail
  go_ret
  exact ⟨rfl, rfl⟩
theorem rotl_any (x k : Int) (w : World) (hk : bits .and .u64 k 63 = k) (h0 : 0 ≤ k) (h1 : k ≤ 64) : Calls Try.prog 28 #[.int .u64 x, .int .i64 k] w fun e w' => e = .returned (.int .u64 (rot x k)) ∧ w' = w := by
  have e1 : IntKind.u64.wrap (64 - k) = 64 - k := wrap_u64_id (by omega) (by omega)
  have e2 : IntKind.u64.wrap k = k := wrap_u64_id (by omega) (by omega)
  go_enter Try.func28, Try.ntmps28
  go_wp2_with fail
  go_ret
  exact ⟨rfl, rfl⟩
section
variable {P : Program} {w : World} {a : Act} {Q : Exit → Act → World → Prop} {g : Nat} {cs : Array Value} {t : TypeId}
/-- A drawn region whose last operation waits for all the others, in a world in which one block is known. -/
theorem region4 {id : Nat} {l : List Oper} (n : Nat) (hm : P.follows .mixedOrders = true) (hB : Region.lexTailB .any l.toArray n = true) (hb : w.heap[g]? = some (.cells cs t (0, 0)))
    (h : ∀ wq, wq.heap[g]? = some (.cells cs t (0, 0)) → w.grownBy wq (some g) → wpStill P l.toArray wq (fun a' => wpList P l.toArray Q (l.drop n) a' wq) (l.take n) a) : (Code.region id l.toArray true).wp P Q a w :=
  wp_region_still_tail n hm hB (h _ hb ⟨rfl, rfl, rfl, Nat.le_refl _, fun _ _ _ => rfl⟩)
theorem wp_set {c : Code} {i : Nat} {v : Value} (hb : w.heap[g]? = some (.cells cs t (0, 0)))
    (h : ∀ W2 : World, W2.heap[g]? = some (.cells (cs.setIfInBounds i v) t (0, 0)) → w.grownBy W2 (some g) → c.wp P Q a W2) : c.wp P Q a (w.setCell ⟨g, i, none⟩ v) :=
  h _ (blk_set hb i v) (setCells_grown w g [v] i)
theorem wp_set2 {c : Code} {i j : Nat} {v u : Value} (hb : w.heap[g]? = some (.cells cs t (0, 0)))
    (h : ∀ W2 : World, W2.heap[g]? = some (.cells ((cs.setIfInBounds i v).setIfInBounds j u) t (0, 0)) → w.grownBy W2 (some g) → c.wp P Q a W2) : c.wp P Q a ((w.setCell ⟨g, i, none⟩ v).setCell ⟨g, j, none⟩ u) :=
  h _ (blk_set (blk_set hb i v) j u) ((setCells_grown w g [v] i).trans (setCells_grown _ g [u] j))
theorem wp_set3 {c : Code} {i j k : Nat} {v u x : Value} (hb : w.heap[g]? = some (.cells cs t (0, 0)))
    (h : ∀ W2 : World, W2.heap[g]? = some (.cells (((cs.setIfInBounds i v).setIfInBounds j u).setIfInBounds k x) t (0, 0)) → w.grownBy W2 (some g) → c.wp P Q a W2) : c.wp P Q a (((w.setCell ⟨g, i, none⟩ v).setCell ⟨g, j, none⟩ u).setCell ⟨g, k, none⟩ x) :=
  h _ (blk_set (blk_set (blk_set hb i v) j u) k x) (((setCells_grown w g [v] i).trans (setCells_grown _ g [u] j)).trans (setCells_grown _ g [x] k))
theorem cells4 {A B C D : Value} (hb : w.heap[g]? = some (.cells #[A, B, C, D] t (0, 0))) : w.cell? ⟨g, 0, none⟩ = some A ∧ w.cell? ⟨g, 1, none⟩ = some B ∧ w.cell? ⟨g, 2, none⟩ = some C ∧ w.cell? ⟨g, 3, none⟩ = some D ∧
    w.frozen? ⟨g, 0, none⟩ = false ∧ w.frozen? ⟨g, 1, none⟩ = false ∧ w.frozen? ⟨g, 2, none⟩ = false ∧ w.frozen? ⟨g, 3, none⟩ = false :=
  ⟨blk_cell hb 0, blk_cell hb 1, blk_cell hb 2, blk_cell hb 3, blk_frozen hb 0, blk_frozen hb 1, blk_frozen hb 2, blk_frozen hb 3⟩
end
set_option maxHeartbeats 4000000 in
theorem round_any (a b c d : Int) (w : World) : Calls Try.prog 25 #[.agg #[.int .u64 a, .int .u64 b, .int .u64 c, .int .u64 d]] w fun e w' => e = .returned (.agg (rnd ⟨a, b, c, d⟩).vals.toArray) ∧ Below w.heap.size w w' := by
  go_enter Try.func25, Try.ntmps25
  go_wp2_with fail
  have hb := blk_alloc (blk_new w (.cells #[.int .u64 (IntKind.u64.wrap (a + b)), .int .u64 b, .int .u64 c, .int .u64 d] 49)) (.cells #[.int .u64 0, .int .u64 0, .int .u64 0, .int .u64 0] 49)
  have hG : w.grownBy _ (some w.heap.size) := (World.grownBy_alloc w (.cells #[.int .u64 (IntKind.u64.wrap (a + b)), .int .u64 b, .int .u64 c, .int .u64 d] 49) _).trans (World.grownBy_alloc _ (.cells #[.int .u64 0, .int .u64 0, .int .u64 0, .int .u64 0] 49) _)
  have hr : ((w.alloc (.cells #[.int .u64 (IntKind.u64.wrap (a + b)), .int .u64 b, .int .u64 c, .int .u64 d] 49)).alloc (.cells #[.int .u64 0, .int .u64 0, .int .u64 0, .int .u64 0] 49)).heap[w.heap.size + 1]? = some _ := blk_new_at (Array.size_push _).symm
  have hg0 : Below w.heap.size w w := Below.refl _ _
  generalize hgs : w.heap.size = g at *
  generalize (w.alloc _).alloc _ = W at *
  replace hr := Aside0.mk hr
  refine region4 7 (by kernel_rfl) (by kernel_rfl) hb ?_
  intro wq hb1 hg1
  replace hG := Aside0.mk (hG.trans hg1)
  try replace hr := Aside0.mk (blk_grown hr.out hg1 (by simp))
  clear hb hg1
  obtain ⟨c0, c1, c2, c3, f0, f1, f2, f3⟩ := cells4 hb1
  have hb := Aside0.mk hb1
  clear hb1
  simp only [List.take_succ_cons, List.take_zero, List.drop_succ_cons, List.drop_zero]
  repeat still_step
  still_call turn_any _ 13 _ (by decide) (by decide)
  repeat still_step
  refine wpStill_nil ?_
  go_wp2_with fail
  refine (turn_any _ 32 _ (by decide) (by decide)).mono ?_
  rintro e w' ⟨rfl, rfl⟩
  go_wp2_with fail
  refine wp_set3 hb.out ?_
  intro W2 hb1 hg1
  replace hG := hG.out.trans hg1
  try replace hr := Aside0.mk (blk_grown hr.out hg1 (by simp))
  clear hb hg1 c0 c1 c2 c3 f0 f1 f2 f3 wq
  have hb := hb1
  clear hb1
  refine region4 7 (by kernel_rfl) (by kernel_rfl) hb ?_
  intro wq hb1 hg1
  replace hG := Aside0.mk (hG.trans hg1)
  try replace hr := Aside0.mk (blk_grown hr.out hg1 (by simp))
  clear hb hg1
  obtain ⟨c0, c1, c2, c3, f0, f1, f2, f3⟩ := cells4 hb1
  have hb := Aside0.mk hb1
  clear hb1
  simp only [List.take_succ_cons, List.take_zero, List.drop_succ_cons, List.drop_zero]
  repeat still_step
  still_call turn_any _ 16 _ (by decide) (by decide)
  repeat still_step
  refine wpStill_nil ?_
  go_wp2_with fail
  refine wp_set2 hb.out ?_
  intro W2 hb1 hg1
  replace hG := hG.out.trans hg1
  try replace hr := Aside0.mk (blk_grown hr.out hg1 (by simp))
  clear hb hg1 c0 c1 c2 c3 f0 f1 f2 f3 wq
  have hb := hb1
  clear hb1
  refine region4 7 (by kernel_rfl) (by kernel_rfl) hb ?_
  intro wq hb1 hg1
  replace hG := Aside0.mk (hG.trans hg1)
  try replace hr := Aside0.mk (blk_grown hr.out hg1 (by simp))
  clear hb hg1
  obtain ⟨c0, c1, c2, c3, f0, f1, f2, f3⟩ := cells4 hb1
  have hb := Aside0.mk hb1
  clear hb1
  simp only [List.take_succ_cons, List.take_zero, List.drop_succ_cons, List.drop_zero]
  repeat still_step
  still_call turn_any _ 21 _ (by decide) (by decide)
  repeat still_step
  refine wpStill_nil ?_
  go_wp2_with fail
  refine wp_set2 hb.out ?_
  intro W2 hb1 hg1
  replace hG := hG.out.trans hg1
  try replace hr := Aside0.mk (blk_grown hr.out hg1 (by simp))
  clear hb hg1 c0 c1 c2 c3 f0 f1 f2 f3 wq
  have hb := hb1
  clear hb1
  refine region4 7 (by kernel_rfl) (by kernel_rfl) hb ?_
  intro wq hb1 hg1
  replace hG := Aside0.mk (hG.trans hg1)
  try replace hr := Aside0.mk (blk_grown hr.out hg1 (by simp))
  clear hb hg1
  obtain ⟨c0, c1, c2, c3, f0, f1, f2, f3⟩ := cells4 hb1
  have hb := Aside0.mk hb1
  clear hb1
  simp only [List.take_succ_cons, List.take_zero, List.drop_succ_cons, List.drop_zero]
  repeat still_step
  still_call turn_any _ 17 _ (by decide) (by decide)
  repeat still_step
  refine wpStill_nil ?_
  go_wp2_with fail
  refine (turn_any _ 32 _ (by decide) (by decide)).mono ?_
  rintro e w' ⟨rfl, rfl⟩
  obtain ⟨r0, r1, r2, r3, s0, s1, s2, s3⟩ := cells4 hr.out
  go_wp2_with fail
  have hne : g + 1 ≠ g := Nat.succ_ne_self g
  have hR := blk_set (blk_set (blk_set (blk_set (blk_far (blk_far hr.out (p := ⟨g, 1, none⟩) hne (.int .u64 (rnd ⟨a, b, c, d⟩).b)) (p := ⟨g, 2, none⟩) hne (.int .u64 (rnd ⟨a, b, c, d⟩).c)) 0 (.int .u64 (rnd ⟨a, b, c, d⟩).a)) 1 (.int .u64 (rnd ⟨a, b, c, d⟩).b)) 2 (.int .u64 (rnd ⟨a, b, c, d⟩).c)) 3 (.int .u64 (rnd ⟨a, b, c, d⟩).d)
  refine bodyPost_ret (results_cell_row rfl _ _ (g + 1) 49 (rnd ⟨a, b, c, d⟩).vals.toArray (0, 0) _ rfl hR Try.underlying49 rfl rfl) rfl ?_
  refine ⟨rfl, ?_⟩
  subst hgs
  iterate 6 refine Below.setCell ?_ (by first | exact Nat.le_refl _ | exact Nat.le_succ _) _
  exact hg0.grown hG.out (Nat.le_refl _) (fun k hk => by cases hk; exact Nat.le_refl _)
end Go.Proofs.Ytjcmcjhfmcabnaa.Hash
