/- The walks of in, rounds, take. -/
import Derived.Test.YtjcmcjhfmcabnaaHashW1
namespace Go.Proofs.Ytjcmcjhfmcabnaa.Hash
open Go.RowKit Go.Proofs.Ytjcmcjhfmcabnaa.Bits Go.Proofs.Ytjcmcjhfmcabnaa.Help Go.Proofs.YtjcmcjhfmcabnaaW.PrintWords Go.Proofs.YtjcmcjhfmcabnaaW.PrintLast Go.Proofs.YtjcmcjhfmcabnaaW.PrintMore
set_option linter.unusedVariables false
set_option linter.unusedSimpArgs false
theorem round_v (v : S4) (w : World) : Calls Try.prog 25 #[.agg v.vals.toArray] w fun e w' => e = .returned (.agg (rnd v).vals.toArray) ∧ Below w.heap.size w w' := round_any v.a v.b v.c v.d w
set_option maxHeartbeats 4000000 in
theorem in_any (a b c d m : Int) (w : World) : Calls Try.prog 24 #[.agg #[.int .u64 a, .int .u64 b, .int .u64 c, .int .u64 d], .int .u64 m] w fun e w' => e = .returned (.agg (inn ⟨a, b, c, d⟩ m).vals.toArray) ∧ Below w.heap.size w w' := by
  go_enter Try.func24, Try.ntmps24
  go_wp2_with fail
  have hb := blk_alloc (blk_new w (.cells #[.int .u64 a, .int .u64 b, .int .u64 c, .int .u64 (bits .xor .u64 d m)] 49)) (.cells #[.int .u64 0, .int .u64 0, .int .u64 0, .int .u64 0] 49)
  have hG : w.grownBy _ (some w.heap.size) := (World.grownBy_alloc w (.cells #[.int .u64 a, .int .u64 b, .int .u64 c, .int .u64 (bits .xor .u64 d m)] 49) _).trans (World.grownBy_alloc _ (.cells #[.int .u64 0, .int .u64 0, .int .u64 0, .int .u64 0] 49) _)
  have hr : ((w.alloc (.cells #[.int .u64 a, .int .u64 b, .int .u64 c, .int .u64 (bits .xor .u64 d m)] 49)).alloc (.cells #[.int .u64 0, .int .u64 0, .int .u64 0, .int .u64 0] 49)).heap[w.heap.size + 1]? = some _ := blk_new_at (Array.size_push _).symm
  have hg0 : Below w.heap.size w w := Below.refl _ _
  generalize hgs : w.heap.size = g at *
  generalize (w.alloc _).alloc _ = W at *
  refine (round_v ⟨a, b, c, xor64 d m⟩ _).mono ?_
  rintro e w1 ⟨rfl, hB1⟩
  go_wp2_with fail
  refine (round_v _ _).mono ?_
  rintro e w2 ⟨rfl, hB2⟩
  replace hb := blk_below (blk_below hb hB1) hB2
  replace hr := blk_below (blk_below hr hB1) hB2
  replace hG := (hG.trans (grown_of_below hB1 _)).trans (grown_of_below hB2 _)
  clear hB1 hB2
  generalize hv : rnd (rnd ⟨a, b, c, xor64 d m⟩) = v
  obtain ⟨A, B, C, D⟩ := v
  obtain ⟨c0, c1, c2, c3, f0, f1, f2, f3⟩ := cells4 hb
  obtain ⟨r0, r1, r2, r3, s0, s1, s2, s3⟩ := cells4 hr
  replace hb := Aside0.mk hb
  replace hr := Aside0.mk hr
  replace hG := Aside0.mk hG
  have hv4 : (S4.vals ⟨A, B, C, D⟩).toArray = #[.int .u64 A, .int .u64 B, .int .u64 C, .int .u64 D] := rfl
  rw [hv4]
  go_wp2_with fail
  have hne : g + 1 ≠ g := Nat.succ_ne_self g
  have hR := blk_set (blk_set (blk_set (blk_set (blk_far (blk_far (blk_far (blk_far (blk_far hr.out (p := ⟨g, 0, none⟩) hne (.int .u64 A)) (p := ⟨g, 1, none⟩) hne (.int .u64 B)) (p := ⟨g, 2, none⟩) hne (.int .u64 C)) (p := ⟨g, 3, none⟩) hne (.int .u64 D)) (p := ⟨g, 0, none⟩) hne (.int .u64 (xor64 A m))) 0 (.int .u64 (xor64 A m))) 1 (.int .u64 B)) 2 (.int .u64 C)) 3 (.int .u64 D)
  refine bodyPost_ret (results_cell_row rfl _ _ (g + 1) 49 #[.int .u64 (xor64 A m), .int .u64 B, .int .u64 C, .int .u64 D] (0, 0) _ rfl hR Try.underlying49 rfl rfl) rfl ?_
  refine ⟨?_, ?_⟩
  · show _ = Ending.returned (.agg (inn ⟨a, b, c, d⟩ m).vals.toArray)
    have e : inn ⟨a, b, c, d⟩ m = { rnd (rnd ⟨a, b, c, xor64 d m⟩) with a := xor64 (rnd (rnd ⟨a, b, c, xor64 d m⟩)).a m } := rfl
    rw [e, hv]
    rfl
  subst hgs
  iterate 9 refine Below.setCell ?_ (by first | exact Nat.le_refl _ | exact Nat.le_succ _) _
  exact hg0.grown hG.out (Nat.le_refl _) (fun k hk => by cases hk; exact Nat.le_refl _)
theorem rnds_succ (n : Nat) (v : S4) : rnds (n + 1) v = rnd (rnds n v) := by
  induction n generalizing v with
  | zero => rfl
  | succ n ih => exact ih (rnd v)
end Go.Proofs.Ytjcmcjhfmcabnaa.Hash
