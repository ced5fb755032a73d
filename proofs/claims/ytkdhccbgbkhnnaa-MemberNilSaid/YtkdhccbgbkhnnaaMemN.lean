/- A view that is not there. -/
import Derived.Test.YtkdhccbgbkhnnaaMemL2
import Derived.Test.YtkdhccbgbkhnnaaMemC
import Derived.Test.YtkdhccbgbkhnnaaMemW4
namespace Go.Proofs.Ytkdhccbgbkhnnaa.Memb
open Go.RowKit Go.Shelf Go.Proofs.Ytkdhccbgbkhnnaa.MapI Go.Proofs.Ytkdhccbgbkhnnaa.Mem Go.Proofs.Ytkdhccbgbkhnnaa.Help Go.Proofs.YtkdhccbgbkhnnaaW.PrintWords Go.Proofs.YtkdhccbgbkhnnaaW.PrintLast Go.Proofs.YtkdhccbgbkhnnaaW.PrintMore
set_option linter.unusedVariables false
set_option linter.unusedSimpArgs false
theorem Turn_nil (k s : Int) (f : Value) (w : World) : Calls Try.prog 49 #[.pointer none, .int .i64 k, .int .i64 s, f] w fun e w' => e = .returned (.tuple #[.agg #[.int .i64 0, .int .i64 0], .int .i64 2]) ∧ Below w.heap.size w w' := by
  go_enter Try.func49, Try.ntmps49
  go_wp2_with fail
  refine bodyPost_ret (v := .tuple #[.agg #[.int .i64 0, .int .i64 0], .int .i64 2]) (by simp [results, Try.results49, go_sem]) rfl ?_
  exact ⟨rfl, below_alloc (Below.refl _ _) _⟩
theorem overM {W : World} {q : Nat} {x y : Int × Int} (hb : BI 24 q x W) :
    ∃ W1, (storeVar 24 ⟨q, 0, none⟩ (.agg #[.int .i64 y.1, .int .i64 y.2])).run Try.prog W = .ok () W1 ∧ BI 24 q y W1 ∧ W.grownBy W1 (some q) := by
  have h := Segs.seg_over (P := Try.prog) (ty := 24) (segs := [[.int .i64 x.1], [.int .i64 x.2]]) (segs' := [[.int .i64 y.1], [.int .i64 y.2]]) hb rfl infoM rfl (by simp [Value.oneCell'])
  exact ⟨_, h, setRow_heap _ _ _ _ _ _ hb, ⟨rfl, rfl, rfl, by simp, fun k _ hk => setRow_other W q k _ (fun e => hk (by simp [e]))⟩⟩
theorem Doubt_nil (k : Int) (w : World) : Calls Try.prog 28 #[.pointer none, .int .i64 k] w fun e w' => e = .returned (.tuple #[.agg #[.int .i64 0, .int .i64 0], .int .i64 2]) ∧ Below w.heap.size w w' := by
  go_enter Try.func28, Try.ntmps28
  go_wp2_with fail
  refine (Turn_nil _ _ _ _).mono ?_
  rintro e w1 ⟨rfl, hB⟩
  have hb : BI 24 w.heap.size (0, 0) w1 := blk_below (blk_new w (.cells #[.int .i64 0, .int .i64 0] 24 (0, 0))) hB
  obtain ⟨w2, hst, hb2, hg⟩ := overM (y := (0, 0)) hb
  have c0 := blk_cell hb2 0
  have c1 := blk_cell hb2 1
  have HST := Aside0.mk hst
  have HB := Aside0.mk (pw_below_grown (below_step (below_alloc (Below.refl w.heap.size w) (.cells #[.int .i64 0, .int .i64 0] 24 (0, 0))) hB) (some w.heap.size) (by have := hB.size; simp at this; omega) hg (fun k e => by cases e; exact Nat.le_refl _))
  clear hB hb hst hb2 hg
  go_wp2_with ((with_reducible refine gate_store (t := 24) rfl ?_); refine event_skip rfl (exec_store rfl rfl rfl HST.out) ?_)
  refine bodyPost_ret (v := .tuple #[.agg #[.int .i64 0, .int .i64 0], .int .i64 2]) (by simp [results, Try.results28, c0, c1, go_sem]) rfl ?_
  exact ⟨rfl, HB.out⟩
theorem Bury_nil (k : Int) (w : World) : Calls Try.prog 30 #[.pointer none, .int .i64 k] w fun e w' => e = .returned (.tuple #[.agg #[.int .i64 0, .int .i64 0], .int .i64 2]) ∧ Below w.heap.size w w' := by
  go_enter Try.func30, Try.ntmps30
  go_wp2_with fail
  refine (Turn_nil _ _ _ _).mono ?_
  rintro e w1 ⟨rfl, hB⟩
  have hb : BI 24 w.heap.size (0, 0) w1 := blk_below (blk_new w (.cells #[.int .i64 0, .int .i64 0] 24 (0, 0))) hB
  obtain ⟨w2, hst, hb2, hg⟩ := overM (y := (0, 0)) hb
  have c0 := blk_cell hb2 0
  have c1 := blk_cell hb2 1
  have HST := Aside0.mk hst
  have HB := Aside0.mk (pw_below_grown (below_step (below_alloc (Below.refl w.heap.size w) (.cells #[.int .i64 0, .int .i64 0] 24 (0, 0))) hB) (some w.heap.size) (by have := hB.size; simp at this; omega) hg (fun k e => by cases e; exact Nat.le_refl _))
  clear hB hb hst hb2 hg
  go_wp2_with ((with_reducible refine gate_store (t := 24) rfl ?_); refine event_skip rfl (exec_store rfl rfl rfl HST.out) ?_)
  refine bodyPost_ret (v := .tuple #[.agg #[.int .i64 0, .int .i64 0], .int .i64 2]) (by simp [results, Try.results30, c0, c1, go_sem]) rfl ?_
  exact ⟨rfl, HB.out⟩
theorem Same_nn (w : World) : Calls Try.prog 20 #[.pointer none, .pointer none] w fun e w' => e = .returned (.bool true) ∧ Below w.heap.size w w' := by
  go_enter Try.func20, Try.ntmps20
  go_wp2_with fail
  go_ret
  exact ⟨rfl, Below.refl _ _⟩
theorem Same_nv (p : Addr) (w : World) : Calls Try.prog 20 #[.pointer none, .pointer (some p)] w fun e w' => e = .returned (.bool false) ∧ Below w.heap.size w w' := by
  go_enter Try.func20, Try.ntmps20
  go_wp2_with fail
  go_ret
  exact ⟨rfl, Below.refl _ _⟩
theorem Same_vn (p : Addr) (w : World) : Calls Try.prog 20 #[.pointer (some p), .pointer none] w fun e w' => e = .returned (.bool false) ∧ Below w.heap.size w w' := by
  go_enter Try.func20, Try.ntmps20
  go_wp2_with fail
  go_ret
  exact ⟨rfl, Below.refl _ _⟩
theorem Copy_nil (w : World) : Calls Try.prog 32 #[.pointer none] w fun e w' => e = .returned (.pointer none) ∧ Below w.heap.size w w' := by
  go_enter Try.func32, Try.ntmps32
  go_wp2_with fail
  go_ret
  exact ⟨rfl, Below.refl _ _⟩
theorem Bytes_nil (w : World) : Calls Try.prog 33 #[.pointer none] w fun e w' => e = .returned (.slice none 0 0) ∧ Below w.heap.size w w' := by
  go_enter Try.func33, Try.ntmps33
  go_wp2_with fail
  go_ret
  exact ⟨rfl, Below.refl _ _⟩
end Go.Proofs.Ytkdhccbgbkhnnaa.Memb
