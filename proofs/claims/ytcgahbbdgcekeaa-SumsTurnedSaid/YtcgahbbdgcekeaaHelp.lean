/- Help: small facts about rows and blocks, over the print's words. -/
import Derived.Test.YtcgahbbdgcekeaaWMore
import Derived.Test.YtcgahbbdgcekeaaWNEv
namespace Go.Proofs.Ytcgahbbdgcekeaa.Help
open Go.RowKit Go.Proofs.YtcgahbbdgcekeaaW.PrintWords Go.Proofs.YtcgahbbdgcekeaaW.PrintLast Go.Proofs.YtcgahbbdgcekeaaW.PrintMore

theorem blk_new_at {w : World} {o : Obj} {g : Nat} (hg : g = w.heap.size) : (w.alloc o).heap[g]? = some o := by subst hg; exact blk_new w o
/-- A stretch of a block whose cells are whole numbers is a slice that is read. -/
theorem C_of_block {w : World} {g off : Nat} {cs : Array Value} {t : TypeId} {fr : Nat × Nat} {k : IntKind} {xs : List Int} (hb : w.heap[g]? = some (.cells cs t fr))
    (hl : xs.length ≤ 9223372036854775807) (hx : ∀ j, j < xs.length → cs[off + j]? = some (.int k (xs.getD j 0))) : Kd.C (Kd.int k) w (some ⟨g, off, none⟩) xs.length xs := by
  refine Kd.C_of_reads (d := (0 : Int)) (h1 := fun _ => rfl) ⟨rfl, hl, fun _ => ⟨_, rfl, fun j hj => ?_⟩⟩
  have ha : (⟨g, off, none⟩ : Addr).add j = ⟨g, off + j, none⟩ := by unfold Addr.add; split <;> simp_all
  rw [ha, cell_of_row w g _ cs t fr hb, hx j hj]
/-- The same, the block's first cells. -/
theorem C_of_block0 {w : World} {g : Nat} {t : TypeId} {fr : Nat × Nat} {k : IntKind} {xs : List Int} {more : List Value} (hb : w.heap[g]? = some (.cells (nums k xs ++ more).toArray t fr))
    (hl : xs.length ≤ 9223372036854775807) : Kd.C (Kd.int k) w (some ⟨g, 0, none⟩) xs.length xs := by
  refine C_of_block hb hl fun j hj => ?_
  rw [Nat.zero_add, List.getElem?_toArray, List.getElem?_append_left (by simpa [nums] using hj)]
  simp [nums, List.getElem?_eq_getElem hj, List.getD_eq_getElem?_getD]
end Go.Proofs.Ytcgahbbdgcekeaa.Help
