/- Bytes of one's own: a byte set, a literal appended, rows that grow. -/
import Derived.Test.YtjidoedlmpjmnaaBase
import Derived.Test.YtjidoedlmpjmnaaCurT
namespace Go.Proofs.Ytjidoedlmpjmnaa.Own
open Go.RowKit Go.Proofs.Ytjidoedlmpjmnaa.Help Go.Proofs.Ytjidoedlmpjmnaa.Cur Go.Proofs.YtjidoedlmpjmnaaW.PrintWords Go.Proofs.YtjidoedlmpjmnaaW.PrintLast Go.Proofs.YtjidoedlmpjmnaaW.PrintMore
set_option linter.unusedVariables false
set_option linter.unusedSimpArgs false
/-- One byte of a row set. -/
theorem Owns.set {W : World} {base : Nat} {v : Value} {xs : List Int} (h : Owns W base v xs) {i : Nat} (hi : i < xs.length) (x : Int) :
    ∃ g c, v = .slice (some ⟨g, 0, none⟩) xs.length c ∧ base ≤ g ∧ xs.length ≤ c ∧ W.cell? ⟨g, i, none⟩ = some (.int .u8 (xs.getD i 0)) ∧ (∃ cs, W.heap[g]? = some (.cells cs 5 (0, 0))) ∧ Owns (W.setCell ⟨g, i, none⟩ (.int .u8 x)) base v (xs.set i x) ∧ W.grownBy (W.setCell ⟨g, i, none⟩ (.int .u8 x)) (some g) := by
  rcases h.2 with ⟨-, h0⟩ | ⟨g, cap, cur, rfl, hb, hg, hnc, hcap, hsz, hcur⟩
  · omega
  · have hlen := h.1
    refine ⟨g, cap, rfl, hb, hnc, ?_, ⟨cur, hg⟩, ⟨by simp [nums], .inr ⟨g, cap, _, by rw [List.length_set], hb, blk_set hg i (.int .u8 x), by rw [List.length_set]; exact hnc, hcap, by rw [Array.size_setIfInBounds]; exact hsz, ?_⟩⟩, setCells_grown W g [.int .u8 x] i⟩
    · rw [blk_cell hg]
      have h1 : (cur.toList.take (xs.length * 1))[i]? = (nums .u8 xs)[i]? := by rw [hcur]
      rw [List.getElem?_take_of_lt (by omega)] at h1
      rw [← Array.getElem?_toList, h1]
      simp [nums, List.getElem?_eq_getElem hi, List.getD_eq_getElem?_getD]
    · rw [Array.toList_setIfInBounds, List.length_set, List.take_set, hcur]
      simp [nums]
theorem own_block {W : World} {g base : Nat} {xs : List Int} (hb : W.heap[g]? = some (.cells (nums .u8 xs).toArray 5 (0, 0))) (hg : base ≤ g) (hl : xs.length ≤ 9223372036854775807) : Owns W base (.slice (some ⟨g, 0, none⟩) xs.length xs.length) xs :=
  ⟨by simp [nums], .inr ⟨g, xs.length, _, rfl, hg, hb, Nat.le_refl _, by simpa [maxLen] using hl, by simp [nums], by rw [Nat.mul_one]; exact List.take_of_length_le (by simp [nums])⟩⟩
theorem C_lit {W : World} {g : Nat} {xs : List Int} (hb : W.heap[g]? = some (.cells (nums .u8 xs).toArray 5 (0, 0))) (hl : xs.length ≤ 9223372036854775807) : Kd.C (Kd.int .u8) W (some ⟨g, 0, none⟩) xs.length xs :=
  C_of_block0 (more := []) (by rw [List.append_nil]; exact hb) hl
/-- A literal of bytes appended. -/
theorem app_lit {W : World} {base : Nat} {v : Value} {xs : List Int} (ys : List Int) (HO : Owns W base v xs) (hl : xs.length + ys.length ≤ 140737488355328) (hb : base ≤ W.heap.size) :
    ∃ v1 w1, (Builtin.append_ #[25, 25] 25 #[v, .slice (some ⟨W.heap.size, 0, none⟩) ys.length ys.length]).run Try.prog (W.alloc (.cells (nums .u8 ys).toArray 5)) = .ok v1 w1 ∧ Owns w1 base v1 (xs ++ ys) ∧ W.grownBy w1 v.ownBlock := by
  obtain ⟨v1, w1, h1, h2, h3, -⟩ := append_bytes (ty := 25) (c := ys.length) (HO.below (below_alloc (Below.refl _ _) (.cells (nums .u8 ys).toArray 5))) (C_lit (blk_new W _) (by omega)) hl (by rw [alloc_size]; omega)
  exact ⟨v1, w1, h1, h2, (World.grownBy_alloc W _ _).trans h3⟩
/-- Another block grows. -/
theorem Owns.other {W W1 : World} {base g : Nat} {v : Value} {xs : List Int} (h : Owns W base v xs) (hg : W.grownBy W1 (some g)) (hne : some g ≠ v.ownBlock) : Owns W1 base v xs := by
  refine ⟨h.1, ?_⟩
  rcases h.2 with h1 | ⟨g', cap, cur, rfl, h2, h3, h4⟩
  · exact .inl h1
  · exact .inr ⟨g', cap, cur, rfl, h2, blk_grown h3 hg (fun e => hne (by simp only [Value.ownBlock]; exact e.symm)), h4⟩
/-- A row that grows, over all that was there in w. -/
structure RB (w W : World) (v : Value) (xs : List Int) : Prop where
  o : Owns W w.heap.size v xs
  l : Below w.heap.size w W
theorem RB.nil (w : World) : RB w w (.slice none 0 0) [] := ⟨Owns.nil _ _, Below.refl _ _⟩
theorem RB.step {w W W1 : World} {v v1 : Value} {xs ys : List Int} (h : RB w W v xs) (hO : Owns W1 w.heap.size v1 ys) (hg : W.grownBy W1 v.ownBlock) : RB w W1 v1 ys := ⟨hO, h.o.keeps h.l hg⟩
theorem RB.below {w W W1 : World} {v : Value} {xs : List Int} (h : RB w W v xs) (hB : Below W.heap.size W W1) : RB w W1 v xs := ⟨h.o.below hB, below_step h.l hB⟩
/-- Bytes that are read, appended. -/
theorem RB.app {w W : World} {v : Value} {xs ys : List Int} {A : Option Addr} {c : Nat} (h : RB w W v xs) (hr : Kd.C (Kd.int .u8) W A ys.length ys) (hl : xs.length + ys.length ≤ 140737488355328) :
    ∃ v1 w1, (Builtin.append_ #[25, 25] 25 #[v, .slice A ys.length c]).run Try.prog W = .ok v1 w1 ∧ RB w w1 v1 (xs ++ ys) := by
  obtain ⟨v1, w1, h1, h2, h3, -⟩ := append_bytes (ty := 25) (c := c) h.o hr hl h.l.size
  exact ⟨v1, w1, h1, h.step h2 h3⟩
theorem RB.lit {w W : World} {v : Value} {xs : List Int} (h : RB w W v xs) (ys : List Int) (hl : xs.length + ys.length ≤ 140737488355328) :
    ∃ v1 w1, (Builtin.append_ #[25, 25] 25 #[v, .slice (some ⟨W.heap.size, 0, none⟩) ys.length ys.length]).run Try.prog (W.alloc (.cells (nums .u8 ys).toArray 5)) = .ok v1 w1 ∧ RB w w1 v1 (xs ++ ys) := by
  obtain ⟨v1, w1, h1, h2, h3⟩ := app_lit ys h.o hl h.l.size
  exact ⟨v1, w1, h1, h.step h2 h3⟩
end Go.Proofs.Ytjidoedlmpjmnaa.Own
