/- Bytes of one's own. -/
import Derived.Test.YtkdhccbgbkhnnaaProg
import Derived.Test.YtkdhccbgbkhnnaaBase
namespace Go.Proofs.Ytkdhccbgbkhnnaa.Own
open Go.RowKit Go.Proofs.Ytkdhccbgbkhnnaa.Help Go.Proofs.YtkdhccbgbkhnnaaW.PrintWords Go.Proofs.YtkdhccbgbkhnnaaW.PrintLast Go.Proofs.YtkdhccbgbkhnnaaW.PrintMore
set_option linter.unusedVariables false
set_option linter.unusedSimpArgs false
/-- A row of bytes of one's own. -/
def Owns (w : World) (base : Nat) (v : Value) (xs : List Int) : Prop := w.ownsRow base 5 1 v xs.length (nums .u8 xs)
theorem Owns.below {w w' : World} {base : Nat} {v : Value} {xs : List Int} (h : Owns w base v xs) (hB : Below w.heap.size w w') : Owns w' base v xs := owned_below h hB
theorem Owns.reads {w : World} {base : Nat} {v : Value} {xs : List Int} (h : Owns w base v xs) (hl : xs.length ≤ 9223372036854775807) : ∃ A c, v = .slice A xs.length c ∧ xs.length ≤ c ∧ Kd.C (Kd.int .u8) w A xs.length xs := owned_reads h hl
theorem Owns.lower {w : World} {base b : Nat} {v : Value} {xs : List Int} (h : Owns w base v xs) (hb : b ≤ base) : Owns w b v xs := by
  refine ⟨h.1, ?_⟩
  rcases h.2 with h1 | ⟨g, cap, cur, h1, h2, h3⟩
  · exact .inl h1
  · exact .inr ⟨g, cap, cur, h1, Nat.le_trans hb h2, h3⟩
theorem Owns.ne {w : World} {base g : Nat} {v : Value} {xs : List Int} {cs : Array Value} {t : TypeId} (h : Owns w base v xs) (hb : w.heap[g]? = some (.cells cs t (0, 0))) (ht : t ≠ 5) : some g ≠ v.ownBlock := by
  rcases h.2 with ⟨rfl, _⟩ | ⟨g', cap, cur, rfl, _, hg, _⟩
  · simp [Value.ownBlock]
  · simpa [Value.ownBlock] using blk_ne hb hg ht
theorem Owns.nil (w : World) (base : Nat) : Owns w base (.slice none 0 0) [] := owned_nil w base _ _
theorem info_u8 : (Try.prog.info? 5).map (fun i => (i.zero, i.size, i.bytes)) = some (some (.int .u8 0), 1, 1) := by kernel_rfl
/-- Bytes appended to a row of one's own, as the operation runs. -/
theorem append_bytes {W : World} {base ty c : Nat} {v : Value} {xs ys : List Int} {A : Option Addr} (HO : Owns W base v xs) (hr : Kd.C (Kd.int .u8) W A ys.length ys) (hl : xs.length + ys.length ≤ 140737488355328) (hb : base ≤ W.heap.size) :
    ∃ v1 w1, (Builtin.append_ #[45, 45] ty #[v, .slice A ys.length c]).run Try.prog W = .ok v1 w1 ∧ Owns w1 base v1 (xs ++ ys) ∧ W.grownBy w1 v.ownBlock ∧ (v1.ownBlock = v.ownBlock ∨ v1.ownBlock = some W.heap.size) := by
  obtain ⟨i0, hi, hz0, hz1, hz2⟩ := info_parts info_u8
  exact append_ints Try.underlying45 hi hz0 hz1 HO hr (by rw [hz2]; omega) hl hb
/-- What grows by a row of one's own keeps all below. -/
theorem Owns.keeps {w W w1 : World} {v : Value} {xs : List Int} (hB : Below w.heap.size w W) (HO : Owns W w.heap.size v xs) (hg : W.grownBy w1 v.ownBlock) : Below w.heap.size w w1 := below_owned hB HO hg
theorem Owns.one {w : World} {base : Nat} {v : Value} {xs : List Int} (h : Owns w base v xs) : v.oneCell' = true := by
  rcases h.2 with ⟨rfl, _⟩ | ⟨g', cap, cur, rfl, _⟩ <;> rfl
theorem Owns.apart {w : World} {base g : Nat} {v : Value} {xs : List Int} {cs : Array Value} {t : TypeId} (h : Owns w base v xs) (hb : w.heap[g]? = some (.cells cs t (0, 0))) (ht : t ≠ 5) : v.ownBlock = none ∨ v.ownBlock ≠ some g := .inr (fun e => h.ne hb ht e.symm)
end Go.Proofs.Ytkdhccbgbkhnnaa.Own
