/- The newest of some, in whatever order; plain. -/
import Derived.Test.YtkdhccbgbkhnnaaMemW4
namespace Go.Proofs.Ytkdhccbgbkhnnaa.Memb
open Go.Proofs.Ytkdhccbgbkhnnaa.MapI
/-- One more is heard. -/
def stepI (m x : Int × Int) : Int × Int := if (rightI x && newB x m) = true then x else m
theorem hear_step (m x : Int × Int) : (hearX 0 [(0, 0), m] 1 x).2 = [(0, 0), stepI m x] := by
  unfold hearX stepI
  rw [show hasI [((0 : Int), (0 : Int)), m] 1 = true from rfl, show getI [((0 : Int), (0 : Int)), m] 1 = m from rfl, Bool.true_and]
  cases hr : rightI x
  · simp
  · cases hn : newB x m <;> simp
/-- r is the newest of m and of what is right in l. -/
def Best (m : Int × Int) (l : List (Int × Int)) (r : Int × Int) : Prop :=
  (r = m ∨ (r ∈ l ∧ rightI r = true)) ∧ newB m r = false ∧ ∀ x ∈ l, rightI x = true → newB x r = false
theorem newB_iff (a b : Int × Int) : newB a b = true ↔ (b.2 < a.2 ∨ (a.2 = b.2 ∧ b.1 < a.1)) := by
  unfold newB
  split <;> simp <;> omega
theorem newB_no (a b : Int × Int) : newB a b = false ↔ ¬ (b.2 < a.2 ∨ (a.2 = b.2 ∧ b.1 < a.1)) := by
  rw [← newB_iff]; simp
theorem best_fold (l : List (Int × Int)) : ∀ m, Best m l (l.foldl stepI m) := by
  induction l with
  | nil => intro m; exact ⟨.inl rfl, by rw [List.foldl_nil, newB_no]; omega, by simp⟩
  | cons x r ih =>
    intro m
    rw [List.foldl_cons]
    obtain ⟨h1, h2, h3⟩ := ih (stepI m x)
    generalize r.foldl stepI (stepI m x) = q at *
    unfold stepI at h1 h2
    rw [newB_no] at h2
    by_cases hx : (rightI x && newB x m) = true
    · rw [if_pos hx] at h1 h2
      rw [Bool.and_eq_true] at hx
      obtain ⟨hr, hn⟩ := hx
      rw [newB_iff] at hn
      refine ⟨?_, by rw [newB_no]; omega, fun y hy hyr => ?_⟩
      · rcases h1 with h1 | ⟨h1, h4⟩
        · exact .inr ⟨by rw [h1]; exact List.mem_cons_self, by rw [h1]; exact hr⟩
        · exact .inr ⟨List.mem_cons_of_mem _ h1, h4⟩
      · rcases List.mem_cons.1 hy with rfl | hy
        · rw [newB_no]; exact h2
        · exact h3 y hy hyr
    · rw [if_neg hx] at h1 h2
      refine ⟨?_, by rw [newB_no]; exact h2, fun y hy hyr => ?_⟩
      · rcases h1 with h1 | ⟨h1, h4⟩
        · exact .inl h1
        · exact .inr ⟨List.mem_cons_of_mem _ h1, h4⟩
      · rcases List.mem_cons.1 hy with rfl | hy
        · rw [hyr, Bool.true_and] at hx
          have hn : newB y m = false := by simpa using hx
          rw [newB_no] at hn ⊢; omega
        · exact h3 y hy hyr
theorem best_one {m : Int × Int} {l l' : List (Int × Int)} {r r' : Int × Int} (h : Best m l r) (h' : Best m l' r') (hs : ∀ x, x ∈ l ↔ x ∈ l') : r = r' := by
  obtain ⟨h1, h2, h3⟩ := h
  obtain ⟨k1, k2, k3⟩ := h'
  have a1 : newB r' r = false := by
    rcases k1 with rfl | ⟨k1, k4⟩
    · exact h2
    · exact h3 _ ((hs _).2 k1) k4
  have a2 : newB r r' = false := by
    rcases h1 with rfl | ⟨h1, h4⟩
    · exact k2
    · exact k3 _ ((hs _).1 h1) h4
  rw [newB_no] at a1 a2
  exact Prod.ext (by omega) (by omega)
/-- Those of some turns, then all of them backwards: the newest is the same. -/
theorem fold_turned (l : List (Int × Int)) (p : List (Int × Int)) (hp : ∀ x ∈ p, x ∈ l) (m : Int × Int) : (p ++ l.reverse).foldl stepI m = l.foldl stepI m :=
  best_one (best_fold _ m) (best_fold _ m) (fun x => by simp; exact hp x)
end Go.Proofs.Ytkdhccbgbkhnnaa.Memb
