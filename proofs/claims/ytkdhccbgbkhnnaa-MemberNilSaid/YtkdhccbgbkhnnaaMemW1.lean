/- How a replica is seen: which is newer, can it be. -/
import Derived.Test.YtkdhccbgbkhnnaaProg
import Derived.Test.YtkdhccbgbkhnnaaMapI
import Derived.Test.YtkdhccbgbkhnnaaWGuard
import Derived.Deep.CutRange
namespace Go.Proofs.Ytkdhccbgbkhnnaa.Memb
open Go.RowKit Go.Proofs.Ytkdhccbgbkhnnaa.MapI Go.Proofs.Ytkdhccbgbkhnnaa.Mem Go.Proofs.Ytkdhccbgbkhnnaa.Help Go.Proofs.YtkdhccbgbkhnnaaW.PrintWords Go.Proofs.YtkdhccbgbkhnnaaW.PrintLast Go.Proofs.YtkdhccbgbkhnnaaW.PrintMore
set_option linter.unusedVariables false
set_option linter.unusedSimpArgs false
def newB (a b : Int × Int) : Bool := if a.2 = b.2 then decide (b.1 < a.1) else decide (b.2 < a.2)
def rightI (x : Int × Int) : Bool := decide (0 ≤ x.1) && (decide (x.1 ≤ 2) && (decide (0 ≤ x.2) && decide (x.2 ≤ 1099511627776)))
theorem Newer_any (a b : Int × Int) (w : World) : Calls Try.prog 10 #[infV a, infV b] w fun e w' => e = .returned (.bool (newB a b)) ∧ Below w.heap.size w w' := by
  obtain ⟨s, c⟩ := a
  obtain ⟨s', c'⟩ := b
  unfold newB infV
  dsimp only
  by_cases h : c = c'
  · subst h
    rw [if_pos rfl]
    go_enter Try.func10, Try.ntmps10
    go_wp2_with fail
    go_ret
    exact ⟨rfl, (below_alloc (below_alloc (Below.refl _ _) _) _)⟩
  · rw [if_neg h]
    go_enter Try.func10, Try.ntmps10
    go_wp2_with fail
    go_ret
    exact ⟨rfl, (below_alloc (below_alloc (Below.refl _ _) _) _)⟩
theorem Right_any (a : Int × Int) (w : World) : Calls Try.prog 12 #[infV a] w fun e w' => e = .returned (.bool (rightI a)) ∧ Below w.heap.size w w' := by
  obtain ⟨s, c⟩ := a
  unfold rightI infV
  dsimp only
  by_cases h1 : 0 ≤ s
  · by_cases h2 : s ≤ 2
    · by_cases h3 : 0 ≤ c
      · by_cases h4 : c ≤ 1099511627776
        · go_enter Try.func12, Try.ntmps12
          go_wp2_with fail
          go_ret
          exact ⟨by simp [h1, h2, h3, h4] <;> omega, (below_alloc (Below.refl _ _) _)⟩
        · go_enter Try.func12, Try.ntmps12
          go_wp2_with fail
          go_ret
          exact ⟨by simp [h1, h2, h3, h4] <;> omega, (below_alloc (Below.refl _ _) _)⟩
      · go_enter Try.func12, Try.ntmps12
        go_wp2_with fail
        go_ret
        exact ⟨by simp [h1, h2, h3] <;> omega, (below_alloc (Below.refl _ _) _)⟩
    · go_enter Try.func12, Try.ntmps12
      go_wp2_with fail
      go_ret
      exact ⟨by simp [h1, h2] <;> omega, (below_alloc (Below.refl _ _) _)⟩
  · go_enter Try.func12, Try.ntmps12
    go_wp2_with fail
    go_ret
    exact ⟨by simp [h1] <;> omega, (below_alloc (Below.refl _ _) _)⟩
theorem refNewer_any (a b : Int × Int) (w : World) : Calls Try.prog 11 #[infV a, infV b] w fun e w' => e = .returned (.bool (newB a b)) ∧ Below w.heap.size w w' := by
  obtain ⟨s, c⟩ := a
  obtain ⟨s', c'⟩ := b
  unfold newB infV
  dsimp only
  by_cases h : c = c'
  · subst h
    rw [if_pos rfl]
    have h0 : ¬ c < c := Int.lt_irrefl c
    go_enter Try.func11, Try.ntmps11
    go_wp2_with fail
    go_ret
    exact ⟨by simp, (below_alloc (below_alloc (Below.refl _ _) _) _)⟩
  · rw [if_neg h]
    have hb : (c == c') = false := by simpa using h
    by_cases h2 : c' < c
    · go_enter Try.func11, Try.ntmps11
      go_wp2_with fail
      go_ret
      exact ⟨by simp [h2], (below_alloc (below_alloc (Below.refl _ _) _) _)⟩
    · go_enter Try.func11, Try.ntmps11
      go_wp2_with fail
      go_ret
      exact ⟨by simp [h2], (below_alloc (below_alloc (Below.refl _ _) _) _)⟩
theorem refRight_any (a : Int × Int) (w : World) : Calls Try.prog 13 #[infV a] w fun e w' => e = .returned (.bool (rightI a)) ∧ Below w.heap.size w w' := by
  obtain ⟨s, c⟩ := a
  unfold rightI infV
  dsimp only
  by_cases h1 : 0 ≤ s
  · by_cases h2 : s ≤ 2
    · by_cases h3 : 0 ≤ c
      · by_cases h4 : c ≤ 1099511627776
        · go_enter Try.func13, Try.ntmps13
          go_wp2_with fail
          go_ret
          exact ⟨by simp [h1, h2, h3, h4] <;> omega, (below_alloc (Below.refl _ _) _)⟩
        · go_enter Try.func13, Try.ntmps13
          go_wp2_with fail
          go_ret
          exact ⟨by simp [h1, h2, h3, h4] <;> omega, (below_alloc (Below.refl _ _) _)⟩
      · go_enter Try.func13, Try.ntmps13
        go_wp2_with fail
        go_ret
        exact ⟨by simp [h1, h2, h3] <;> omega, (below_alloc (Below.refl _ _) _)⟩
    · go_enter Try.func13, Try.ntmps13
      go_wp2_with fail
      go_ret
      exact ⟨by simp [h1, h2] <;> omega, (below_alloc (Below.refl _ _) _)⟩
  · go_enter Try.func13, Try.ntmps13
    go_wp2_with fail
    go_ret
    exact ⟨by simp [h1] <;> omega, (below_alloc (Below.refl _ _) _)⟩
theorem given_any (a : Int × Int) (w : World) : Calls Try.prog 9 #[infV a] w fun e w' => e = .returned (infV a) ∧ Below w.heap.size w w' := by
  obtain ⟨s, c⟩ := a
  unfold infV
  dsimp only
  go_enter Try.func9, Try.ntmps9
  go_wp2_with fail
  refine bodyPost_ret (v := .agg #[.int .i64 s, .int .i64 c]) (by simp [results, Try.results9, go_sem]) rfl ?_
  exact ⟨rfl, below_alloc (below_alloc (Below.refl _ _) _) _⟩
theorem taken_any (a : Int × Int) (w : World) : Calls Try.prog 18 #[infV a] w fun e w' => e = .returned (infV a) ∧ Below w.heap.size w w' := by
  obtain ⟨s, c⟩ := a
  unfold infV
  dsimp only
  go_enter Try.func18, Try.ntmps18
  go_wp2_with fail
  refine bodyPost_ret (v := .agg #[.int .i64 s, .int .i64 c]) (by simp [results, Try.results18, go_sem]) rfl ?_
  exact ⟨rfl, below_alloc (below_alloc (Below.refl _ _) _) _⟩
end Go.Proofs.Ytkdhccbgbkhnnaa.Memb
