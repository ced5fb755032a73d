/- More bytes behind, plainly. -/
import Derived.Test.YtcmibbhfocfccaaCurP
namespace Go.Proofs.Ytcmibbhfocfccaa.CurP
open Go.RowKit Go.Proofs.Ytcmibbhfocfccaa.Bits
set_option linter.unusedVariables false
set_option linter.unusedSimpArgs false
theorem take_more {xs ys : List Int} {a n : Nat} (h : a + n ≤ xs.length) : ((xs ++ ys).drop a).take n = (xs.drop a).take n := by
  rw [List.drop_append_of_le_length (by omega), List.take_append_of_le_length (by rw [List.length_drop]; omega)]
theorem pieceR_more {xs ys : List Int} {a : Nat} {k s : Int} (hk : k ≠ 4) (ha : a ≤ xs.length) (h : (pieceR xs a k s).1 ≠ 10) : pieceR (xs ++ ys) a k s = pieceR xs a k s := by
  have hlen : ((xs ++ ys).length : Int) = xs.length + ys.length := by simp
  have hw : wantN xs a s ≠ 10 → wantN (xs ++ ys) a s = wantN xs a s ∧ (wantN xs a s = 0 → a + s.toNat ≤ xs.length) := by
    intro hn
    unfold wantN at *
    split at hn
    · rename_i h0
      refine ⟨by rw [if_pos h0, if_pos h0], fun h => ?_⟩
      rw [if_pos h0] at h; omega
    · rename_i h0
      split at hn
      · omega
      · rename_i h1
        refine ⟨by rw [if_neg h0, if_neg (by omega), if_neg h0, if_neg h1], fun _ => by omega⟩
  unfold pieceR at *
  split
  · rename_i h0
    rw [if_pos h0] at h
    split
    · rfl
    · rename_i h1
      rw [if_neg h1] at h
      split at h
      · omega
      · rename_i h2
        rw [if_neg (by omega), if_neg h2, take_more (by omega)]
  · rename_i h0
    rw [if_neg h0] at h
    split
    · rename_i h1
      rw [if_pos h1] at h
      have hq : wantN xs a s ≠ 10 := by
        intro h2; rw [if_neg (by rw [h2]; decide)] at h; exact h h2
      obtain ⟨e1, e2⟩ := hw hq
      rw [e1]
      split
      · rename_i h3; rw [take_more (e2 h3)]
      · rfl
    · rename_i h1
      rw [if_neg h1] at h
      split
      · rename_i h2
        rw [if_pos h2] at h
        have hq : wantN xs a s ≠ 10 := by
          intro h2; rw [if_neg (by rw [h2]; decide)] at h; exact h h2
        rw [(hw hq).1]
      · rename_i h2
        rw [if_neg h2] at h
        split
        · rename_i h3
          rw [if_pos h3] at h
          have hq : wantN xs a s ≠ 10 := by
            intro h2; rw [if_neg (by rw [h2]; decide)] at h; exact h h2
          obtain ⟨e1, e2⟩ := hw hq
          rw [e1]
          split
          · rename_i h4; rw [take_more (e2 h4)]
          · rfl
        · rw [if_neg (fun h => hk h.1), if_neg (fun h => hk h.1)]
theorem pieceR_le {xs : List Int} {a : Nat} {k s : Int} (ha : a ≤ xs.length) (h : (pieceR xs a k s).1 = 0) : (pieceR xs a k s).2.2.2 ≤ xs.length := by
  have hw : wantN xs a s = 0 → a + s.toNat ≤ xs.length := by
    intro hn
    unfold wantN at hn
    split at hn
    · omega
    · split at hn <;> omega
  unfold pieceR at *
  split
  · split
    · exact ha
    · split
      · exact ha
      · dsimp only; omega
  · split
    · split
      · exact hw ‹_›
      · exact ha
    · split
      · split
        · exact hw ‹_›
        · exact ha
      · split
        · split
          · split
            · exact hw ‹_›
            · exact ha
          · exact ha
        · split
          · exact Nat.le_refl _
          · exact ha
theorem runL_le (xs : List Int) : ∀ (os : List (Int × Int)) (a : Nat), a ≤ xs.length → (runL xs a os).2.1 ≤ xs.length
  | [], a, ha => ha
  | o :: os, a, ha => by
    rw [runL]
    dsimp only
    split
    · rename_i h; exact runL_le xs os _ (pieceR_le ha h)
    · exact ha
theorem runL_len (xs : List Int) : ∀ (os : List (Int × Int)) (a : Nat), (runL xs a os).1.length ≤ os.length
  | [], a => Nat.le_refl _
  | o :: os, a => by
    rw [runL]
    dsimp only
    split
    · have := runL_len xs os (pieceR xs a o.1 o.2).2.2.2
      simp only [List.length_cons]; omega
    · simp
theorem runL_more (xs ys : List Int) : ∀ (os : List (Int × Int)) (a : Nat), a ≤ xs.length → (∀ o ∈ os, o.1 ≠ 4) → (runL xs a os).2.2 ≠ 10 → runL (xs ++ ys) a os = runL xs a os
  | [], a, ha, h4, hn => rfl
  | o :: os, a, ha, h4, hn => by
    rw [runL, runL]
    rw [runL] at hn
    dsimp only at *
    have hp : (pieceR xs a o.1 o.2).1 ≠ 10 := by
      intro hq
      rw [if_neg (by rw [hq]; decide)] at hn
      exact hn hq
    rw [pieceR_more (h4 o List.mem_cons_self) ha hp]
    split
    · rename_i h
      rw [if_pos h] at hn
      rw [runL_more xs ys os _ (pieceR_le ha h) (fun q hq => h4 q (List.mem_cons_of_mem _ hq)) hn]
    · rfl
end Go.Proofs.Ytcmibbhfocfccaa.CurP
