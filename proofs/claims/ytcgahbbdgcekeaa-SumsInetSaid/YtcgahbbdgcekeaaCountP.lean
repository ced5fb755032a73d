/- A number from 0 to one below n, made of any one. -/
import Derived.Test.YtcgahbbdgcekeaaEvP
namespace Go.Proofs.Ytcgahbbdgcekeaa.CountP
open Go.RowKit Go.Proofs.Ytcgahbbdgcekeaa.Bits
/-- What Count comes to. -/
def cnt (k n : Int) : Int := if n < 1 then 0 else k % n
theorem cnt_bd {k n : Int} (h : 1 ≤ n) : 0 ≤ cnt k n ∧ cnt k n < n := by
  unfold cnt
  rw [if_neg (by omega)]
  exact ⟨Int.emod_nonneg _ (by omega), Int.emod_lt_of_pos _ (by omega)⟩
theorem tmod_cnt {k n : Int} (h : 1 ≤ n) (hn : n ≤ 9223372036854775807) : (if Int.tmod k n < 0 then wrap64 (Int.tmod k n + n) else Int.tmod k n) = cnt k n := by
  have hb := cnt_bd (k := k) h
  unfold cnt at hb ⊢
  rw [if_neg (show ¬ n < 1 by omega)] at hb ⊢
  have he : Int.tmod k n = if 0 ≤ k ∨ n ∣ k then k % n else k % n - n := by
    rw [Int.tmod_eq_emod]
    split
    · omega
    · rw [show ((n.natAbs : Nat) : Int) = n by omega]
  rw [he]
  split
  · split
    · omega
    · rfl
  · split
    · rw [wrap64_id (by omega) (by omega)]; omega
    · omega
end Go.Proofs.Ytcgahbbdgcekeaa.CountP
