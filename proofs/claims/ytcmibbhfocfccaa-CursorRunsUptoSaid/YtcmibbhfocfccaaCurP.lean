/- Pieces of bytes, plain. -/
import Derived.Test.YtcmibbhfocfccaaBits
namespace Go.Proofs.Ytcmibbhfocfccaa.CurP
open Go.RowKit Go.Proofs.Ytcmibbhfocfccaa.Bits
set_option linter.unusedVariables false
set_option linter.unusedSimpArgs false
def AllB (bs : List Int) : Prop := ∀ x ∈ bs, 0 ≤ x ∧ x < 256
/-- A number, its highest byte first. -/
def numL (l : List Int) : Int := l.foldl (fun n c => n * 256 + c) 0
def wantN (xs : List Int) (at_ : Nat) (n : Int) : Int := if n < 0 then 1 else if n > (xs.length : Int) - at_ then 10 else 0
theorem numL_snoc (l : List Int) (c : Int) : numL (l ++ [c]) = numL l * 256 + c := by simp [numL]
theorem fold_bd : ∀ (l : List Int) (n : Int) (k : Nat), AllB l → 0 ≤ n → n < 256 ^ k → 0 ≤ l.foldl (fun n c => n * 256 + c) n ∧ l.foldl (fun n c => n * 256 + c) n < 256 ^ (k + l.length)
  | [], n, k, _, h0, h1 => ⟨h0, h1⟩
  | c :: l, n, k, h, h0, h1 => by
    have h2 := h c List.mem_cons_self
    have := fold_bd l (n * 256 + c) (k + 1) (fun x hx => h x (List.mem_cons_of_mem _ hx)) (by omega) (by rw [Int.pow_succ]; omega)
    rw [List.foldl_cons, List.length_cons, show k + (l.length + 1) = k + 1 + l.length by omega]
    exact this
theorem numL_bd (l : List Int) (h : AllB l) : 0 ≤ numL l ∧ numL l < 256 ^ l.length := by
  have := fold_bd l 0 0 h (Int.le_refl _) (by decide)
  rwa [Nat.zero_add] at this
theorem pow_small : ∀ m : Fin 8, (256 : Int) ^ m.val ≤ 72057594037927936 := by decide
theorem pow_small8 : ∀ m : Fin 9, (256 : Int) ^ m.val ≤ 18446744073709551616 := by decide
/-- One byte more, as the program lays it. -/
theorem num_step {n c : Int} (h0 : 0 ≤ n) (h1 : n < 72057594037927936) (c0 : 0 ≤ c) (c1 : c < 256) : bits .or .u64 (IntKind.u64.wrap (n * 256)) c = n * 256 + c := by
  rw [wrap_u64_id (by omega) (by omega)]
  exact or_join_u64 8 (by omega) (by omega) (by omega) c0 (by omega) (by omega)
theorem numL_small {l : List Int} (h : AllB l) (hl : l.length < 8) : 0 ≤ numL l ∧ numL l < 72057594037927936 := by
  have h1 := numL_bd l h
  exact ⟨h1.1, Int.lt_of_lt_of_le h1.2 (pow_small ⟨l.length, hl⟩)⟩
theorem AllB.take {l : List Int} (h : AllB l) (n : Nat) : AllB (l.take n) := fun x hx => h x (List.mem_of_mem_take hx)
theorem AllB.drop {l : List Int} (h : AllB l) (n : Nat) : AllB (l.drop n) := fun x hx => h x (List.mem_of_mem_drop hx)
/-- What a piece comes to: an error; a number, bytes, how far. -/
def pieceR (xs : List Int) (at_ : Nat) (k s : Int) : Int × Int × List Int × Nat :=
  if k = 0 then (if s < 1 ∨ s > 8 then (1, 0, [], at_) else if s > (xs.length : Int) - at_ then (10, 0, [], at_) else (0, numL ((xs.drop at_).take s.toNat), [], at_ + s.toNat))
  else if k = 1 then (if wantN xs at_ s = 0 then (0, 0, (xs.drop at_).take s.toNat, at_ + s.toNat) else (wantN xs at_ s, 0, [], at_))
  else if k = 2 then (if wantN xs at_ s = 0 then (0, 0, [], at_ + s.toNat) else (wantN xs at_ s, 0, [], at_))
  else if k = 3 then (if wantN xs at_ s = 0 then (if ((xs.drop at_).take s.toNat).all (· == 0) then (0, 0, [], at_ + s.toNat) else (11, 0, [], at_)) else (wantN xs at_ s, 0, [], at_))
  else if k = 4 ∧ s = 0 then (0, 0, xs.drop at_, xs.length)
  else (1, 0, [], at_)
/-- What some pieces come to: what each was, how far, the error. -/
def runL (xs : List Int) : Nat → List (Int × Int) → List (Int × List Int) × Nat × Int
  | at_, [] => ([], at_, 0)
  | at_, o :: os =>
    let r := pieceR xs at_ o.1 o.2
    if r.1 = 0 then let q := runL xs r.2.2.2 os; ((r.2.1, r.2.2.1) :: q.1, q.2.1, q.2.2) else ([], at_, r.1)
end Go.Proofs.Ytcmibbhfocfccaa.CurP
