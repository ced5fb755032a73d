/- CurQ: CurP, CurM, CurL, CurL5, RunP. -/
import Derived.Test.YtjidoedlmpjmnaaBits
namespace Go.Proofs.Ytjidoedlmpjmnaa.CurP
open Go.RowKit Go.Proofs.Ytjidoedlmpjmnaa.Bits
set_option linter.unusedVariables false
set_option linter.unusedSimpArgs false
def AllB (bs : List Int) : Prop := ∀ x ∈ bs, 0 ≤ x ∧ x < 256
/-- A number, its highest byte first. -/
def numL (l : List Int) : Int := l.foldl (fun n c => n * 256 + c) 0
def wantN (xs : List Int) (at_ : Nat) (n : Int) : Int := if n < 0 then 1 else if n > (xs.length : Int) - at_ then 10 else 0
theorem numL_snoc (l : List Int) (c : Int) : numL (l ++ [c]) = numL l * 256 + c := by simp [numL]
theorem fold_bd : ∀ (l : List Int) (n : Int) (k : Nat), AllB l → 0 ≤ n → n < 256 ^ k → 0 ≤ l.foldl (fun n c => n * 256 + c) n ∧ l.foldl (fun n c => n * 256 + c) n < 256 ^ (k + l.length)
  | [], n, k, _, h0, h1 => ⟨h0, h1⟩
  | c :: l, n, k, h, h0, h1 => by
    have h2 := h c List.mem_cons_self
    have := fold_bd l (n * 256 + c) (k + 1) (fun x hx => h x (List.mem_cons_of_mem _ hx)) (by omega) (by rw [Int.pow_succ]; omega)
    rw [List.foldl_cons, List.length_cons, show k + (l.length + 1) = k + 1 + l.length by omega]
    exact this
theorem numL_bd (l : List Int) (h : AllB l) : 0 ≤ numL l ∧ numL l < 256 ^ l.length := by
  have := fold_bd l 0 0 h (Int.le_refl _) (by decide)
  rwa [Nat.zero_add] at this
theorem pow_small : ∀ m : Fin 8, (256 : Int) ^ m.val ≤ 72057594037927936 := by decide
theorem pow_small8 : ∀ m : Fin 9, (256 : Int) ^ m.val ≤ 18446744073709551616 := by decide
/-- One byte more, as the program lays it. -/
theorem num_step {n c : Int} (h0 : 0 ≤ n) (h1 : n < 72057594037927936) (c0 : 0 ≤ c) (c1 : c < 256) : bits .or .u64 (IntKind.u64.wrap (n * 256)) c = n * 256 + c := by
  rw [wrap_u64_id (by omega) (by omega)]
  exact or_join_u64 8 (by omega) (by omega) (by omega) c0 (by omega) (by omega)
theorem numL_small {l : List Int} (h : AllB l) (hl : l.length < 8) : 0 ≤ numL l ∧ numL l < 72057594037927936 := by
  have h1 := numL_bd l h
  exact ⟨h1.1, Int.lt_of_lt_of_le h1.2 (pow_small ⟨l.length, hl⟩)⟩
theorem AllB.take {l : List Int} (h : AllB l) (n : Nat) : AllB (l.take n) := fun x hx => h x (List.mem_of_mem_take hx)
theorem AllB.drop {l : List Int} (h : AllB l) (n : Nat) : AllB (l.drop n) := fun x hx => h x (List.mem_of_mem_drop hx)
/-- What a piece comes to: an error; a number, bytes, how far. -/
def pieceR (xs : List Int) (at_ : Nat) (k s : Int) : Int × Int × List Int × Nat :=
  if k = 0 then (if s < 1 ∨ s > 8 then (1, 0, [], at_) else if s > (xs.length : Int) - at_ then (10, 0, [], at_) else (0, numL ((xs.drop at_).take s.toNat), [], at_ + s.toNat))
  else if k = 1 then (if wantN xs at_ s = 0 then (0, 0, (xs.drop at_).take s.toNat, at_ + s.toNat) else (wantN xs at_ s, 0, [], at_))
  else if k = 2 then (if wantN xs at_ s = 0 then (0, 0, [], at_ + s.toNat) else (wantN xs at_ s, 0, [], at_))
  else if k = 3 then (if wantN xs at_ s = 0 then (if ((xs.drop at_).take s.toNat).all (· == 0) then (0, 0, [], at_ + s.toNat) else (11, 0, [], at_)) else (wantN xs at_ s, 0, [], at_))
  else if k = 4 ∧ s = 0 then (0, 0, xs.drop at_, xs.length)
  else (1, 0, [], at_)
/-- What some pieces come to: what each was, how far, the error. -/
def runL (xs : List Int) : Nat → List (Int × Int) → List (Int × List Int) × Nat × Int
  | at_, [] => ([], at_, 0)
  | at_, o :: os =>
    let r := pieceR xs at_ o.1 o.2
    if r.1 = 0 then let q := runL xs r.2.2.2 os; ((r.2.1, r.2.2.1) :: q.1, q.2.1, q.2.2) else ([], at_, r.1)
end Go.Proofs.Ytjidoedlmpjmnaa.CurP
namespace Go.Proofs.Ytjidoedlmpjmnaa.CurP
open Go.RowKit Go.Proofs.Ytjidoedlmpjmnaa.Bits
set_option linter.unusedVariables false
set_option linter.unusedSimpArgs false
theorem take_more {xs ys : List Int} {a n : Nat} (h : a + n ≤ xs.length) : ((xs ++ ys).drop a).take n = (xs.drop a).take n := by
  rw [List.drop_append_of_le_length (by omega), List.take_append_of_le_length (by rw [List.length_drop]; omega)]
theorem pieceR_more {xs ys : List Int} {a : Nat} {k s : Int} (hk : k ≠ 4) (ha : a ≤ xs.length) (h : (pieceR xs a k s).1 ≠ 10) : pieceR (xs ++ ys) a k s = pieceR xs a k s := by
  have hlen : ((xs ++ ys).length : Int) = xs.length + ys.length := by simp
  have hw : wantN xs a s ≠ 10 → wantN (xs ++ ys) a s = wantN xs a s ∧ (wantN xs a s = 0 → a + s.toNat ≤ xs.length) := by
    intro hn
    unfold wantN at *
    split at hn
    · rename_i h0
      refine ⟨by rw [if_pos h0, if_pos h0], fun h => ?_⟩
      rw [if_pos h0] at h; omega
    · rename_i h0
      split at hn
      · omega
      · rename_i h1
        refine ⟨by rw [if_neg h0, if_neg (by omega), if_neg h0, if_neg h1], fun _ => by omega⟩
  unfold pieceR at *
  split
  · rename_i h0
    rw [if_pos h0] at h
    split
    · rfl
    · rename_i h1
      rw [if_neg h1] at h
      split at h
      · omega
      · rename_i h2
        rw [if_neg (by omega), if_neg h2, take_more (by omega)]
  · rename_i h0
    rw [if_neg h0] at h
    split
    · rename_i h1
      rw [if_pos h1] at h
      have hq : wantN xs a s ≠ 10 := by
        intro h2; rw [if_neg (by rw [h2]; decide)] at h; exact h h2
      obtain ⟨e1, e2⟩ := hw hq
      rw [e1]
      split
      · rename_i h3; rw [take_more (e2 h3)]
      · rfl
    · rename_i h1
      rw [if_neg h1] at h
      split
      · rename_i h2
        rw [if_pos h2] at h
        have hq : wantN xs a s ≠ 10 := by
          intro h2; rw [if_neg (by rw [h2]; decide)] at h; exact h h2
        rw [(hw hq).1]
      · rename_i h2
        rw [if_neg h2] at h
        split
        · rename_i h3
          rw [if_pos h3] at h
          have hq : wantN xs a s ≠ 10 := by
            intro h2; rw [if_neg (by rw [h2]; decide)] at h; exact h h2
          obtain ⟨e1, e2⟩ := hw hq
          rw [e1]
          split
          · rename_i h4; rw [take_more (e2 h4)]
          · rfl
        · rw [if_neg (fun h => hk h.1), if_neg (fun h => hk h.1)]
theorem pieceR_le {xs : List Int} {a : Nat} {k s : Int} (ha : a ≤ xs.length) (h : (pieceR xs a k s).1 = 0) : (pieceR xs a k s).2.2.2 ≤ xs.length := by
  have hw : wantN xs a s = 0 → a + s.toNat ≤ xs.length := by
    intro hn
    unfold wantN at hn
    split at hn
    · omega
    · split at hn <;> omega
  unfold pieceR at *
  split
  · split
    · exact ha
    · split
      · exact ha
      · dsimp only; omega
  · split
    · split
      · exact hw ‹_›
      · exact ha
    · split
      · split
        · exact hw ‹_›
        · exact ha
      · split
        · split
          · split
            · exact hw ‹_›
            · exact ha
          · exact ha
        · split
          · exact Nat.le_refl _
          · exact ha
theorem runL_le (xs : List Int) : ∀ (os : List (Int × Int)) (a : Nat), a ≤ xs.length → (runL xs a os).2.1 ≤ xs.length
  | [], a, ha => ha
  | o :: os, a, ha => by
    rw [runL]
    dsimp only
    split
    · rename_i h; exact runL_le xs os _ (pieceR_le ha h)
    · exact ha
theorem runL_len (xs : List Int) : ∀ (os : List (Int × Int)) (a : Nat), (runL xs a os).1.length ≤ os.length
  | [], a => Nat.le_refl _
  | o :: os, a => by
    rw [runL]
    dsimp only
    split
    · have := runL_len xs os (pieceR xs a o.1 o.2).2.2.2
      simp only [List.length_cons]; omega
    · simp
theorem runL_more (xs ys : List Int) : ∀ (os : List (Int × Int)) (a : Nat), a ≤ xs.length → (∀ o ∈ os, o.1 ≠ 4) → (runL xs a os).2.2 ≠ 10 → runL (xs ++ ys) a os = runL xs a os
  | [], a, ha, h4, hn => rfl
  | o :: os, a, ha, h4, hn => by
    rw [runL, runL]
    rw [runL] at hn
    dsimp only at *
    have hp : (pieceR xs a o.1 o.2).1 ≠ 10 := by
      intro hq
      rw [if_neg (by rw [hq]; decide)] at hn
      exact hn hq
    rw [pieceR_more (h4 o List.mem_cons_self) ha hp]
    split
    · rename_i h
      rw [if_pos h] at hn
      rw [runL_more xs ys os _ (pieceR_le ha h) (fun q hq => h4 q (List.mem_cons_of_mem _ hq)) hn]
    · rfl
end Go.Proofs.Ytjidoedlmpjmnaa.CurP
namespace Go.Proofs.Ytjidoedlmpjmnaa.CurP
open Go.RowKit Go.Proofs.Ytjidoedlmpjmnaa.Bits
set_option linter.unusedVariables false
set_option linter.unusedSimpArgs false
/-- A number's bytes, the highest first. -/
def numB : Nat → Int → List Int
  | 0, _ => []
  | s + 1, n => numB s (n / 256) ++ [n % 256]
theorem numB_len : ∀ (s : Nat) (n : Int), (numB s n).length = s
  | 0, _ => rfl
  | s + 1, n => by rw [numB, List.length_append, numB_len]; rfl
theorem numB_bytes : ∀ (s : Nat) (n : Int), AllB (numB s n)
  | 0, _ => fun _ h => absurd h List.not_mem_nil
  | s + 1, n => fun x hx => by
    rw [numB, List.mem_append] at hx
    rcases hx with hx | hx
    · exact numB_bytes s _ x hx
    · rw [List.mem_singleton] at hx; subst hx; omega
theorem numL_numB : ∀ (s : Nat) (n : Int), 0 ≤ n → n < 256 ^ s → numL (numB s n) = n
  | 0, n, h0, h1 => by
    have : n = 0 := by simp at h1; omega
    subst this; rfl
  | s + 1, n, h0, h1 => by
    rw [numB, numL_snoc, numL_numB s (n / 256) (by omega) (by rw [Int.pow_succ] at h1; omega)]
    omega
theorem numB_numL : ∀ (l : List Int), AllB l → numB l.length (numL l) = l := by
  intro l
  induction h : l.length generalizing l with
  | zero => intro _; rw [List.length_eq_zero_iff] at h; subst h; rfl
  | succ n ih =>
    intro hb
    rcases List.eq_nil_or_concat l with rfl | ⟨l', x, rfl⟩
    · cases h
    · rw [List.concat_eq_append] at *
      have hx := hb x (by simp)
      have hl : l'.length = n := by simp at h; exact h
      rw [numL_snoc, numB, show (numL l' * 256 + x) / 256 = numL l' by omega, show (numL l' * 256 + x) % 256 = x by omega, ih l' hl (fun y hy => hb y (List.mem_append_left _ hy))]
theorem numB_get : ∀ (s : Nat) (n : Int) (i : Nat), i < s → (numB s n).getD i 0 = n / 2 ^ (8 * (s - 1 - i)) % 256
  | 0, n, i, h => by omega
  | s + 1, n, i, h => by
    rw [numB]
    by_cases hi : i < s
    · rw [List.getD_eq_getElem?_getD, List.getElem?_append_left (by rw [numB_len]; exact hi), ← List.getD_eq_getElem?_getD, numB_get s (n / 256) i hi]
      rw [show 8 * (s + 1 - 1 - i) = 8 * (s - 1 - i) + 8 by omega, Int.pow_add, Int.mul_comm, ← Int.ediv_ediv_of_nonneg (by decide)]
      rfl
    · obtain rfl : i = s := by omega
      rw [List.getD_eq_getElem?_getD, List.getElem?_append_right (by rw [numB_len]; exact Nat.le_refl _), numB_len, Nat.sub_self, show i + 1 - 1 - i = 0 by omega]
      simp
/-- Can a piece be what it is said to be? -/
def fitsP (k s n : Int) (bn : Nat) : Bool :=
  if k = 0 then decide (1 ≤ s ∧ s ≤ 8 ∧ n < 256 ^ s.toNat ∧ bn = 0)
  else if k = 1 then decide (n = 0 ∧ (bn : Int) = s)
  else if k = 2 ∨ k = 3 then decide (n = 0 ∧ bn = 0 ∧ 0 ≤ s)
  else if k = 4 then decide (n = 0 ∧ s = 0) else false
/-- A piece's bytes. -/
def layB (k s n : Int) (bs : List Int) : List Int :=
  if k = 0 then numB s.toNat n else if k = 2 ∨ k = 3 then List.replicate s.toNat 0 else bs
/-- Pieces laid one behind the other: the error, the bytes. -/
def layS (acc : List Int) : List (Int × Int) → List (Int × List Int) → Int × List Int
  | [], _ => (0, acc)
  | _ :: _, [] => (0, acc)
  | o :: os, v :: vs =>
    if fitsP o.1 o.2 v.1 v.2.length = false then (1, acc)
    else if max o.2 (v.2.length : Int) > 65535 - (acc.length : Int) then (3, acc)
    else layS (acc ++ layB o.1 o.2 v.1 v.2) os vs
def layA (vs : List (Int × List Int)) (os : List (Int × Int)) : Int × List Int :=
  if os.length > 4096 then (3, []) else if vs.length ≠ os.length then (1, []) else if (layS [] os vs).1 = 0 then (0, (layS [] os vs).2) else ((layS [] os vs).1, [])
theorem fits_s {k s n : Int} {bn : Nat} (h : fitsP k s n bn = true) : 0 ≤ s := by
  unfold fitsP at h
  split at h
  · have := of_decide_eq_true h; omega
  · split at h
    · have := of_decide_eq_true h; omega
    · split at h
      · have := of_decide_eq_true h; omega
      · split at h
        · have := of_decide_eq_true h; omega
        · cases h
theorem layB_len {k s n : Int} {bs : List Int} (h : fitsP k s n bs.length = true) : ((layB k s n bs).length : Int) = max s (bs.length : Int) := by
  have h0 := fits_s h
  unfold fitsP at h
  unfold layB
  split at h
  · rename_i hk
    have := of_decide_eq_true h
    rw [if_pos hk, numB_len]; omega
  · rename_i hk
    rw [if_neg hk]
    split at h
    · rename_i h1
      have := of_decide_eq_true h
      rw [if_neg (by omega)]; omega
    · split at h
      · rename_i h2
        have := of_decide_eq_true h
        rw [if_pos h2, List.length_replicate]; omega
      · rename_i h2
        rw [if_neg h2]
        split at h
        · have := of_decide_eq_true h; omega
        · cases h
theorem layS_len : ∀ (os : List (Int × Int)) (vs : List (Int × List Int)) (acc : List Int), acc.length ≤ 65535 → (layS acc os vs).2.length ≤ 65535
  | [], vs, acc, h => by rw [layS]; exact h
  | o :: os, [], acc, h => by rw [layS]; exact h
  | o :: os, v :: vs, acc, h => by
    rw [layS]
    split
    · exact h
    · rename_i hf
      split
      · exact h
      · rename_i hm
        refine layS_len os vs _ ?_
        have := layB_len (bs := v.2) (by simpa using hf)
        rw [List.length_append]; omega
theorem layA_len (vs : List (Int × List Int)) (os : List (Int × Int)) : (layA vs os).2.length ≤ 65535 := by
  unfold layA
  split
  · simp
  · split
    · simp
    · split
      · exact layS_len os vs [] (by simp)
      · simp
theorem layB_bytes {k s n : Int} {bs : List Int} (h : AllB bs) : AllB (layB k s n bs) := by
  unfold layB
  split
  · exact numB_bytes _ _
  · split
    · intro x hx; rw [List.mem_replicate] at hx; omega
    · exact h
theorem layS_bytes : ∀ (os : List (Int × Int)) (vs : List (Int × List Int)) (acc : List Int), AllB acc → (∀ v ∈ vs, AllB v.2) → AllB (layS acc os vs).2
  | [], vs, acc, h, hv => by rw [layS]; exact h
  | o :: os, [], acc, h, hv => by rw [layS]; exact h
  | o :: os, v :: vs, acc, h, hv => by
    rw [layS]
    split
    · exact h
    · split
      · exact h
      · exact layS_bytes os vs _ (fun x hx => (List.mem_append.1 hx).elim (h x) (layB_bytes (hv v List.mem_cons_self) x)) (fun q hq => hv q (List.mem_cons_of_mem _ hq))
theorem layA_bytes (vs : List (Int × List Int)) (os : List (Int × Int)) (hv : ∀ v ∈ vs, AllB v.2) : AllB (layA vs os).2 := by
  unfold layA
  split
  · exact fun _ h => absurd h List.not_mem_nil
  · split
    · exact fun _ h => absurd h List.not_mem_nil
    · split
      · exact layS_bytes os vs [] (fun _ h => absurd h List.not_mem_nil) hv
      · exact fun _ h => absurd h List.not_mem_nil
end Go.Proofs.Ytjidoedlmpjmnaa.CurP
namespace Go.Proofs.Ytjidoedlmpjmnaa.CurP
open Go.RowKit Go.Proofs.Ytjidoedlmpjmnaa.Bits
set_option linter.unusedVariables false
set_option linter.unusedSimpArgs false
theorem layB_len' {k s n : Int} {bs : List Int} (hk : k ≠ 4) (h : fitsP k s n bs.length = true) : (layB k s n bs).length = s.toNat ∧ 0 ≤ s := by
  have h0 := fits_s h
  have hl := layB_len h
  unfold fitsP at h
  refine ⟨?_, h0⟩
  split at h
  · have := of_decide_eq_true h; omega
  · split at h
    · have := of_decide_eq_true h; omega
    · split at h
      · have := of_decide_eq_true h; omega
      · simp [hk] at h
theorem piece_read {acc more bs : List Int} {k s n : Int} (hk : k ≠ 4) (hn : 0 ≤ n) (h : fitsP k s n bs.length = true) :
    pieceR (acc ++ (layB k s n bs ++ more)) acc.length k s = (0, n, bs, acc.length + (layB k s n bs).length) := by
  obtain ⟨hl, h0⟩ := layB_len' hk h
  have hd : (acc ++ (layB k s n bs ++ more)).drop acc.length = layB k s n bs ++ more := List.drop_left
  have ht : (layB k s n bs ++ more).take s.toNat = layB k s n bs := by rw [← hl]; exact List.take_left
  have hw : wantN (acc ++ (layB k s n bs ++ more)) acc.length s = 0 := by
    unfold wantN
    rw [if_neg (by omega), if_neg (by simp only [List.length_append]; omega)]
  have hf := h
  unfold fitsP at h
  unfold pieceR
  rw [hd, ht, hl, hw]
  split
  · rename_i k0
    rw [if_pos k0] at h
    have h' := of_decide_eq_true h
    rw [if_neg (by omega), if_neg (by simp only [List.length_append]; omega)]
    subst k0
    have hb : bs = [] := List.eq_nil_of_length_eq_zero h'.2.2.2
    rw [show layB 0 s n bs = numB s.toNat n by unfold layB; rw [if_pos rfl], numL_numB _ _ hn h'.2.2.1, hb]
  · rename_i k0
    rw [if_neg k0] at h
    split
    · rename_i k1
      rw [if_pos k1] at h
      have h' := of_decide_eq_true h
      rw [if_pos rfl, h'.1]
      subst k1
      rw [show layB 1 s 0 bs = bs by unfold layB; rw [if_neg (by decide), if_neg (by decide)]]
    · rename_i k1
      rw [if_neg k1] at h
      split
      · rename_i k2
        rw [if_pos (.inl k2)] at h
        have h' := of_decide_eq_true h
        rw [if_pos rfl, h'.1, List.eq_nil_of_length_eq_zero h'.2.1]
      · rename_i k2
        split
        · rename_i k3
          rw [if_pos (.inr k3)] at h
          have h' := of_decide_eq_true h
          rw [if_pos rfl, if_pos, h'.1, List.eq_nil_of_length_eq_zero h'.2.1]
          rw [show layB k s n bs = List.replicate s.toNat 0 by unfold layB; rw [if_neg k0, if_pos (.inr k3)]]
          simp
        · rename_i k3
          rw [if_neg (by omega), if_neg hk] at h
          cases h
theorem layS_read : ∀ (os : List (Int × Int)) (vs : List (Int × List Int)) (acc b : List Int), os.length = vs.length → (∀ o ∈ os, o.1 ≠ 4) → (∀ v ∈ vs, 0 ≤ v.1) → layS acc os vs = (0, b) →
    (∃ more, b = acc ++ more) ∧ ∀ rest, runL (b ++ rest) acc.length os = (vs, b.length, 0)
  | [], [], acc, b, _, _, _, h => by
    rw [layS] at h
    injection h with _ h
    subst h
    exact ⟨⟨[], by simp⟩, fun rest => by rw [runL]⟩
  | [], _ :: _, _, _, h, _, _, _ => by simp at h
  | _ :: _, [], _, _, h, _, _, _ => by simp at h
  | o :: os, v :: vs, acc, b, hl, h4, hv, h => by
    rw [layS] at h
    split at h
    · cases h
    · rename_i hf
      split at h
      · cases h
      · rename_i hm
        obtain ⟨⟨more, hb⟩, hr⟩ := layS_read os vs _ b (by simpa using hl) (fun q hq => h4 q (List.mem_cons_of_mem _ hq)) (fun q hq => hv q (List.mem_cons_of_mem _ hq)) h
        have hf' : fitsP o.1 o.2 v.1 v.2.length = true := by simpa using hf
        refine ⟨⟨layB o.1 o.2 v.1 v.2 ++ more, by rw [hb, List.append_assoc]⟩, fun rest => ?_⟩
        have hp := piece_read (acc := acc) (more := more ++ rest) (h4 o List.mem_cons_self) (hv v List.mem_cons_self) hf'
        have hbr : b ++ rest = acc ++ (layB o.1 o.2 v.1 v.2 ++ (more ++ rest)) := by rw [hb]; simp
        have hr' := hr rest
        rw [List.length_append] at hr'
        rw [runL]
        dsimp only
        rw [hbr] at hr' ⊢
        rw [hp]
        dsimp only
        rw [if_pos rfl, hr']
theorem layA_ok {vs : List (Int × List Int)} {os : List (Int × Int)} (h : (layA vs os).1 = 0) : os.length ≤ 4096 ∧ vs.length = os.length ∧ layS [] os vs = (0, (layA vs os).2) := by
  unfold layA at h ⊢
  split at h
  · cases h
  · rename_i h1
    split at h
    · cases h
    · rename_i h2
      split at h
      · rename_i h3
        rw [if_neg h1, if_neg h2, if_pos h3]
        exact ⟨by omega, by simpa using h2, by rw [← h3]⟩
      · rename_i h3
        exact absurd h h3
theorem layA_cut {vs : List (Int × List Int)} {os : List (Int × Int)} (h : (layA vs os).1 = 0) (h4 : ∀ o ∈ os, o.1 ≠ 4) (hv : ∀ v ∈ vs, 0 ≤ v.1) (cut : Nat) (hc : cut < (layA vs os).2.length) :
    (runL ((layA vs os).2.take cut) 0 os).2.2 = 10 ∧ (runL ((layA vs os).2.take cut) 0 os).2.1 ≤ cut := by
  obtain ⟨_, hl, hs⟩ := layA_ok h
  have hr := (layS_read os vs [] _ hl.symm h4 hv hs).2 []
  rw [List.append_nil] at hr
  have hlen : ((layA vs os).2.take cut).length = cut := by rw [List.length_take]; omega
  have hle := runL_le ((layA vs os).2.take cut) os 0 (Nat.zero_le _)
  rw [hlen] at hle
  refine ⟨?_, hle⟩
  refine Classical.byContradiction fun hne => ?_
  have hm := runL_more ((layA vs os).2.take cut) ((layA vs os).2.drop cut) os 0 (Nat.zero_le _) h4 hne
  rw [List.take_append_drop] at hm
  have : (runL (layA vs os).2 0 os).2.1 = (layA vs os).2.length := by
    have := hr
    simp only [List.length_nil] at this
    rw [this]
  rw [hm] at this
  omega
theorem layS_app : ∀ (os : List (Int × Int)) (vs : List (Int × List Int)) (acc a : List Int) (ps : List (Int × Int)) (ws : List (Int × List Int)), os.length = vs.length → layS acc os vs = (0, a) → layS acc (os ++ ps) (vs ++ ws) = layS a ps ws
  | [], [], acc, a, ps, ws, _, h => by rw [layS] at h; injection h with _ h; subst h; rfl
  | [], _ :: _, _, _, _, _, h, _ => by simp at h
  | _ :: _, [], _, _, _, _, h, _ => by simp at h
  | o :: os, v :: vs, acc, a, ps, ws, hl, h => by
    rw [layS] at h
    rw [List.cons_append, List.cons_append, layS]
    split at h
    · cases h
    · rename_i hf
      split at h
      · cases h
      · rename_i hm
        rw [if_neg hf, if_neg hm]
        exact layS_app os vs _ a ps ws (by simpa using hl) h
theorem layS_shift : ∀ (ps : List (Int × Int)) (ws : List (Int × List Int)) (acc acc' b : List Int), layS acc ps ws = (0, b) → ∃ more, b = acc ++ more ∧ (acc'.length + more.length ≤ 65535 → layS acc' ps ws = (0, acc' ++ more))
  | [], ws, acc, acc', b, h => by rw [layS] at h; injection h with _ h; subst h; exact ⟨[], by simp, fun _ => by rw [layS, List.append_nil]⟩
  | p :: ps, [], acc, acc', b, h => by rw [layS] at h; injection h with _ h; subst h; exact ⟨[], by simp, fun _ => by rw [layS, List.append_nil]⟩
  | p :: ps, w :: ws, acc, acc', b, h => by
    rw [layS] at h
    split at h
    · cases h
    · rename_i hf
      split at h
      · cases h
      · rename_i hm
        have hf' : fitsP p.1 p.2 w.1 w.2.length = true := by simpa using hf
        obtain ⟨more, hb, hr⟩ := layS_shift ps ws _ (acc' ++ layB p.1 p.2 w.1 w.2) b h
        have hl := layB_len hf'
        refine ⟨layB p.1 p.2 w.1 w.2 ++ more, by rw [hb, List.append_assoc], fun hle => ?_⟩
        rw [List.length_append] at hle
        rw [layS, if_neg hf, if_neg (by omega), hr (by rw [List.length_append]; omega), List.append_assoc]
theorem layA_twice {vs ws : List (Int × List Int)} {os ps : List (Int × Int)} (h : (layA vs os).1 = 0) (h' : (layA ws ps).1 = 0) (h1 : os.length + ps.length ≤ 4096) (h2 : (layA vs os).2.length + (layA ws ps).2.length ≤ 65535) :
    layA (vs ++ ws) (os ++ ps) = (0, (layA vs os).2 ++ (layA ws ps).2) := by
  obtain ⟨_, hl, hs⟩ := layA_ok h
  obtain ⟨_, hl', hs'⟩ := layA_ok h'
  obtain ⟨more, hb, hr⟩ := layS_shift ps ws [] (layA vs os).2 _ hs'
  rw [List.nil_append] at hb
  have e := layS_app os vs [] _ ps ws hl.symm hs
  rw [hr (by rw [← hb]; exact h2), ← hb] at e
  unfold layA at e ⊢
  rw [if_neg (by rw [List.length_append]; omega), if_neg (by simp only [List.length_append]; omega)]
  rw [e]
  rfl
end Go.Proofs.Ytjidoedlmpjmnaa.CurP
namespace Go.Proofs.Ytjidoedlmpjmnaa.CurP
open Go.RowKit Go.Proofs.Ytjidoedlmpjmnaa.Bits
set_option linter.unusedVariables false
set_option linter.unusedSimpArgs false
theorem runL_num {xs : List Int} {a s : Nat} (os : List (Int × Int)) (h1 : 1 ≤ s) (h8 : s ≤ 8) (h : a + s ≤ xs.length) :
    runL xs a ((0, (s : Int)) :: os) = ((numL ((xs.drop a).take s), []) :: (runL xs (a + s) os).1, (runL xs (a + s) os).2) := by
  have hp : pieceR xs a 0 (s : Int) = (0, numL ((xs.drop a).take s), [], a + s) := by
    unfold pieceR; rw [if_pos rfl, if_neg (by omega), if_neg (by omega), Int.toNat_natCast]
  simp only [runL, hp, if_true]
theorem runL_take {xs : List Int} {a s : Nat} (os : List (Int × Int)) (h : a + s ≤ xs.length) :
    runL xs a ((1, (s : Int)) :: os) = ((0, (xs.drop a).take s) :: (runL xs (a + s) os).1, (runL xs (a + s) os).2) := by
  have hp : pieceR xs a 1 (s : Int) = (0, 0, (xs.drop a).take s, a + s) := by
    unfold pieceR; rw [if_neg (by decide), if_pos rfl, if_pos (by unfold wantN; rw [if_neg (by omega), if_neg (by omega)]), Int.toNat_natCast]
  simp only [runL, hp, if_true]
def okOp (o : Int × Int) : Prop := (o.1 = 0 ∧ 1 ≤ o.2 ∧ o.2 ≤ 8) ∨ (o.1 = 1 ∧ 0 ≤ o.2)
/-- Too short. -/
theorem runL_short (xs : List Int) : ∀ (os : List (Int × Int)) (a : Nat), a ≤ xs.length → (∀ o ∈ os, okOp o) → (xs.length : Int) < a + (os.map (·.2)).sum → (runL xs a os).2.2 = 10
  | [], a, ha, _, h => by simp at h; omega
  | (k, s) :: os, a, ha, hok, h => by
    have h0 := hok (k, s) List.mem_cons_self
    have hr : ∀ o ∈ os, okOp o := fun o ho => hok o (List.mem_cons_of_mem _ ho)
    rw [List.map_cons, List.sum_cons] at h
    dsimp only at h
    rcases h0 with ⟨e, h1, h8⟩ | ⟨e, h1⟩
    · dsimp only at e h1 h8
      subst e
      obtain ⟨n, rfl⟩ : ∃ n : Nat, s = (n : Int) := ⟨s.toNat, by omega⟩
      by_cases hf : a + n ≤ xs.length
      · rw [runL_num os (by omega) (by omega) hf]
        exact runL_short xs os (a + n) hf hr (by omega)
      · have hp : pieceR xs a 0 (n : Int) = (10, 0, [], a) := by unfold pieceR; rw [if_pos rfl, if_neg (by omega), if_pos (by omega)]
        simp only [runL, hp]; rfl
    · dsimp only at e h1
      subst e
      obtain ⟨n, rfl⟩ : ∃ n : Nat, s = (n : Int) := ⟨s.toNat, by omega⟩
      by_cases hf : a + n ≤ xs.length
      · rw [runL_take os hf]
        exact runL_short xs os (a + n) hf hr (by omega)
      · have hw : wantN xs a (n : Int) = 10 := by unfold wantN; rw [if_neg (by omega), if_pos (by omega)]
        have hp : pieceR xs a 1 (n : Int) = (10, 0, [], a) := by unfold pieceR; rw [if_neg (by decide), if_pos rfl, if_neg (by rw [hw]; decide), hw]
        simp only [runL, hp]; rfl
theorem numL1 {xs : List Int} {a : Nat} (h : a + 1 ≤ xs.length) : numL ((xs.drop a).take 1) = xs.getD a 0 := by
  rw [List.drop_eq_getElem_cons (by omega), List.take_succ_cons, List.take_zero, List.getD_eq_getElem?_getD, List.getElem?_eq_getElem (by omega)]
  simp [numL]
theorem numL2 {xs : List Int} {a : Nat} (h : a + 2 ≤ xs.length) : numL ((xs.drop a).take 2) = xs.getD a 0 * 256 + xs.getD (a + 1) 0 := by
  rw [List.drop_eq_getElem_cons (by omega), List.take_succ_cons, List.drop_eq_getElem_cons (by omega), List.take_succ_cons, List.take_zero, List.getD_eq_getElem?_getD, List.getElem?_eq_getElem (by omega), List.getD_eq_getElem?_getD, List.getElem?_eq_getElem (by omega)]
  simp [numL]
theorem numL4 {xs : List Int} {a : Nat} (h : a + 4 ≤ xs.length) : numL ((xs.drop a).take 4) = ((xs.getD a 0 * 256 + xs.getD (a + 1) 0) * 256 + xs.getD (a + 2) 0) * 256 + xs.getD (a + 3) 0 := by
  rw [List.drop_eq_getElem_cons (by omega), List.take_succ_cons, List.drop_eq_getElem_cons (by omega), List.take_succ_cons, List.drop_eq_getElem_cons (by omega), List.take_succ_cons, List.drop_eq_getElem_cons (by omega), List.take_succ_cons, List.take_zero]
  simp only [List.getD_eq_getElem?_getD]
  rw [List.getElem?_eq_getElem (by omega), List.getElem?_eq_getElem (by omega), List.getElem?_eq_getElem (by omega), List.getElem?_eq_getElem (by omega)]
  simp [numL]
end Go.Proofs.Ytjidoedlmpjmnaa.CurP
