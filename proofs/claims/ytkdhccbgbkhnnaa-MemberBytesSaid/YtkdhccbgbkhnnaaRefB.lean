/- RefB: RefW7, RefW8, RefW9. -/
import Derived.Test.YtkdhccbgbkhnnaaRefA
import Derived.Test.YtkdhccbgbkhnnaaCurW10
import Derived.OwnWalk
import Derived.Deep.CutBlock
import Derived.Deep.CutRange
namespace Go.Proofs.Ytkdhccbgbkhnnaa.Cur
open Go.RowKit Go.Proofs.Ytkdhccbgbkhnnaa.Segs Go.Proofs.Ytkdhccbgbkhnnaa.Own Go.Proofs.Ytkdhccbgbkhnnaa.CurP Go.Proofs.Ytkdhccbgbkhnnaa.Mem Go.Proofs.Ytkdhccbgbkhnnaa.Bits Go.Proofs.Ytkdhccbgbkhnnaa.Help Go.Proofs.YtkdhccbgbkhnnaaW.PrintWords Go.Proofs.YtkdhccbgbkhnnaaW.PrintLast Go.Proofs.YtkdhccbgbkhnnaaW.PrintMore
set_option linter.unusedVariables false
set_option linter.unusedSimpArgs false
/-- wB: the world that the Reader's block was made in; all else is made behind it. -/
structure RefF (wB W : World) (B : Option Addr) (d : Nat) (xs : List Int) (v : Value) (vs : List (Int × List Int)) (at_ : Nat) (e : Int) : Prop where
  rd : RefR W wB.heap.size B d xs at_ e
  row : Kd.S dV 106 W wB.heap.size (fun _ => True) v vs
  b : Below wB.heap.size wB W
  r : Kd.C (Kd.int .u8) wB B xs.length xs
theorem RefF.below {wB W W1 : World} {B : Option Addr} {d : Nat} {xs : List Int} {v : Value} {vs : List (Int × List Int)} {at_ : Nat} {e : Int} (h : RefF wB W B d xs v vs at_ e) (hB : Below W.heap.size W W1) : RefF wB W1 B d xs v vs at_ e :=
  ⟨h.rd.below hB, Kd.S_below h.row hB, below_step h.b hB, h.r⟩
end Go.Proofs.Ytkdhccbgbkhnnaa.Cur
namespace Go.Proofs.Ytkdhccbgbkhnnaa.Cur
open Go.RowKit Go.Proofs.Ytkdhccbgbkhnnaa.Segs Go.Proofs.Ytkdhccbgbkhnnaa.Own Go.Proofs.Ytkdhccbgbkhnnaa.CurP Go.Proofs.Ytkdhccbgbkhnnaa.Mem Go.Proofs.Ytkdhccbgbkhnnaa.Bits Go.Proofs.Ytkdhccbgbkhnnaa.Help Go.Proofs.YtkdhccbgbkhnnaaW.PrintWords Go.Proofs.YtkdhccbgbkhnnaaW.PrintLast Go.Proofs.YtkdhccbgbkhnnaaW.PrintMore
set_option linter.unusedVariables false
set_option linter.unusedSimpArgs false
def RefRunPost (w : World) (xs : List Int) (l : List (Int × Int)) (e : Ending) (w' : World) : Prop :=
  ∃ v, e = .returned (.tuple #[v, .int .i64 ((runL xs 0 l).2.1 : Nat), .int .i64 (runL xs 0 l).2.2]) ∧ Kd.S dV 106 w' w.heap.size (fun _ => True) v (runL xs 0 l).1 ∧ Below w.heap.size w w'
def RefS (wB W : World) (B : Option Addr) (d : Nat) (xs : List Int) (v : Value) (l : List (Int × Int)) (i : Nat) : Prop :=
  ∃ vs at_, RefF wB W B d xs v vs at_ 0 ∧ runL xs 0 l = (vs ++ (runL xs at_ (l.drop i)).1, (runL xs at_ (l.drop i)).2) ∧ vs.length = i
/-- While a round runs; hs: the memory's size when it began. -/
structure RefP (wB W : World) (B : Option Addr) (d : Nat) (xs : List Int) (v : Value) (vs : List (Int × List Int)) (hs at_ : Nat) (e : Int) : Prop where
  rd : RefR W wB.heap.size B d xs at_ e
  row : Kd.S dV 106 W wB.heap.size (fun q => q < hs ∧ q ≠ wB.heap.size) v vs
  b : Below wB.heap.size wB W
  r : Kd.C (Kd.int .u8) wB B xs.length xs
  sz : hs ≤ W.heap.size
  h0 : wB.heap.size < hs
section
variable {wB W W1 : World} {gv : Nat} {B : Option Addr} {d : Nat} {xs : List Int} {v : Value} {vs : List (Int × List Int)} {hs at_ at' j : Nat} {e e' : Int} {cs : Array Value}
theorem RefF.start (h : RefF wB W B d xs v vs at_ e) (o : Obj) : RefP wB (W.alloc o) B d xs v vs W.heap.size at_ e :=
  ⟨h.rd.below (below_alloc (Below.refl _ _) o), Kd.S_alloc (Kd.S_mono (Kd.S_bound (Kd.S_types h.row h.rd.b (by decide))) (fun q hq => ⟨hq.2.2.1, hq.1.2⟩)) o, below_alloc h.b o, h.r, by rw [alloc_size]; omega, blk_lt h.rd.b⟩
theorem RefP.used (h : RefP wB W B d xs v vs hs at_ e) (hR : RefR W1 wB.heap.size B d xs at' e') (hg : W.grownBy W1 (some wB.heap.size)) : RefP wB W1 B d xs v vs hs at' e' :=
  ⟨hR, Kd.S_grown h.row hg (fun q hq => by simpa using hq.2), h.b.grown hg h.b.size (fun k hk => by injection hk with hk; omega), h.r, Nat.le_trans h.sz hg.size, h.h0⟩
theorem RefP.drewN (h : RefP wB W B d xs v vs hs at_ e) (n : Nat) : RefP wB (W.drewN n) B d xs v vs hs at_ e := h.used (h.rd.drewN n) (grown_drewN W n _)
/-- The piece's own value is written. -/
theorem RefP.val (h : RefP wB W B d xs v vs hs at_ e) (hb : W.heap[gv]? = some (.cells cs 106 (0, 0))) (hgv : hs ≤ gv) (j : Nat) (u : Value) : RefP wB (W.setCell ⟨gv, j, none⟩ u) B d xs v vs hs at_ e :=
  have hg := setCells_grown W gv [u] j
  have hB : Below wB.heap.size wB (W.setCell ⟨gv, j, none⟩ u) := h.b.grown hg h.b.size (fun k hk => by injection hk with hk; have := h.h0; omega)
  ⟨⟨blk_far h.rd.b (by simpa using blk_ne h.rd.b hb (by decide)) _, Kd.C_below h.r hB, h.rd.le, h.rd.cap⟩, Kd.S_grown h.row hg (fun q hq => by have := hq.1; simp; omega), hB, h.r, Nat.le_trans h.sz hg.size, h.h0⟩
/-- What a round comes to ahead of its end. -/
def RefQ (wB W : World) (gv : Nat) (B : Option Addr) (d : Nat) (xs : List Int) (v : Value) (vs : List (Int × List Int)) (hs at_ : Nat) (k s : Int) : Prop :=
  if (pieceR xs at_ k s).1 = 0 then ∃ u, W.heap[gv]? = some (.cells #[.int .u64 (pieceR xs at_ k s).2.1, u] 106 (0, 0)) ∧ Owns W hs u (pieceR xs at_ k s).2.2.1 ∧ RefP wB W B d xs v vs hs (pieceR xs at_ k s).2.2.2 0
  else RefP wB W B d xs v vs hs at_ (pieceR xs at_ k s).1
theorem RefQ.yes {k s N : Int} {bs : List Int} {u : Value} (hp : pieceR xs at_ k s = (0, N, bs, at')) (h : W.heap[gv]? = some (.cells #[.int .u64 N, u] 106 (0, 0))) (hO : Owns W hs u bs) (hP : RefP wB W B d xs v vs hs at' 0) : RefQ wB W gv B d xs v vs hs at_ k s := by
  unfold RefQ; rw [hp, if_pos rfl]; exact ⟨u, h, hO, hP⟩
theorem RefQ.no {k s e : Int} (hp : (pieceR xs at_ k s).1 = e) (he : e ≠ 0) (hP : RefP wB W B d xs v vs hs at_ e) : RefQ wB W gv B d xs v vs hs at_ k s := by
  unfold RefQ; rw [hp, if_neg he]; exact hP
end
/-! plain -/
theorem fitsE_want (xs : List Int) (at_ : Nat) (s : Int) : fitsE xs at_ 0 s (decide (0 ≤ s)) = wantN xs at_ s := by
  unfold fitsE wantN
  by_cases h : s < 0
  · simp [h]
  · simp [h, show 0 ≤ s by omega]
theorem want_zero {xs : List Int} {at_ : Nat} {s : Int} (h : wantN xs at_ s = 0) : 0 ≤ s ∧ (at_ : Int) + s ≤ xs.length := by
  unfold wantN at h
  split at h
  · omega
  · split at h <;> omega
theorem num_no {xs : List Int} {at_ : Nat} {s : Int} (h : fitsE xs at_ 0 s (decide (1 ≤ s) && decide (s ≤ 8)) ≠ 0) : (pieceR xs at_ 0 s).1 = fitsE xs at_ 0 s (decide (1 ≤ s) && decide (s ≤ 8)) := by
  unfold pieceR fitsE at *
  by_cases h1 : s < 1
  · have d1 : decide (1 ≤ s) = false := by simp; omega
    simp [h1, d1]
  · by_cases h8 : s > 8
    · have d1 : decide (s ≤ 8) = false := by simp; omega
      simp [h8, d1]
    · have d1 : decide (1 ≤ s) = true := by simp; omega
      have d8 : decide (s ≤ 8) = true := by simp; omega
      by_cases hh : s > (xs.length : Int) - at_
      · simp [hh, h1, h8, d1, d8]
      · simp [hh, d1, d8] at h
theorem num_yes {xs : List Int} {at_ : Nat} {s : Int} (h : fitsE xs at_ 0 s (decide (1 ≤ s) && decide (s ≤ 8)) = 0) : 1 ≤ s ∧ s ≤ 8 ∧ (at_ : Int) + s ≤ xs.length ∧ pieceR xs at_ 0 s = (0, numL ((xs.drop at_).take s.toNat), [], at_ + s.toNat) := by
  unfold fitsE at h
  rw [if_neg (by decide)] at h
  split at h
  · omega
  · rename_i hb
    have hb' : 1 ≤ s ∧ s ≤ 8 := by
      rw [Bool.not_eq_false, Bool.and_eq_true] at hb
      simpa using hb
    split at h
    · omega
    · refine ⟨hb'.1, hb'.2, by omega, ?_⟩
      unfold pieceR
      rw [if_pos rfl, if_neg (by omega), if_neg (by omega)]
theorem piece1_no {xs : List Int} {at_ : Nat} {k s : Int} (hk : k = 1 ∨ k = 2 ∨ k = 3) (h : wantN xs at_ s ≠ 0) : (pieceR xs at_ k s).1 = wantN xs at_ s := by
  unfold pieceR
  rcases hk with rfl | rfl | rfl
  · rw [if_neg (by decide), if_pos rfl, if_neg h]
  · rw [if_neg (by decide), if_neg (by decide), if_pos rfl, if_neg h]
  · rw [if_neg (by decide), if_neg (by decide), if_neg (by decide), if_pos rfl, if_neg h]
theorem piece1_yes {xs : List Int} {at_ : Nat} {s : Int} (h : wantN xs at_ s = 0) : pieceR xs at_ 1 s = (0, 0, (xs.drop at_).take s.toNat, at_ + s.toNat) := by
  unfold pieceR
  rw [if_neg (by decide), if_pos rfl, if_pos h]
theorem piece2_yes {xs : List Int} {at_ : Nat} {s : Int} (h : wantN xs at_ s = 0) : pieceR xs at_ 2 s = (0, 0, [], at_ + s.toNat) := by
  unfold pieceR
  rw [if_neg (by decide), if_neg (by decide), if_pos rfl, if_pos h]
theorem piece3_yes {xs : List Int} {at_ : Nat} {s : Int} (h : wantN xs at_ s = 0) (hz : ((xs.drop at_).take s.toNat).all (· == 0) = true) : pieceR xs at_ 3 s = (0, 0, [], at_ + s.toNat) := by
  unfold pieceR
  rw [if_neg (by decide), if_neg (by decide), if_neg (by decide), if_pos rfl, if_pos h, if_pos hz]
theorem piece3_form {xs : List Int} {at_ : Nat} {s : Int} (h : wantN xs at_ s = 0) (hz : ((xs.drop at_).take s.toNat).all (· == 0) = false) : (pieceR xs at_ 3 s).1 = 11 := by
  unfold pieceR
  rw [if_neg (by decide), if_neg (by decide), if_neg (by decide), if_pos rfl, if_pos h, if_neg (by simp [hz])]
theorem piece4_yes (xs : List Int) (at_ : Nat) : pieceR xs at_ 4 0 = (0, 0, xs.drop at_, xs.length) := by
  unfold pieceR
  rw [if_neg (by decide), if_neg (by decide), if_neg (by decide), if_neg (by decide), if_pos ⟨rfl, rfl⟩]
theorem piece4_no {xs : List Int} {at_ : Nat} {k s : Int} (h0 : k ≠ 0) (h1 : k ≠ 1) (h2 : k ≠ 2) (h3 : k ≠ 3) (h : ¬ (k = 4 ∧ s = 0)) : (pieceR xs at_ k s).1 = 1 := by
  unfold pieceR
  rw [if_neg h0, if_neg h1, if_neg h2, if_neg h3, if_neg h]
end Go.Proofs.Ytkdhccbgbkhnnaa.Cur
namespace Go.Proofs.Ytkdhccbgbkhnnaa.Cur
open Go.RowKit Go.Proofs.Ytkdhccbgbkhnnaa.Segs Go.Proofs.Ytkdhccbgbkhnnaa.Own Go.Proofs.Ytkdhccbgbkhnnaa.CurP Go.Proofs.Ytkdhccbgbkhnnaa.Mem Go.Proofs.Ytkdhccbgbkhnnaa.Bits Go.Proofs.Ytkdhccbgbkhnnaa.Help Go.Proofs.YtkdhccbgbkhnnaaW.PrintWords Go.Proofs.YtkdhccbgbkhnnaaW.PrintLast Go.Proofs.YtkdhccbgbkhnnaaW.PrintMore
set_option linter.unusedVariables false
set_option linter.unusedSimpArgs false
set_option maxRecDepth 10000
theorem ref_put {wB W w2 : World} {B : Option Addr} {d : Nat} {xs : List Int} {v v1 : Value} {vs vs1 : List (Int × List Int)} {hs at_ : Nat} (h : RefP wB W B d xs v vs hs at_ 0) (hS : Kd.S dV 106 w2 wB.heap.size (fun _ => True) v1 vs1) (hB : Below wB.heap.size wB w2) (hg : W.grownBy w2 v.ownBlock) : RefF wB w2 B d xs v1 vs1 at_ 0 :=
  ⟨⟨blk_grown h.rd.b hg (Kd.S_ne h.row h.rd.b (by decide)), Kd.C_below h.r hB, h.rd.le, h.rd.cap⟩, hS, hB, h.r⟩
end Go.Proofs.Ytkdhccbgbkhnnaa.Cur
