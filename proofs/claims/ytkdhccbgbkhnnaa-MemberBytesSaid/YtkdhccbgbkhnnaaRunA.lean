/- RunA: CurW6, CurW7, CurW8. -/
import Derived.Test.YtkdhccbgbkhnnaaCurA
import Derived.Test.YtkdhccbgbkhnnaaCurT
import Derived.Test.YtkdhccbgbkhnnaaRegionI
import Derived.Test.YtkdhccbgbkhnnaaWApart
import Derived.OwnWalk
namespace Go.Proofs.Ytkdhccbgbkhnnaa.Cur
open Go.RowKit Go.Proofs.Ytkdhccbgbkhnnaa.Segs Go.Proofs.Ytkdhccbgbkhnnaa.Own Go.Proofs.Ytkdhccbgbkhnnaa.CurP Go.Proofs.Ytkdhccbgbkhnnaa.Mem Go.Proofs.Ytkdhccbgbkhnnaa.Bits Go.Proofs.Ytkdhccbgbkhnnaa.Help Go.Proofs.YtkdhccbgbkhnnaaW.PrintWords Go.Proofs.YtkdhccbgbkhnnaaW.PrintLast Go.Proofs.YtkdhccbgbkhnnaaW.PrintMore
set_option linter.unusedVariables false
set_option linter.unusedSimpArgs false
structure RunF (w0 W : World) (go gt g ge : Nat) (A : Option Addr) (c : Nat) (xs : List Int) (v : Value) (vs : List (Int × List Int)) (at_ : Nat) : Prop where
  out : W.heap[go]? = some (.cells #[v] 98 (0, 0))
  t : W.heap[gt]? = some (.cells #[.pointer (some ⟨g, 0, none⟩)] 127 (0, 0))
  er : W.heap[ge]? = some (.cells #[.int .i64 0] 35 (0, 0))
  tape : Tape W g A c xs at_
  rd : Kd.C (Kd.int .u8) w0 A xs.length xs
  row : Kd.S dV 97 W w0.heap.size (fun _ => True) v vs
  b : Below w0.heap.size w0 W
  lo : w0.heap.size ≤ g
theorem RunF.below {w0 W W1 : World} {go gt g ge : Nat} {A : Option Addr} {c : Nat} {xs : List Int} {v : Value} {vs : List (Int × List Int)} {at_ : Nat} (h : RunF w0 W go gt g ge A c xs v vs at_) (hB : Below W.heap.size W W1) : RunF w0 W1 go gt g ge A c xs v vs at_ :=
  ⟨blk_below h.out hB, blk_below h.t hB, blk_below h.er hB, h.tape.below hB, h.rd, Kd.S_below h.row hB, below_step h.b hB, h.lo⟩
/-- A piece has been read. -/
theorem RunF.read {w0 W W1 : World} {go gt g ge : Nat} {A : Option Addr} {c : Nat} {xs : List Int} {v : Value} {vs : List (Int × List Int)} {at_ at' : Nat} (h : RunF w0 W go gt g ge A c xs v vs at_) (hT : Tape W1 g A c xs at') {row : Option Nat} (hr : row = none ∨ row = some g) (hg : W.grownBy W1 row) :
    RunF w0 W1 go gt g ge A c xs v vs at' := by
  have hg' : W.grownBy W1 (some g) := by
    rcases hr with rfl | rfl
    · exact grown0_any hg _
    · exact hg
  have hB : Below w0.heap.size w0 W1 := h.b.grown hg' h.b.size (fun k hk => by injection hk with hk; have := h.lo; omega)
  exact ⟨blk_grown h.out hg' (by simpa using blk_ne h.out h.tape.b (by decide)), blk_grown h.t hg' (by simpa using blk_ne h.t h.tape.b (by decide)), blk_grown h.er hg' (by simpa using blk_ne h.er h.tape.b (by decide)), hT, h.rd,
    Kd.S_mono (Kd.S_grown (Kd.S_types h.row h.tape.b (by decide)) hg' (fun k hk => by simpa using hk.2)) (fun _ _ => trivial), hB, h.lo⟩
/-- A value has been laid behind the others, and the row put where it belongs. -/
theorem RunF.put {w0 W W1 : World} {go gt g ge : Nat} {A : Option Addr} {c : Nat} {xs : List Int} {v v1 : Value} {vs vs1 : List (Int × List Int)} {at_ : Nat} (h : RunF w0 W go gt g ge A c xs v vs at_) (hg : W.grownBy W1 v.ownBlock) (hS : Kd.S dV 97 W1 w0.heap.size (fun _ => True) v1 vs1) (hB : Below w0.heap.size w0 W1) (hlo : w0.heap.size ≤ go) :
    RunF w0 (W1.setCell ⟨go, 0, none⟩ v1) go gt g ge A c xs v1 vs1 at_ := by
  have ho := blk_grown h.out hg (Kd.S_ne h.row h.out (by decide))
  have ht := blk_grown h.t hg (Kd.S_ne h.row h.t (by decide))
  have he := blk_grown h.er hg (Kd.S_ne h.row h.er (by decide))
  have hb := blk_grown h.tape.b hg (Kd.S_ne h.row h.tape.b (by decide))
  have hB2 : Below w0.heap.size w0 (W1.setCell ⟨go, 0, none⟩ v1) := hB.grown (setCells_grown W1 go [v1] 0) hB.size (fun k hk => by injection hk with hk; omega)
  refine ⟨?_, blk_far ht (by simpa using blk_ne ht ho (by decide)) _, blk_far he (by simpa using blk_ne he ho (by decide)) _, ⟨blk_far hb (by simpa using blk_ne hb ho (by decide)) _, Kd.C_below h.rd hB2, h.tape.le, h.tape.cap, h.tape.c63⟩, h.rd, Kd.S_set hS ho (by decide) 0 v1, hB2, h.lo⟩
  exact blk_set ho 0 v1
end Go.Proofs.Ytkdhccbgbkhnnaa.Cur
namespace Go.Proofs.Ytkdhccbgbkhnnaa.Cur
open Go.RowKit Go.Proofs.Ytkdhccbgbkhnnaa.Segs Go.Proofs.Ytkdhccbgbkhnnaa.Own Go.Proofs.Ytkdhccbgbkhnnaa.CurP Go.Proofs.Ytkdhccbgbkhnnaa.Mem Go.Proofs.Ytkdhccbgbkhnnaa.Bits Go.Proofs.Ytkdhccbgbkhnnaa.Help Go.Proofs.YtkdhccbgbkhnnaaW.PrintWords Go.Proofs.YtkdhccbgbkhnnaaW.PrintLast Go.Proofs.YtkdhccbgbkhnnaaW.PrintMore
set_option linter.unusedVariables false
set_option linter.unusedSimpArgs false
def Loads (go gt g4 : Nat) (v : Value) (g : Nat) (k s : Int) (W : World) : Prop :=
  (loadVar 98 ⟨go, 0, none⟩).run Try.prog W = .ok v W ∧ (loadVar 127 ⟨gt, 0, none⟩).run Try.prog W = .ok (.pointer (some ⟨g, 0, none⟩)) W ∧ (loadVar 94 ⟨g4, 0, none⟩).run Try.prog W = .ok (.agg #[.int .i64 k, .int .i64 s]) W
theorem loads_of {W : World} {go gt g4 g : Nat} {v : Value} {k s : Int} (h1 : W.heap[go]? = some (.cells #[v] 98 (0, 0))) (h2 : W.heap[gt]? = some (.cells #[.pointer (some ⟨g, 0, none⟩)] 127 (0, 0))) (h3 : W.heap[g4]? = some (.cells #[.int .i64 k, .int .i64 s] 94 (0, 0))) :
    Loads go gt g4 v g k s W :=
  ⟨load_one (blk_cell h1 0) Try.underlying98 rfl, load_one (blk_cell h2 0) Try.underlying127 rfl,
   seg_whole (segs := [[.int .i64 k], [.int .i64 s]]) h3 Try.underlying94 rfl infoO rfl⟩
theorem runL_cons (xs : List Int) (at_ : Nat) (o : Int × Int) (os : List (Int × Int)) (h : (pieceR xs at_ o.1 o.2).1 = 0) :
    runL xs at_ (o :: os) = (((pieceR xs at_ o.1 o.2).2.1, (pieceR xs at_ o.1 o.2).2.2.1) :: (runL xs (pieceR xs at_ o.1 o.2).2.2.2 os).1, (runL xs (pieceR xs at_ o.1 o.2).2.2.2 os).2) := by
  rw [runL]; simp only [h, ↓reduceIte]
theorem runL_stop (xs : List Int) (at_ : Nat) (o : Int × Int) (os : List (Int × Int)) (h : (pieceR xs at_ o.1 o.2).1 ≠ 0) :
    runL xs at_ (o :: os) = ([], at_, (pieceR xs at_ o.1 o.2).1) := by
  rw [runL]; simp only [h, ↓reduceIte]
/-- What Run leaves. -/
def RunE (w0 : World) (go gt g ge : Nat) (A : Option Addr) (c : Nat) (xs : List Int) (l : List (Int × Int)) (k : Int) (W : World) : Prop :=
  ∃ v, RunF w0 W go gt g ge A c xs v (runL xs 0 l).1 (runL xs 0 l).2.1 ∧ k = (runL xs 0 l).2.2
/-- How far it has come. -/
def RunS (w0 W : World) (go gt g ge : Nat) (A : Option Addr) (c : Nat) (xs : List Int) (l : List (Int × Int)) (i : Nat) : Prop :=
  ∃ v vs at_, RunF w0 W go gt g ge A c xs v vs at_ ∧ runL xs 0 l = (vs ++ (runL xs at_ (l.drop i)).1, (runL xs at_ (l.drop i)).2) ∧ vs.length = i
end Go.Proofs.Ytkdhccbgbkhnnaa.Cur
namespace Go.Proofs.Ytkdhccbgbkhnnaa.Cur
open Go.RowKit Go.Proofs.Ytkdhccbgbkhnnaa.Segs Go.Proofs.Ytkdhccbgbkhnnaa.Own Go.Proofs.Ytkdhccbgbkhnnaa.CurP Go.Proofs.Ytkdhccbgbkhnnaa.Mem Go.Proofs.Ytkdhccbgbkhnnaa.Bits Go.Proofs.Ytkdhccbgbkhnnaa.Help Go.Proofs.YtkdhccbgbkhnnaaW.PrintWords Go.Proofs.YtkdhccbgbkhnnaaW.PrintLast Go.Proofs.YtkdhccbgbkhnnaaW.PrintMore
set_option linter.unusedVariables false
set_option linter.unusedSimpArgs false
def RunPost (w : World) (xs : List Int) (l : List (Int × Int)) (e : Ending) (w' : World) : Prop :=
  ∃ v, e = .returned (.tuple #[v, .int .i64 ((runL xs 0 l).2.1 : Nat), .int .i64 (runL xs 0 l).2.2]) ∧ Kd.S dV 97 w' w.heap.size (fun _ => True) v (runL xs 0 l).1 ∧ Below w.heap.size w w'
end Go.Proofs.Ytkdhccbgbkhnnaa.Cur
