/- What Run keeps while it runs. -/
import Derived.Test.YtcmibbhfocfccaaCurA
import Derived.Test.YtcmibbhfocfccaaRegionI
import Derived.Test.YtcmibbhfocfccaaWApart
namespace Go.Proofs.Ytcmibbhfocfccaa.Cur
open Go.RowKit Go.Proofs.Ytcmibbhfocfccaa.Segs Go.Proofs.Ytcmibbhfocfccaa.Own Go.Proofs.Ytcmibbhfocfccaa.CurP Go.Proofs.Ytcmibbhfocfccaa.Mem Go.Proofs.Ytcmibbhfocfccaa.Bits Go.Proofs.Ytcmibbhfocfccaa.Help Go.Proofs.YtcmibbhfocfccaaW.PrintWords Go.Proofs.YtcmibbhfocfccaaW.PrintLast Go.Proofs.YtcmibbhfocfccaaW.PrintMore
set_option linter.unusedVariables false
set_option linter.unusedSimpArgs false
/-- An operation's kind and size, as they lie; a value's number and bytes. -/
def dO : Kd (Int × Int) := Kd.pair (Kd.int .i64) (Kd.int .i64)
def dV : Kd (Int × List Int) := Kd.pair (Kd.int .u64) (Kd.slice 5 (Kd.int .u8))
theorem load_at {P : Program} {W : World} {ty : TypeId} {ad : Addr} {cs : List Value} {d : TypeDesc} {n : Nat} (hc : ∀ j v, cs[j]? = some v → W.cell? (ad.add j) = some v)
    (hu : P.underlying ty = some d) (hd : d.isRow = true) (hi : (P.info? ty).map (·.size) = some n) (hn : cs.length = n) : (loadVar ty ad).run P W = .ok (.agg cs.toArray) W := by
  have hl := run_loadCells_list (P := P) (w := W) ad cs hc
  cases hq : P.info? ty with
  | none => simp [hq] at hi
  | some i =>
    have hs : i.size = cs.length := by rw [hn]; simpa [hq] using hi
    have hg : (isAgg ty).run P W = .ok true W := by
      unfold isAgg
      rw [Sem.run_bind, run_underlying hu W]
      cases d <;> simp_all
    simp [loadVar, Sem.run_bind, hg, sizeOf, typeInfo, hq, hs, hl]
theorem infoO : (Try.prog.info? 53).map (·.size) = some 2 := by kernel_rfl
theorem op_load {w : World} {A : Option Addr} {l : List (Int × Int)} (h : dO.C w A l.length l) (i : Nat) (hi : i < l.length) :
    ∃ ad, A = some ad ∧ (loadVar 53 (ad.add (i * 2))).run Try.prog w = .ok (.agg #[.int .i64 (l.getD i (0, 0)).1, .int .i64 (l.getD i (0, 0)).2]) w := by
  obtain ⟨ad, c, h1, h2, h3, h4⟩ := Kd.C_get h (0, 0) (i : Int) (by omega) (by omega)
  obtain ⟨c0, c1, rfl, h5, h6⟩ := h3
  rw [Int.toNat_natCast] at *
  have h5' : c0 = [.int .i64 (l.getD i (0, 0)).1] := h5
  have h6' : c1 = [.int .i64 (l.getD i (0, 0)).2] := h6
  subst h5' h6'
  refine ⟨ad, h1, load_at (cs := [_, _]) (fun j v hj => ?_) Try.underlying53 rfl infoO rfl⟩
  have := h4 j v hj
  rw [Deep.add_add]
  exact this
/-- A value made from base on. -/
theorem val_M {W : World} {base : Nat} {v : Value} {B : List Int} {N : Int} (h : Owns W base v B) : dV.M W base (fun k => base ≤ k) (N, B) [.int .u64 N, v] :=
  ⟨[.int .u64 N], [v], rfl, rfl, v, rfl, fun k hk => own_base h k hk, _, h, Kd.reps_scalar B⟩
structure RunF (w0 W : World) (go gt g ge : Nat) (A : Option Addr) (c : Nat) (xs : List Int) (v : Value) (vs : List (Int × List Int)) (at_ : Nat) : Prop where
  out : W.heap[go]? = some (.cells #[v] 25 (0, 0))
  t : W.heap[gt]? = some (.cells #[.pointer (some ⟨g, 0, none⟩)] 59 (0, 0))
  er : W.heap[ge]? = some (.cells #[.int .i64 0] 26 (0, 0))
  tape : Tape W g A c xs at_
  rd : Kd.C (Kd.int .u8) w0 A xs.length xs
  row : Kd.S dV 40 W w0.heap.size (fun _ => True) v vs
  b : Below w0.heap.size w0 W
  lo : w0.heap.size ≤ g
theorem RunF.below {w0 W W1 : World} {go gt g ge : Nat} {A : Option Addr} {c : Nat} {xs : List Int} {v : Value} {vs : List (Int × List Int)} {at_ : Nat} (h : RunF w0 W go gt g ge A c xs v vs at_) (hB : Below W.heap.size W W1) : RunF w0 W1 go gt g ge A c xs v vs at_ :=
  ⟨blk_below h.out hB, blk_below h.t hB, blk_below h.er hB, h.tape.below hB, h.rd, Kd.S_below h.row hB, below_step h.b hB, h.lo⟩
/-- A piece has been read. -/
theorem RunF.read {w0 W W1 : World} {go gt g ge : Nat} {A : Option Addr} {c : Nat} {xs : List Int} {v : Value} {vs : List (Int × List Int)} {at_ at' : Nat} (h : RunF w0 W go gt g ge A c xs v vs at_) (hT : Tape W1 g A c xs at') {row : Option Nat} (hr : row = none ∨ row = some g) (hg : W.grownBy W1 row) :
    RunF w0 W1 go gt g ge A c xs v vs at' := by
  have hg' : W.grownBy W1 (some g) := by
    rcases hr with rfl | rfl
    · exact grown0_any hg _
    · exact hg
  have hB : Below w0.heap.size w0 W1 := h.b.grown hg' h.b.size (fun k hk => by injection hk with hk; have := h.lo; omega)
  exact ⟨blk_grown h.out hg' (by simpa using blk_ne h.out h.tape.b (by decide)), blk_grown h.t hg' (by simpa using blk_ne h.t h.tape.b (by decide)), blk_grown h.er hg' (by simpa using blk_ne h.er h.tape.b (by decide)), hT, h.rd,
    Kd.S_mono (Kd.S_grown (Kd.S_types h.row h.tape.b (by decide)) hg' (fun k hk => by simpa using hk.2)) (fun _ _ => trivial), hB, h.lo⟩
/-- A value has been laid behind the others, and the row put where it belongs. -/
theorem RunF.put {w0 W W1 : World} {go gt g ge : Nat} {A : Option Addr} {c : Nat} {xs : List Int} {v v1 : Value} {vs vs1 : List (Int × List Int)} {at_ : Nat} (h : RunF w0 W go gt g ge A c xs v vs at_) (hg : W.grownBy W1 v.ownBlock) (hS : Kd.S dV 40 W1 w0.heap.size (fun _ => True) v1 vs1) (hB : Below w0.heap.size w0 W1) (hlo : w0.heap.size ≤ go) :
    RunF w0 (W1.setCell ⟨go, 0, none⟩ v1) go gt g ge A c xs v1 vs1 at_ := by
  have ho := blk_grown h.out hg (Kd.S_ne h.row h.out (by decide))
  have ht := blk_grown h.t hg (Kd.S_ne h.row h.t (by decide))
  have he := blk_grown h.er hg (Kd.S_ne h.row h.er (by decide))
  have hb := blk_grown h.tape.b hg (Kd.S_ne h.row h.tape.b (by decide))
  have hB2 : Below w0.heap.size w0 (W1.setCell ⟨go, 0, none⟩ v1) := hB.grown (setCells_grown W1 go [v1] 0) hB.size (fun k hk => by injection hk with hk; omega)
  refine ⟨?_, blk_far ht (by simpa using blk_ne ht ho (by decide)) _, blk_far he (by simpa using blk_ne he ho (by decide)) _, ⟨blk_far hb (by simpa using blk_ne hb ho (by decide)) _, Kd.C_below h.rd hB2, h.tape.le, h.tape.cap, h.tape.c63⟩, h.rd, Kd.S_set hS ho (by decide) 0 v1, hB2, h.lo⟩
  exact blk_set ho 0 v1
end Go.Proofs.Ytcmibbhfocfccaa.Cur
