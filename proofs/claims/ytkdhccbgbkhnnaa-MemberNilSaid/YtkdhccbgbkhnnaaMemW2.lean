/- A view in memory; New, Get. -/
import Derived.Test.YtkdhccbgbkhnnaaMemW1
namespace Go.Proofs.Ytkdhccbgbkhnnaa.Memb
open Go.RowKit Go.Proofs.Ytkdhccbgbkhnnaa.MapI Go.Proofs.Ytkdhccbgbkhnnaa.Mem Go.Proofs.Ytkdhccbgbkhnnaa.Help Go.Proofs.YtkdhccbgbkhnnaaW.PrintWords Go.Proofs.YtkdhccbgbkhnnaaW.PrintLast Go.Proofs.YtkdhccbgbkhnnaaW.PrintMore
set_option linter.unusedVariables false
set_option linter.unusedSimpArgs false
theorem exec_mapUpdate {P : Program} {o : Oper} {a : Act} {W w1 : World} {M X V : Value} {t : TypeId} {m x v : Operand} (ho : o.op = .mapUpdate t m x v) (hm : a.eval m = M) (hx : a.eval x = X) (hv : a.eval v = V)
    (h : (Instr.mapUpdate t M X V).run P W = .ok () w1) : (execOp a.eval o).run P W = .ok .skip w1 := by
  simp [execOp, ho, hm, hx, hv, h, Result.andThen]
theorem exec_lookup {P : Program} {o : Oper} {a : Act} {W : World} {M X V : Value} {t : TypeId} {m x : Operand} {c : Bool} (ho : o.op = .lookup t m x c) (hm : a.eval m = M) (hx : a.eval x = X)
    (h : (Instr.lookup t M X c).run P W = .ok V W) : (execOp a.eval o).run P W = .ok (.value V) W := by
  simp [execOp, ho, hm, hx, h, Result.andThen]
/-- The view's block. -/
def VB (me : Int) (n : Nat) (g b : Nat) (w : World) : Prop := w.heap[g]? = some (.cells #[.int .i64 me, .int .i64 (n : Int), .map (some b)] 75 (0, 0))
/-- A view. -/
structure VW (me : Int) (g b : Nat) (xs : List (Int × Int)) (w : World) : Prop where
  v : VB me xs.length g b w
  m : IMap Try.prog 3 w b xs
theorem zeroI (w : World) : (zeroValue 24).run Try.prog w = .ok (infV (0, 0)) w := by kernel_rfl
theorem VW.ne {me : Int} {g b : Nat} {xs : List (Int × Int)} {w : World} (h : VW me g b xs w) : b ≠ g := by
  rintro rfl
  obtain ⟨es, clock, hb, _⟩ := h.m
  have := h.v
  unfold VB at this
  rw [hb] at this
  cases this
theorem VW.kept {me : Int} {g b : Nat} {xs : List (Int × Int)} {w w' : World} (h : VW me g b xs w) (hB : Below w.heap.size w w') : VW me g b xs w' :=
  ⟨blk_below h.v hB, by
    obtain ⟨es, clock, hb, r⟩ := h.m
    exact ⟨es, clock, blk_below hb hB, r⟩⟩
/-- What a store does. -/
theorem VW.put {me : Int} {g b : Nat} {xs : List (Int × Int)} {w : World} (h : VW me g b xs w) {j : Nat} (hj : j < xs.length) (hm : xs.length < 1000) (x : Int × Int) :
    ∃ w', (Instr.mapUpdate 73 (.map (some b)) (.int .i64 j) (infV x)).run Try.prog w = .ok () w' ∧ VW me g b (xs.set j x) w' ∧ w.grownBy w' (some b) := by
  obtain ⟨w', h1, h2, h3⟩ := h.m.put Try.underlying3 Try.underlying73 hj (by omega) x
  refine ⟨w', h1, ⟨?_, h2⟩, h3⟩
  have h4 := h.v
  unfold VB at h4 ⊢
  rw [List.length_set]
  exact (h3.block g (Array.getElem?_eq_some_iff.1 h4).1 (fun e => h.ne (Option.some.inj e).symm)).trans h4
theorem VW.look {me : Int} {g b : Nat} {xs : List (Int × Int)} {w : World} (h : VW me g b xs w) (c : Bool) {j : Int} (hw : (Lit.int .i64 j).wf = true) :
    (Instr.lookup 73 (.map (some b)) (.int .i64 j) c).run Try.prog w = .ok (if c then .tuple #[infV (getI xs j), .bool (hasI xs j)] else infV (getI xs j)) w :=
  h.m.look c Try.underlying3 Try.underlying73 (zeroI w) hw
/-- Nodes as the document wants them. -/
def okN (me n : Int) : Prop := 1 ≤ n ∧ n ≤ 16 ∧ 0 ≤ me ∧ me < n
instance (me n : Int) : Decidable (okN me n) := by unfold okN; infer_instance
theorem New_no (me n : Int) (w : World) (h : ¬ okN me n) : Calls Try.prog 15 #[.int .i64 me, .int .i64 n] w fun e w' => e = .returned (.tuple #[.pointer none, .int .i64 1]) ∧ w = w' := by
  unfold okN at h
  by_cases h1 : n < 1
  · go_enter Try.func15, Try.ntmps15
    go_wp2_with fail
    go_ret2
    exact ⟨rfl, rfl⟩
  · by_cases h2 : 16 < n
    · go_enter Try.func15, Try.ntmps15
      go_wp2_with fail
      go_ret2
      exact ⟨rfl, rfl⟩
    · by_cases h3 : me < 0
      · go_enter Try.func15, Try.ntmps15
        go_wp2_with fail
        go_ret2
        exact ⟨rfl, rfl⟩
      · have h4 : n ≤ me := by omega
        go_enter Try.func15, Try.ntmps15
        go_wp2_with fail
        go_ret2
        exact ⟨rfl, rfl⟩
theorem New_yes (me : Int) (n : Nat) (w : World) (h : okN me n) : Calls Try.prog 15 #[.int .i64 me, .int .i64 n] w fun e w' => ∃ g b, w.heap.size ≤ g ∧ w.heap.size ≤ b ∧ e = .returned (.tuple #[.pointer (some ⟨g, 0, none⟩), .int .i64 0]) ∧ VW me g b (List.replicate n (0, 0)) w' ∧ Below w.heap.size w w' := by
  unfold okN at h
  obtain ⟨h1, h2, h3, h4⟩ := h
  have hmm := @run_makeMap Try.prog
  have e1 : ¬ (n : Int) < 1 := by omega
  have e2 : ¬ 16 < (n : Int) := by omega
  have e3 : ¬ me < 0 := by omega
  have e4 : ¬ (n : Int) ≤ me := by omega
  have HN := Aside0.mk h2
  clear h1 h2 h3 h4
  go_enter Try.func15, Try.ntmps15
  go_wp2_with fail
  clear e1 e2 e3 e4
  go_loopg [29] n (fun kq v29 w' => ∃ i : Nat, Aside0 (kq + i = n) ∧ v29 = .int .i64 (i : Int) ∧ Aside0 (VB me n (w.heap.size + 1) w.heap.size w' ∧ IMap Try.prog 3 w' w.heap.size (List.replicate i (0, 0)) ∧ Below w.heap.size w w'))
  case atStart =>
    refine ⟨0, ⟨by simp⟩, rfl, ⟨?_, ?_, ?_⟩⟩
    · exact blk_new_at (by unfold World.alloc; simp)
    · exact (IMap.made w).kept (World.grownBy_alloc _ _ none) (by simp)
    · exact below_alloc (below_alloc (Below.refl _ _) _) _
  case round =>
    obtain ⟨i, HK, rfl, HI⟩ := hrel
    cases gk with
    | zero =>
      obtain rfl : i = n := by have := HK.out; omega
      go_wp2_with fail
      go_ret2
      exact ⟨_, _, Nat.le_succ _, Nat.le_refl _, rfl, ⟨by rw [List.length_replicate]; exact HI.out.1, HI.out.2.1⟩, HI.out.2.2⟩
    | succ kq =>
      have hi : ((i : Nat) : Int) < ((n : Nat) : Int) := by have := HK.out; omega
      obtain ⟨b0, b1, hB⟩ := HI.out
      have c0 := blk_cell b0 2
      obtain ⟨w1, hrun, hI1, hg1⟩ := b1.push Try.underlying3 Try.underlying73 (by rw [List.length_replicate]; have := HK.out; have := HN.out; omega) (0, 0)
      rw [List.length_replicate] at hrun
      have HRUN := Aside0.mk hrun
      have HN1 : Aside0 (VB me n (w.heap.size + 1) w.heap.size w1 ∧ IMap Try.prog 3 w1 w.heap.size (List.replicate (i + 1) (0, 0)) ∧ Below w.heap.size w w1) := by
        refine ⟨(hg1.block _ (Array.getElem?_eq_some_iff.1 b0).1 (by simp)).trans b0, ?_, hB.grown hg1 hB.size (fun k e => by cases e; exact Nat.le_refl _)⟩
        rw [List.replicate_succ']; exact hI1
      clear b0 b1 hB hrun hI1 hg1
      go_wp2_with (at_mapUpdate; refine event_skip rfl (exec_mapUpdate rfl rfl rfl rfl HRUN.out) ?_)
      go_roundg kq
      case measure => omega
      case rel => exact ⟨i + 1, ⟨by have := HK.out; omega⟩, by simp; have := HN.out; have := HK.out; unfold wrap64; omega, HN1⟩
end Go.Proofs.Ytkdhccbgbkhnnaa.Memb
