/- MemV: MapI, MemW1, MemW2, MemW3, MemW4. -/
import Derived.Maps.Own
import Derived.Test.YtkdhccbgbkhnnaaBase
import Derived.Test.YtkdhccbgbkhnnaaProg
import Derived.Test.YtkdhccbgbkhnnaaWGuard
import Derived.Deep.CutRange
import Derived.Maps.OwnOps
namespace Go.Proofs.Ytkdhccbgbkhnnaa.MapI
open Go.RowKit Go.Maps Go.WideElems Go.ChangeMaps Go.MapKept
set_option linter.unusedVariables false
set_option linter.unusedSimpArgs false
/-- An element. -/
def infV (x : Int × Int) : Value := .agg #[.int .i64 x.1, .int .i64 x.2]
/-- How it reads. -/
def infR (v : Value) : Option (DataW Unit × List MemPlace) :=
  match v.cells.toList with
  | [.int .i64 a, .int .i64 c] => some (.agg [.lit (.int .i64 a), .lit (.int .i64 c)], [])
  | _ => none
theorem infR_mk (x : Int × Int) : infR (infV x) = some (.agg [.lit (.int .i64 x.1), .lit (.int .i64 x.2)], []) := by simp [infR, infV, Value.cells]
/-- Block b is the map. -/
def IMap (P : Program) (k : TypeId) (w : World) (b : Nat) (xs : List (Int × Int)) : Prop :=
  ∃ es clock, w.heap[b]? = some (.map es clock) ∧ Fit P k infR es clock ∧ es.toList.length = xs.length ∧ ∀ (i : Nat) x, xs[i]? = some x → ∃ born : Nat, es.toList[i]? = some (MapEntry.mk (.int .i64 i) (infV x) born)
/-- How one is seen. -/
def getI (xs : List (Int × Int)) (j : Int) : Int × Int := if 0 ≤ j then (xs[j.toNat]?).getD (0, 0) else (0, 0)
def hasI (xs : List (Int × Int)) (j : Int) : Bool := decide (0 ≤ j) && decide (j < xs.length)
variable {P : Program} {k : TypeId} {w : World} {b : Nat} {xs : List (Int × Int)}
theorem IMap.lt (h : IMap P k w b xs) : b < w.heap.size := by
  obtain ⟨es, clock, hb, _⟩ := h
  exact (Array.getElem?_eq_some_iff.1 hb).1
theorem IMap.made (w : World) : IMap P k (w.alloc (.map #[] 0)) w.heap.size [] :=
  ⟨#[], 0, (MapKept.heap_alloc w _).1, ⟨by simp, stamped_empty 0, by simp⟩, rfl, by simp⟩
theorem IMap.kept {w' : World} {row : Option Nat} (h : IMap P k w b xs) (hg : w.grownBy w' row) (hne : some b ≠ row) : IMap P k w' b xs := by
  have hlt := h.lt
  obtain ⟨es, clock, hb, r⟩ := h
  exact ⟨es, clock, (hg.block b hlt hne).trans hb, r⟩
theorem IMap.owns (h : IMap P k w b xs) : ∃ D, w.ownsMap P k infR b xs.length D := by
  obtain ⟨es, clock, hb, F, hl, _⟩ := h
  exact ⟨_, es, clock, hb, F, by rw [← hl]; simp, rfl⟩
theorem int_wf {j : Nat} (h : j < 9223372036854775808) : (Lit.int .i64 (j : Int)).wf = true := WalkArith.wf_i64 (by omega)
/-- A look-up. -/
theorem IMap.look {t e : TypeId} (h : IMap P k w b xs) (c : Bool) (hk : P.underlying k = some (.int .i64)) (ht : P.underlying t = some (.map k e)) (hz : (zeroValue e).run P w = .ok (infV (0, 0)) w) {j : Int} (hw : (Lit.int .i64 j).wf = true) :
    (Instr.lookup t (.map (some b)) (.int .i64 j) c).run P w = .ok (if c then .tuple #[infV (getI xs j), .bool (hasI xs j)] else infV (getI xs j)) w := by
  obtain ⟨es, clock, hb, F, hl, hx⟩ := h
  have K := int_keyed hk
  have hkey := keyOf_int_mk hk hw
  rcases K.find w hkey es.toList F.keys with ⟨h1, h2⟩ | ⟨i, e0, h1, h2, h3⟩
  · have hno : hasI xs j = false ∧ getI xs j = (0, 0) := by
      by_cases hj : 0 ≤ j ∧ j < xs.length
      · exfalso
        have hlt : j.toNat < xs.length := by omega
        obtain ⟨born, hb1⟩ := hx j.toNat _ (List.getElem?_eq_getElem hlt)
        refine h2 _ (List.mem_of_getElem? hb1) ?_
        simp only [Value.int.injEq, true_and]; omega
      · unfold hasI getI
        refine ⟨?_, ?_⟩
        · rw [← Bool.decide_and]; exact decide_eq_false hj
        · split
          · rw [List.getElem?_eq_none (by omega)]; rfl
          · rfl
    rw [hno.1, hno.2]
    simp [Instr.lookup, run_underlying ht, MapKept.run_getObj_map hb, K.check w _ hkey, h1, hz, Result.andThen]
  · have hil : i < xs.length := by rw [← hl]; exact (List.getElem?_eq_some_iff.1 h2).1
    obtain ⟨born, hb1⟩ := hx i _ (List.getElem?_eq_getElem hil)
    rw [h2] at hb1
    cases Option.some.inj hb1
    simp only [Value.int.injEq, true_and] at h3
    subst h3
    have e1 : hasI xs (i : Int) = true := by unfold hasI; rw [← Bool.decide_and]; exact decide_eq_true (by omega)
    have e2 : getI xs (i : Int) = xs[i] := by unfold getI; rw [if_pos (by omega), Int.toNat_natCast, List.getElem?_eq_getElem hil]; rfl
    rw [e1, e2]
    simp [Instr.lookup, run_underlying ht, MapKept.run_getObj_map hb, K.check w _ hkey, h1, Result.andThen]
/-- A store at a key that is there. -/
theorem IMap.put {t e : TypeId} (h : IMap P k w b xs) (hk : P.underlying k = some (.int .i64)) (ht : P.underlying t = some (.map k e)) {j : Nat} (hj : j < xs.length) (hm : xs.length < 9223372036854775807) (x : Int × Int) :
    ∃ w', (Instr.mapUpdate t (.map (some b)) (.int .i64 j) (infV x)).run P w = .ok () w' ∧ IMap P k w' b (xs.set j x) ∧ w.grownBy w' (some b) := by
  obtain ⟨es, clock, hb, F, hl, hx⟩ := h
  have K := int_keyed hk
  have hkey := keyOf_int_mk hk (int_wf (j := j) (by omega))
  rcases K.find w hkey es.toList F.keys with ⟨h1, h2⟩ | ⟨i, e0, h1, h2, h3⟩
  · exfalso
    obtain ⟨born, hb1⟩ := hx j _ (List.getElem?_eq_getElem hj)
    exact h2 _ (List.mem_of_getElem? hb1) rfl
  · have hil : i < xs.length := by rw [← hl]; exact (List.getElem?_eq_some_iff.1 h2).1
    obtain ⟨born, hb1⟩ := hx i _ (List.getElem?_eq_getElem hil)
    rw [h2] at hb1
    cases Option.some.inj hb1
    simp only [Value.int.injEq, true_and] at h3
    obtain rfl : i = j := by omega
    have hij : es[i]? = some ⟨.int .i64 i, infV xs[i], born⟩ := by simpa using h2
    have hlist : (es.modify i (fun e' => { e' with key := .int .i64 i, val := infV x })).toList = es.toList.set i ⟨.int .i64 i, infV x, born⟩ := by rw [Array.toList_modify, modify_eq_set _ _ _ _ h2]
    refine ⟨setBlock w b (.map (es.modify i (fun e' => { e' with key := .int .i64 i, val := infV x })) clock), ?_, ⟨_, clock, heap_setBlock_same hb _, ⟨by simpa using F.size, stamped_modify F.stamped _ _ (fun _ _ => rfl) (fun e' _ he' => by rw [hij] at he'; cases he'; rfl), ?_⟩, ?_, ?_⟩, ⟨rfl, rfl, rfl, by simp [setBlock], fun i _ hi => heap_setBlock_other hb _ (fun e => hi (by rw [e]))⟩⟩
    · simp [Instr.mapUpdate, run_underlying ht, MapKept.run_getObj_map hb, K.check w false hkey, h1, hij, K.stays w hkey, MapKept.run_setObj_map _ hb, Result.andThen, setBlock]
    · intro y hy
      rw [hlist] at hy
      rcases List.mem_or_eq_of_mem_set hy with hy | rfl
      · exact F.reads y hy
      · exact ⟨_, rd_mk hkey (infR_mk x)⟩
    · rw [hlist]; simpa using hl
    · intro i' y hy
      rw [hlist]
      rw [List.getElem?_set] at hy ⊢
      split at hy
      · rename_i hii
        subst hii
        rw [if_pos rfl, if_pos (by rw [hl]; exact hil)]
        cases hy
        exact ⟨born, rfl⟩
      · rename_i hii
        rw [if_neg hii]
        exact hx i' y hy
/-- A store at the next key. -/
theorem IMap.push {t e : TypeId} (h : IMap P k w b xs) (hk : P.underlying k = some (.int .i64)) (ht : P.underlying t = some (.map k e)) (hm : xs.length < 1000) (x : Int × Int) :
    ∃ w', (Instr.mapUpdate t (.map (some b)) (.int .i64 xs.length) (infV x)).run P w = .ok () w' ∧ IMap P k w' b (xs ++ [x]) ∧ w.grownBy w' (some b) := by
  obtain ⟨es, clock, hb, F, hl, hx⟩ := h
  have K := int_keyed hk
  have hkey := keyOf_int_mk hk (int_wf (j := xs.length) (by omega))
  rcases K.find w hkey es.toList F.keys with ⟨h1, h2⟩ | ⟨i, e0, h1, h2, h3⟩
  · refine ⟨setBlock w b (.map (es.push ⟨.int .i64 xs.length, infV x, clock⟩) (clock + 1)), ?_, ⟨_, clock + 1, heap_setBlock_same hb _, ⟨?_, stamped_push F.stamped h2, ?_⟩, ?_, ?_⟩, ⟨rfl, rfl, rfl, by simp [setBlock], fun i _ hi => heap_setBlock_other hb _ (fun e => hi (by rw [e]))⟩⟩
    · simp [Instr.mapUpdate, run_underlying ht, MapKept.run_getObj_map hb, K.check w false hkey, h1, MapKept.run_setObj_map _ hb, Result.andThen, setBlock]
    · have : es.size = xs.length := by rw [← hl]; simp
      simp [maxLen]; omega
    · intro y hy
      simp only [Array.toList_push, List.mem_append, List.mem_singleton] at hy
      rcases hy with hy | rfl
      · exact F.reads y hy
      · exact ⟨_, rd_mk hkey (infR_mk x)⟩
    · simp [hl]
    · intro i y hy
      rw [Array.toList_push]
      by_cases hi : i < xs.length
      · rw [List.getElem?_append_left (by omega)] at hy ⊢
        exact hx i y hy
      · obtain rfl : i = xs.length := by
          have := (List.getElem?_eq_some_iff.1 hy).1
          simp at this; omega
        rw [List.getElem?_append_right (by omega)] at hy ⊢
        simp only [hl, Nat.sub_self, List.getElem?_cons_zero, Option.some.injEq] at hy ⊢
        subst hy
        exact ⟨clock, rfl⟩
  · exfalso
    have hil : i < xs.length := by rw [← hl]; exact (List.getElem?_eq_some_iff.1 h2).1
    obtain ⟨born, hb1⟩ := hx i _ (List.getElem?_eq_getElem hil)
    rw [h2] at hb1
    cases Option.some.inj hb1
    simp only [Value.int.injEq, true_and] at h3
    omega
end Go.Proofs.Ytkdhccbgbkhnnaa.MapI
namespace Go.Proofs.Ytkdhccbgbkhnnaa.Memb
open Go.RowKit Go.Proofs.Ytkdhccbgbkhnnaa.MapI Go.Proofs.Ytkdhccbgbkhnnaa.Mem Go.Proofs.Ytkdhccbgbkhnnaa.Help Go.Proofs.YtkdhccbgbkhnnaaW.PrintWords Go.Proofs.YtkdhccbgbkhnnaaW.PrintLast Go.Proofs.YtkdhccbgbkhnnaaW.PrintMore
set_option linter.unusedVariables false
set_option linter.unusedSimpArgs false
def newB (a b : Int × Int) : Bool := if a.2 = b.2 then decide (b.1 < a.1) else decide (b.2 < a.2)
def rightI (x : Int × Int) : Bool := decide (0 ≤ x.1) && (decide (x.1 ≤ 2) && (decide (0 ≤ x.2) && decide (x.2 ≤ 1099511627776)))
theorem Newer_any (a b : Int × Int) (w : World) : Calls Try.prog 10 #[infV a, infV b] w fun e w' => e = .returned (.bool (newB a b)) ∧ Below w.heap.size w w' := by
  obtain ⟨s, c⟩ := a
  obtain ⟨s', c'⟩ := b
  unfold newB infV
  dsimp only
  by_cases h : c = c'
  · subst h
    rw [if_pos rfl]
    go_enter Try.func10, Try.ntmps10
    go_wp2_with fail
    go_ret
    exact ⟨rfl, (below_alloc (below_alloc (Below.refl _ _) _) _)⟩
  · rw [if_neg h]
    go_enter Try.func10, Try.ntmps10
    go_wp2_with fail
    go_ret
    exact ⟨rfl, (below_alloc (below_alloc (Below.refl _ _) _) _)⟩
theorem Right_any (a : Int × Int) (w : World) : Calls Try.prog 12 #[infV a] w fun e w' => e = .returned (.bool (rightI a)) ∧ Below w.heap.size w w' := by
  obtain ⟨s, c⟩ := a
  unfold rightI infV
  dsimp only
  by_cases h1 : 0 ≤ s
  · by_cases h2 : s ≤ 2
    · by_cases h3 : 0 ≤ c
      · by_cases h4 : c ≤ 1099511627776
        · go_enter Try.func12, Try.ntmps12
          go_wp2_with fail
          go_ret
          exact ⟨by simp [h1, h2, h3, h4] <;> omega, (below_alloc (Below.refl _ _) _)⟩
        · go_enter Try.func12, Try.ntmps12
          go_wp2_with fail
          go_ret
          exact ⟨by simp [h1, h2, h3, h4] <;> omega, (below_alloc (Below.refl _ _) _)⟩
      · go_enter Try.func12, Try.ntmps12
        go_wp2_with fail
        go_ret
        exact ⟨by simp [h1, h2, h3] <;> omega, (below_alloc (Below.refl _ _) _)⟩
    · go_enter Try.func12, Try.ntmps12
      go_wp2_with fail
      go_ret
      exact ⟨by simp [h1, h2] <;> omega, (below_alloc (Below.refl _ _) _)⟩
  · go_enter Try.func12, Try.ntmps12
    go_wp2_with fail
    go_ret
    exact ⟨by simp [h1] <;> omega, (below_alloc (Below.refl _ _) _)⟩
theorem refNewer_any (a b : Int × Int) (w : World) : Calls Try.prog 11 #[infV a, infV b] w fun e w' => e = .returned (.bool (newB a b)) ∧ Below w.heap.size w w' := by
  obtain ⟨s, c⟩ := a
  obtain ⟨s', c'⟩ := b
  unfold newB infV
  dsimp only
  by_cases h : c = c'
  · subst h
    rw [if_pos rfl]
    have h0 : ¬ c < c := Int.lt_irrefl c
    go_enter Try.func11, Try.ntmps11
    go_wp2_with fail
    go_ret
    exact ⟨by simp, (below_alloc (below_alloc (Below.refl _ _) _) _)⟩
  · rw [if_neg h]
    have hb : (c == c') = false := by simpa using h
    by_cases h2 : c' < c
    · go_enter Try.func11, Try.ntmps11
      go_wp2_with fail
      go_ret
      exact ⟨by simp [h2], (below_alloc (below_alloc (Below.refl _ _) _) _)⟩
    · go_enter Try.func11, Try.ntmps11
      go_wp2_with fail
      go_ret
      exact ⟨by simp [h2], (below_alloc (below_alloc (Below.refl _ _) _) _)⟩
theorem refRight_any (a : Int × Int) (w : World) : Calls Try.prog 13 #[infV a] w fun e w' => e = .returned (.bool (rightI a)) ∧ Below w.heap.size w w' := by
  obtain ⟨s, c⟩ := a
  unfold rightI infV
  dsimp only
  by_cases h1 : 0 ≤ s
  · by_cases h2 : s ≤ 2
    · by_cases h3 : 0 ≤ c
      · by_cases h4 : c ≤ 1099511627776
        · go_enter Try.func13, Try.ntmps13
          go_wp2_with fail
          go_ret
          exact ⟨by simp [h1, h2, h3, h4] <;> omega, (below_alloc (Below.refl _ _) _)⟩
        · go_enter Try.func13, Try.ntmps13
          go_wp2_with fail
          go_ret
          exact ⟨by simp [h1, h2, h3, h4] <;> omega, (below_alloc (Below.refl _ _) _)⟩
      · go_enter Try.func13, Try.ntmps13
        go_wp2_with fail
        go_ret
        exact ⟨by simp [h1, h2, h3] <;> omega, (below_alloc (Below.refl _ _) _)⟩
    · go_enter Try.func13, Try.ntmps13
      go_wp2_with fail
      go_ret
      exact ⟨by simp [h1, h2] <;> omega, (below_alloc (Below.refl _ _) _)⟩
  · go_enter Try.func13, Try.ntmps13
    go_wp2_with fail
    go_ret
    exact ⟨by simp [h1] <;> omega, (below_alloc (Below.refl _ _) _)⟩
theorem given_any (a : Int × Int) (w : World) : Calls Try.prog 9 #[infV a] w fun e w' => e = .returned (infV a) ∧ Below w.heap.size w w' := by
  obtain ⟨s, c⟩ := a
  unfold infV
  dsimp only
  go_enter Try.func9, Try.ntmps9
  go_wp2_with fail
  refine bodyPost_ret (v := .agg #[.int .i64 s, .int .i64 c]) (by simp [results, Try.results9, go_sem]) rfl ?_
  exact ⟨rfl, below_alloc (below_alloc (Below.refl _ _) _) _⟩
theorem taken_any (a : Int × Int) (w : World) : Calls Try.prog 18 #[infV a] w fun e w' => e = .returned (infV a) ∧ Below w.heap.size w w' := by
  obtain ⟨s, c⟩ := a
  unfold infV
  dsimp only
  go_enter Try.func18, Try.ntmps18
  go_wp2_with fail
  refine bodyPost_ret (v := .agg #[.int .i64 s, .int .i64 c]) (by simp [results, Try.results18, go_sem]) rfl ?_
  exact ⟨rfl, below_alloc (below_alloc (Below.refl _ _) _) _⟩
end Go.Proofs.Ytkdhccbgbkhnnaa.Memb
namespace Go.Proofs.Ytkdhccbgbkhnnaa.Memb
open Go.RowKit Go.Proofs.Ytkdhccbgbkhnnaa.MapI Go.Proofs.Ytkdhccbgbkhnnaa.Mem Go.Proofs.Ytkdhccbgbkhnnaa.Help Go.Proofs.YtkdhccbgbkhnnaaW.PrintWords Go.Proofs.YtkdhccbgbkhnnaaW.PrintLast Go.Proofs.YtkdhccbgbkhnnaaW.PrintMore
set_option linter.unusedVariables false
set_option linter.unusedSimpArgs false
theorem exec_mapUpdate {P : Program} {o : Oper} {a : Act} {W w1 : World} {M X V : Value} {t : TypeId} {m x v : Operand} (ho : o.op = .mapUpdate t m x v) (hm : a.eval m = M) (hx : a.eval x = X) (hv : a.eval v = V)
    (h : (Instr.mapUpdate t M X V).run P W = .ok () w1) : (execOp a.eval o).run P W = .ok .skip w1 := by
  simp [execOp, ho, hm, hx, hv, h, Result.andThen]
theorem exec_lookup {P : Program} {o : Oper} {a : Act} {W : World} {M X V : Value} {t : TypeId} {m x : Operand} {c : Bool} (ho : o.op = .lookup t m x c) (hm : a.eval m = M) (hx : a.eval x = X)
    (h : (Instr.lookup t M X c).run P W = .ok V W) : (execOp a.eval o).run P W = .ok (.value V) W := by
  simp [execOp, ho, hm, hx, h, Result.andThen]
/-- The view's block. -/
def VB (me : Int) (n : Nat) (g b : Nat) (w : World) : Prop := w.heap[g]? = some (.cells #[.int .i64 me, .int .i64 (n : Int), .map (some b)] 75 (0, 0))
/-- A view. -/
structure VW (me : Int) (g b : Nat) (xs : List (Int × Int)) (w : World) : Prop where
  v : VB me xs.length g b w
  m : IMap Try.prog 3 w b xs
theorem zeroI (w : World) : (zeroValue 24).run Try.prog w = .ok (infV (0, 0)) w := by kernel_rfl
theorem VW.ne {me : Int} {g b : Nat} {xs : List (Int × Int)} {w : World} (h : VW me g b xs w) : b ≠ g := by
  rintro rfl
  obtain ⟨es, clock, hb, _⟩ := h.m
  have := h.v
  unfold VB at this
  rw [hb] at this
  cases this
theorem VW.kept {me : Int} {g b : Nat} {xs : List (Int × Int)} {w w' : World} (h : VW me g b xs w) (hB : Below w.heap.size w w') : VW me g b xs w' :=
  ⟨blk_below h.v hB, by
    obtain ⟨es, clock, hb, r⟩ := h.m
    exact ⟨es, clock, blk_below hb hB, r⟩⟩
/-- What a store does. -/
theorem VW.put {me : Int} {g b : Nat} {xs : List (Int × Int)} {w : World} (h : VW me g b xs w) {j : Nat} (hj : j < xs.length) (hm : xs.length < 1000) (x : Int × Int) :
    ∃ w', (Instr.mapUpdate 73 (.map (some b)) (.int .i64 j) (infV x)).run Try.prog w = .ok () w' ∧ VW me g b (xs.set j x) w' ∧ w.grownBy w' (some b) := by
  obtain ⟨w', h1, h2, h3⟩ := h.m.put Try.underlying3 Try.underlying73 hj (by omega) x
  refine ⟨w', h1, ⟨?_, h2⟩, h3⟩
  have h4 := h.v
  unfold VB at h4 ⊢
  rw [List.length_set]
  exact (h3.block g (Array.getElem?_eq_some_iff.1 h4).1 (fun e => h.ne (Option.some.inj e).symm)).trans h4
theorem VW.look {me : Int} {g b : Nat} {xs : List (Int × Int)} {w : World} (h : VW me g b xs w) (c : Bool) {j : Int} (hw : (Lit.int .i64 j).wf = true) :
    (Instr.lookup 73 (.map (some b)) (.int .i64 j) c).run Try.prog w = .ok (if c then .tuple #[infV (getI xs j), .bool (hasI xs j)] else infV (getI xs j)) w :=
  h.m.look c Try.underlying3 Try.underlying73 (zeroI w) hw
/-- Nodes as the document wants them. -/
def okN (me n : Int) : Prop := 1 ≤ n ∧ n ≤ 16 ∧ 0 ≤ me ∧ me < n
instance (me n : Int) : Decidable (okN me n) := by unfold okN; infer_instance
theorem New_no (me n : Int) (w : World) (h : ¬ okN me n) : Calls Try.prog 15 #[.int .i64 me, .int .i64 n] w fun e w' => e = .returned (.tuple #[.pointer none, .int .i64 1]) ∧ w = w' := by
  unfold okN at h
  by_cases h1 : n < 1
  · go_enter Try.func15, Try.ntmps15
    go_wp2_with fail
    go_ret2
    exact ⟨rfl, rfl⟩
  · by_cases h2 : 16 < n
    · go_enter Try.func15, Try.ntmps15
      go_wp2_with fail
      go_ret2
      exact ⟨rfl, rfl⟩
    · by_cases h3 : me < 0
      · go_enter Try.func15, Try.ntmps15
        go_wp2_with fail
        go_ret2
        exact ⟨rfl, rfl⟩
      · have h4 : n ≤ me := by omega
        go_enter Try.func15, Try.ntmps15
        go_wp2_with fail
        go_ret2
        exact ⟨rfl, rfl⟩
theorem New_yes (me : Int) (n : Nat) (w : World) (h : okN me n) : Calls Try.prog 15 #[.int .i64 me, .int .i64 n] w fun e w' => ∃ g b, w.heap.size ≤ g ∧ w.heap.size ≤ b ∧ e = .returned (.tuple #[.pointer (some ⟨g, 0, none⟩), .int .i64 0]) ∧ VW me g b (List.replicate n (0, 0)) w' ∧ Below w.heap.size w w' := by
  unfold okN at h
  obtain ⟨h1, h2, h3, h4⟩ := h
  have hmm := @run_makeMap Try.prog
  have e1 : ¬ (n : Int) < 1 := by omega
  have e2 : ¬ 16 < (n : Int) := by omega
  have e3 : ¬ me < 0 := by omega
  have e4 : ¬ (n : Int) ≤ me := by omega
  have HN := Aside0.mk h2
  clear h1 h2 h3 h4
  go_enter Try.func15, Try.ntmps15
  go_wp2_with fail
  clear e1 e2 e3 e4
  go_loopg [29] n (fun kq v29 w' => ∃ i : Nat, Aside0 (kq + i = n) ∧ v29 = .int .i64 (i : Int) ∧ Aside0 (VB me n (w.heap.size + 1) w.heap.size w' ∧ IMap Try.prog 3 w' w.heap.size (List.replicate i (0, 0)) ∧ Below w.heap.size w w'))
  case atStart =>
    refine ⟨0, ⟨by simp⟩, rfl, ⟨?_, ?_, ?_⟩⟩
    · exact blk_new_at (by unfold World.alloc; simp)
    · exact (IMap.made w).kept (World.grownBy_alloc _ _ none) (by simp)
    · exact below_alloc (below_alloc (Below.refl _ _) _) _
  case round =>
    obtain ⟨i, HK, rfl, HI⟩ := hrel
    cases gk with
    | zero =>
      obtain rfl : i = n := by have := HK.out; omega
      go_wp2_with fail
      go_ret2
      exact ⟨_, _, Nat.le_succ _, Nat.le_refl _, rfl, ⟨by rw [List.length_replicate]; exact HI.out.1, HI.out.2.1⟩, HI.out.2.2⟩
    | succ kq =>
      have hi : ((i : Nat) : Int) < ((n : Nat) : Int) := by have := HK.out; omega
      obtain ⟨b0, b1, hB⟩ := HI.out
      have c0 := blk_cell b0 2
      obtain ⟨w1, hrun, hI1, hg1⟩ := b1.push Try.underlying3 Try.underlying73 (by rw [List.length_replicate]; have := HK.out; have := HN.out; omega) (0, 0)
      rw [List.length_replicate] at hrun
      have HRUN := Aside0.mk hrun
      have HN1 : Aside0 (VB me n (w.heap.size + 1) w.heap.size w1 ∧ IMap Try.prog 3 w1 w.heap.size (List.replicate (i + 1) (0, 0)) ∧ Below w.heap.size w w1) := by
        refine ⟨(hg1.block _ (Array.getElem?_eq_some_iff.1 b0).1 (by simp)).trans b0, ?_, hB.grown hg1 hB.size (fun k e => by cases e; exact Nat.le_refl _)⟩
        rw [List.replicate_succ']; exact hI1
      clear b0 b1 hB hrun hI1 hg1
      go_wp2_with (at_mapUpdate; refine event_skip rfl (exec_mapUpdate rfl rfl rfl rfl HRUN.out) ?_)
      go_roundg kq
      case measure => omega
      case rel => exact ⟨i + 1, ⟨by have := HK.out; omega⟩, by simp; have := HN.out; have := HK.out; unfold wrap64; omega, HN1⟩
end Go.Proofs.Ytkdhccbgbkhnnaa.Memb
namespace Go.Proofs.Ytkdhccbgbkhnnaa.Memb
open Go.RowKit Go.Proofs.Ytkdhccbgbkhnnaa.MapI Go.Proofs.Ytkdhccbgbkhnnaa.Mem Go.Proofs.Ytkdhccbgbkhnnaa.Help Go.Proofs.YtkdhccbgbkhnnaaW.PrintWords Go.Proofs.YtkdhccbgbkhnnaaW.PrintLast Go.Proofs.YtkdhccbgbkhnnaaW.PrintMore
set_option linter.unusedVariables false
set_option linter.unusedSimpArgs false
theorem Get_nil (k : Int) (w : World) : Calls Try.prog 19 #[.pointer none, .int .i64 k] w fun e w' => e = .returned (infV (0, 0)) ∧ Below w.heap.size w w' := by
  unfold infV
  go_enter Try.func19, Try.ntmps19
  go_wp2_with fail
  refine bodyPost_ret (v := .agg #[.int .i64 0, .int .i64 0]) (by simp [results, Try.results19, go_sem]) rfl ?_
  exact ⟨rfl, below_alloc (Below.refl _ _) _⟩
theorem Get_any {me : Int} {g b : Nat} {xs : List (Int × Int)} (k : Int) (w : World) (hV : VW me g b xs w) (hk : (Lit.int .i64 k).wf = true) :
    Calls Try.prog 19 #[.pointer (some ⟨g, 0, none⟩), .int .i64 k] w fun e w' => e = .returned (infV (getI xs k)) ∧ Below w.heap.size w w' := by
  have hV1 := hV.kept (below_alloc (Below.refl w.heap.size w) (.cells #[.int .i64 0, .int .i64 0] 24 (0, 0)))
  have HL := Aside0.mk (hV1.look false hk)
  have c2 := blk_cell hV1.v 2
  generalize getI xs k = x at *
  obtain ⟨s, c⟩ := x
  clear hV hV1
  unfold infV at *
  dsimp only at *
  go_enter Try.func19, Try.ntmps19
  go_wp2_with (at_lookup; refine Kd.event_run rfl (exec_lookup rfl rfl rfl HL.out) ?_)
  refine bodyPost_ret (v := .agg #[.int .i64 s, .int .i64 c]) (by simp [results, Try.results19, go_sem]) rfl ?_
  exact ⟨rfl, below_alloc (Below.refl _ _) _⟩
def capI (c : Int) : Int := if 1099511627776 < c then 1099511627776 else c
/-- It is said that me is not there. -/
def ansX (me : Nat) (xs : List (Int × Int)) (y c : Int) : Bool × List (Int × Int) :=
  if c < y then (false, xs) else (decide (c < 1099511627776), xs.set me (0, capI (c + 1)))
theorem answer_any {me : Nat} {g b : Nat} {xs : List (Int × Int)} (s y c : Int) (w : World) (hV : VW me g b xs w) (hm : me < xs.length) (hl : xs.length < 1000) (hc : c ≤ 1099511627776) (hc0 : 0 ≤ c) :
    Calls Try.prog 39 #[.pointer (some ⟨g, 0, none⟩), infV (s, y), .int .i64 c] w fun e w' => e = .returned (.bool (ansX me xs y c).1) ∧ VW me g b (ansX me xs y c).2 w' ∧ w.grownBy w' (some b) := by
  unfold ansX
  by_cases h : c < y
  · rw [if_pos h]
    have HF := Aside0.mk (hV.kept (below_alloc (Below.refl w.heap.size w) (.cells #[.int .i64 s, .int .i64 y] 24 (0, 0))))
    unfold infV
    clear hV
    go_enter Try.func39, Try.ntmps39
    go_wp2_with fail
    go_ret
    exact ⟨rfl, HF.out, World.grownBy_alloc _ _ _⟩
  · rw [if_neg h]
    have hV1 := hV.kept (below_alloc (Below.refl w.heap.size w) (.cells #[.int .i64 s, .int .i64 y] 24 (0, 0)))
    have HV := Aside0.mk (show VW me g b xs (w.alloc (.cells #[.int .i64 s, .int .i64 y] 24 (0, 0))).drew from ⟨hV1.v, hV1.m⟩)
    have HG := Aside0.mk (show w.grownBy (w.alloc (.cells #[.int .i64 s, .int .i64 y] 24 (0, 0))).drew (some b) from ⟨rfl, rfl, rfl, by simp, fun i hi _ => (World.grownBy_alloc w _ none).block i hi (by simp)⟩)
    clear hV hV1
    unfold infV
    have HW : Aside0 (IntKind.i64.wrap (c + 1) = c + 1) := ⟨by rw [IntKind.wrap_i64]; omega⟩
    have HM := Aside0.mk hm
    have HLN := Aside0.mk hl
    clear hm hl
    go_enter Try.func39, Try.ntmps39
    go_upto_region 12 with fail
    refine RegionF.region_F (F := (fun X => X = (w.alloc (.cells #[.int .i64 s, .int .i64 y] 24 (0, 0))).drew)) 12 (by kernel_rfl) (by kernel_rfl) rfl ?_
    simp only [List.take_succ_cons, List.take_zero, List.drop_succ_cons, List.drop_zero]
    generalize (w.alloc (.cells #[.int .i64 s, .int .i64 y] 24 (0, 0))).drew = Y at *
    have c0 := blk_cell HV.out.v 0
    have c2 := blk_cell HV.out.v 2
    have hw := HW.out
    apply RegionF.wpF_step
    · rfl
    · (intro X hX; subst hX; go_simp; exact RegionF.GivesF.value rfl rfl)
    refine RegionF.wpF_put (fun K' hK' => ?_)
    go_simp
    refine hK' _ ?_
    clear hK' K'
    apply RegionF.wpF_step
    · rfl
    · (intro X hX; subst hX; go_simp; exact RegionF.GivesF.value rfl rfl)
    refine RegionF.wpF_put (fun K' hK' => ?_)
    go_simp
    refine hK' _ ?_
    clear hK' K'
    apply RegionF.wpF_step
    · rfl
    · (intro X hX; subst hX; go_simp; exact RegionF.GivesF.value rfl rfl)
    refine RegionF.wpF_put (fun K' hK' => ?_)
    go_simp
    refine hK' _ ?_
    clear hK' K'
    apply RegionF.wpF_step
    · rfl
    · (intro X hX; subst hX; go_simp; exact RegionF.GivesF.value rfl rfl)
    refine RegionF.wpF_put (fun K' hK' => ?_)
    go_simp
    refine hK' _ ?_
    clear hK' K'
    apply RegionF.wpF_step
    · rfl
    · (intro X hX; subst hX; go_simp; exact RegionF.GivesF.value rfl rfl)
    refine RegionF.wpF_put (fun K' hK' => ?_)
    go_simp
    refine hK' _ ?_
    clear hK' K'
    apply RegionF.wpF_step
    · rfl
    · (intro X hX; subst hX; go_simp; exact RegionF.GivesF.value rfl rfl)
    refine RegionF.wpF_put (fun K' hK' => ?_)
    go_simp
    refine hK' _ ?_
    clear hK' K'
    apply RegionF.wpF_step
    · rfl
    · (intro X hX; subst hX; go_simp; exact RegionF.GivesF.value rfl rfl)
    refine RegionF.wpF_put (fun K' hK' => ?_)
    go_simp
    refine hK' _ ?_
    clear hK' K'
    apply RegionF.wpF_step
    · rfl
    · (intro X hX; subst hX; go_simp; exact RegionF.GivesF.value rfl rfl)
    refine RegionF.wpF_put (fun K' hK' => ?_)
    go_simp
    refine hK' _ ?_
    clear hK' K'
    apply RegionF.wpF_step
    · rfl
    · (intro X hX; subst hX; go_simp; exact RegionF.GivesF.value rfl rfl)
    refine RegionF.wpF_put (fun K' hK' => ?_)
    go_simp
    refine hK' _ ?_
    clear hK' K'
    apply RegionF.wpF_step
    · rfl
    · (intro X hX; subst hX; go_simp; exact RegionF.GivesF.value rfl rfl)
    refine RegionF.wpF_put (fun K' hK' => ?_)
    go_simp
    refine hK' _ ?_
    clear hK' K'
    apply RegionF.wpF_step
    · rfl
    · (intro X hX; subst hX; go_simp; exact RegionF.GivesF.value rfl rfl)
    refine RegionF.wpF_put (fun K' hK' => ?_)
    go_simp
    refine hK' _ ?_
    clear hK' K'
    apply RegionF.wpF_step
    · rfl
    · (intro X hX; subst hX; go_simp; exact RegionF.GivesF.value rfl rfl)
    refine RegionF.wpF_put (fun K' hK' => ?_)
    go_simp
    refine hK' _ ?_
    clear hK' K'
    refine RegionF.wpF_nil (fun X hX => ?_)
    subst hX
    obtain ⟨w2, hrun, hV2, hg2⟩ := HV.out.put HM.out HLN.out (0, capI (c + 1))
    have HRUN := Aside0.mk hrun
    have HF := Aside0.mk (And.intro hV2 (HG.out.trans hg2))
    clear hrun hV2 hg2
    unfold infV capI at HRUN
    dsimp only at HRUN
    generalize (if 1099511627776 < c + 1 then (1099511627776 : Int) else c + 1) = q at HRUN ⊢
    go_wp2_with (at_mapUpdate; refine event_skip rfl (exec_mapUpdate rfl (by go_simp) (by go_simp) (by go_simp) HRUN.out) ?_)
    go_ret
    exact ⟨rfl, HF.out.1, HF.out.2⟩
end Go.Proofs.Ytkdhccbgbkhnnaa.Memb
namespace Go.Proofs.Ytkdhccbgbkhnnaa.Memb
open Go.RowKit Go.Proofs.Ytkdhccbgbkhnnaa.MapI Go.Proofs.Ytkdhccbgbkhnnaa.Mem Go.Proofs.Ytkdhccbgbkhnnaa.Help Go.Proofs.YtkdhccbgbkhnnaaW.PrintWords Go.Proofs.YtkdhccbgbkhnnaaW.PrintLast Go.Proofs.YtkdhccbgbkhnnaaW.PrintMore
set_option linter.unusedVariables false
set_option linter.unusedSimpArgs false
def hearX (me : Nat) (xs : List (Int × Int)) (k : Int) (x : Int × Int) : (Bool × Int) × List (Int × Int) :=
  if (hasI xs k && rightI x) = true then
    (if k = me ∧ x.1 ≠ 0 then (((ansX me xs (getI xs k).2 x.2).1, 0), (ansX me xs (getI xs k).2 x.2).2)
     else if newB x (getI xs k) = true then ((true, 0), xs.set k.toNat x) else ((false, 0), xs))
  else ((false, 1), xs)
def HearPost (me g b : Nat) (w : World) (r : (Bool × Int) × List (Int × Int)) (e : Ending) (w' : World) : Prop :=
  e = .returned (.tuple #[.bool r.1.1, .int .i64 r.1.2]) ∧ VW me g b r.2 w' ∧ w.grownBy w' (some b)
theorem Hear_nil (k : Int) (x : Int × Int) (w : World) : Calls Try.prog 16 #[.pointer none, .int .i64 k, infV x] w fun e w' => e = .returned (.tuple #[.bool false, .int .i64 2]) ∧ Below w.heap.size w w' := by
  unfold infV
  go_enter Try.func16, Try.ntmps16
  go_wp2_with fail
  go_ret2
  exact ⟨rfl, below_alloc (Below.refl _ _) _⟩
theorem below_grownS {w w' : World} (h : Below w.heap.size w w') (b : Nat) : w.grownBy w' (some b) := ⟨h.1, h.2, h.3, h.4, fun k hk _ => h.5 k hk⟩
theorem hasI_in {xs : List (Int × Int)} {k : Int} (h : hasI xs k = true) : 0 ≤ k ∧ k < xs.length := by
  unfold hasI at h; simp at h; exact h
theorem rightI_c {x : Int × Int} (h : rightI x = true) : 0 ≤ x.2 ∧ x.2 ≤ 1099511627776 := by
  unfold rightI at h; simp at h; omega
theorem Hear_any {me : Nat} {g b : Nat} {xs : List (Int × Int)} (k : Int) (x : Int × Int) (w : World) (hV : VW me g b xs w) (hm : me < xs.length) (hl : xs.length < 1000) (hk : (Lit.int .i64 k).wf = true) :
    Calls Try.prog 16 #[.pointer (some ⟨g, 0, none⟩), .int .i64 k, infV x] w (HearPost me g b w (hearX me xs k x)) := by
  have hB1 := below_alloc (Below.refl w.heap.size w) (.cells #[.int .i64 x.1, .int .i64 x.2] 24 (0, 0))
  have hV1 := hV.kept hB1
  have HL := Aside0.mk (hV1.look true hk)
  have c2 := blk_cell hV1.v 2
  have hg : g < w.heap.size := (Array.getElem?_eq_some_iff.1 hV.v).1
  have hB2 := below_alloc hB1 (.cells #[.int .i64 (getI xs k).1, .int .i64 (getI xs k).2] 24 (0, 0))
  have HW2 := Aside0.mk (hV.kept hB2)
  generalize hR : hearX me xs k x = R
  unfold hearX at hR
  generalize hy : getI xs k = y at *
  cases hh : hasI xs k
  · rw [hh] at HL hR
    subst hR
    have HF := Aside0.mk (And.intro HW2.out hB2)
    clear hV hV1 hB1 hB2 HW2
    unfold infV at *
    go_enter Try.func16, Try.ntmps16
    go_wp2_with (at_lookup; refine Kd.event_run rfl (exec_lookup rfl rfl rfl HL.out) ?_)
    go_ret2
    exact ⟨rfl, HF.out.1, below_grownS HF.out.2 b⟩
  · rw [hh] at HL hR
    cases hr : rightI x
    · rw [hr] at hR
      subst hR
      have HB2 := Aside0.mk hB2
      have HR := Aside0.mk (fun W => Right_any x W)
      clear hV hV1 hB1 hB2
      unfold infV at *
      go_enter Try.func16, Try.ntmps16
      go_wp2_with (at_lookup; refine Kd.event_run rfl (exec_lookup rfl rfl rfl HL.out) ?_)
      refine (HR.out _).mono ?_
      rintro e w1 ⟨rfl, hB⟩
      rw [hr]
      have HF := Aside0.mk (And.intro (HW2.out.kept hB) (below_step HB2.out hB))
      clear hB HW2 HB2
      go_wp2_with fail
      go_ret2
      exact ⟨rfl, HF.out.1, below_grownS HF.out.2 b⟩
    · skip
      have HB2 := Aside0.mk hB2
      have HR := Aside0.mk (fun W => Right_any x W)
      have HMX := Aside0.mk hm
      have HLX := Aside0.mk hl
      have hx1 := blk_alloc (blk_new w (.cells #[.int .i64 x.1, .int .i64 x.2] 24 (0, 0))) (.cells #[.int .i64 y.1, .int .i64 y.2] 24 (0, 0))
      have hy1 := blk_new_at (w := w.alloc (.cells #[.int .i64 x.1, .int .i64 x.2] 24 (0, 0))) (o := .cells #[.int .i64 y.1, .int .i64 y.2] 24 (0, 0)) (g := w.heap.size + 1) (by unfold World.alloc; simp)
      have HX := Aside0.mk hx1
      have HY := Aside0.mk hy1
      clear hV hV1 hB1 hB2 hm hl hx1 hy1
      unfold infV at *
      rw [hr] at hR
      simp only [Bool.and_self, if_true] at hR
      by_cases hme : k = (me : Int) ∧ x.1 ≠ 0
      · obtain ⟨rfl, hx0⟩ := hme
        rw [if_pos ⟨rfl, hx0⟩] at hR
        subst hR
        have hx0' : (x.1 == 0) = false := by simpa using hx0
        go_enter Try.func16, Try.ntmps16
        go_wp2_with (at_lookup; refine Kd.event_run rfl (exec_lookup rfl rfl rfl HL.out) ?_)
        refine (HR.out _).mono ?_
        rintro e w1 ⟨rfl, hB⟩
        rw [hr]
        have HF := Aside0.mk (And.intro (HW2.out.kept hB) (below_step HB2.out hB))
        have c0 := blk_cell HF.out.1.v 0
        have c2 := blk_cell HF.out.1.v 2
        have hx := blk_below HX.out hB
        have hy' := blk_below HY.out hB
        have x0 := blk_cell hx 0
        have x1 := blk_cell hx 1
        have y0 := blk_cell hy' 0
        have y1 := blk_cell hy' 1
        have hW1 := hB.size
        have HX := Aside0.mk hx
        clear hB hx hy' HW2 HB2
        have HA := Aside0.mk (answer_any y.1 y.2 x.2 w1 HF.out.1 HMX.out HLX.out (rightI_c hr).2 (rightI_c hr).1)
        unfold infV at HA
        generalize ansX me xs y.2 x.2 = R at *
        obtain ⟨r1, r2⟩ := R
        go_wp2_with fail
        refine HA.out.mono ?_
        rintro e w2 ⟨rfl, hV2, hg2⟩
        have HF2 := Aside0.mk (And.intro hV2 ((below_grownS HF.out.2 b).trans hg2))
        clear hV2 hg2 HA
        go_wp2_with fail
        go_ret2
        exact ⟨rfl, HF2.out.1, HF2.out.2⟩
      · rw [if_neg hme] at hR
        have HN := Aside0.mk (fun W => Newer_any x y W)
        unfold infV at HN
        have hcase : (k == (me : Int)) = false ∨ ((k == (me : Int)) = true ∧ (x.1 == 0) = true) := by
          by_cases h1 : k = (me : Int)
          · right; refine ⟨by simpa using h1, ?_⟩
            have : ¬ x.1 ≠ 0 := fun h2 => hme ⟨h1, h2⟩
            simpa using this
          · left; simpa using h1
        have HK := Aside0.mk (hasI_in hh)
        have HX0 := Aside0.mk hR
        clear hR hme
        rcases hcase with hk0 | ⟨hk0, hx0⟩ <;> (
          go_enter Try.func16, Try.ntmps16
          go_wp2_with (at_lookup; refine Kd.event_run rfl (exec_lookup rfl rfl rfl HL.out) ?_)
          refine (HR.out _).mono ?_
          rintro e w1 ⟨rfl, hB⟩
          rw [hr]
          have HF := Aside0.mk (And.intro (HW2.out.kept hB) (below_step HB2.out hB))
          have c0 := blk_cell HF.out.1.v 0
          have c2 := blk_cell HF.out.1.v 2
          have hx := blk_below HX.out hB
          have hy' := blk_below HY.out hB
          have x0 := blk_cell hx 0
          have x1 := blk_cell hx 1
          have y0 := blk_cell hy' 0
          have y1 := blk_cell hy' 1
          have HX := Aside0.mk hx
          have HY := Aside0.mk hy'
          clear hB hx hy' HW2 HB2
          go_wp2_with fail
          refine (HN.out _).mono ?_
          rintro e w2 ⟨rfl, hB⟩
          replace HF := Aside0.mk (And.intro (HF.out.1.kept hB) (below_step HF.out.2 hB))
          replace HX := Aside0.mk (blk_below HX.out hB)
          clear hB c0 c2 x0 x1 y0 y1 HN HR
          cases hn : newB x y
          · have hR := HX0.out
            rw [hn] at hR
            rw [if_neg (by simp)] at hR
            subst hR
            go_wp2_with fail
            go_ret2
            exact ⟨rfl, HF.out.1, below_grownS HF.out.2 b⟩
          · have hR := HX0.out
            rw [hn, if_pos rfl] at hR
            subst hR
            obtain ⟨hk1, hk2⟩ := HK.out
            obtain ⟨kn, rfl⟩ : ∃ kn : Nat, k = (kn : Int) := ⟨k.toNat, by omega⟩
            have HKN : Aside0 (kn < xs.length) := ⟨by omega⟩
            clear hk1 hk2
            replace HF := Aside0.mk (show VW me g b xs w2.drew ∧ w.grownBy w2.drew (some b) from ⟨⟨HF.out.1.v, HF.out.1.m⟩, below_grownS (below_drew HF.out.2) b⟩)
            replace HX := Aside0.mk (show w2.drew.heap[w.heap.size]? = _ from HX.out)
            go_upto_region 10 with fail
            refine RegionF.region_F (F := (fun X => X = w2.drew)) 6 (by kernel_rfl) (by kernel_rfl) rfl ?_
            simp only [List.take_succ_cons, List.take_zero, List.drop_succ_cons, List.drop_zero]
            generalize w2.drew = Y at *
            have c2 := blk_cell HF.out.1.v 2
            have x0 := blk_cell HX.out 0
            have x1 := blk_cell HX.out 1
            apply RegionF.wpF_step
            · rfl
            · (intro X hX; subst hX; go_simp; exact RegionF.GivesF.value rfl rfl)
            refine RegionF.wpF_put (fun K' hK' => ?_)
            go_simp
            refine hK' _ ?_
            clear hK' K'
            apply RegionF.wpF_step
            · rfl
            · (intro X hX; subst hX; go_simp; exact RegionF.GivesF.value rfl rfl)
            refine RegionF.wpF_put (fun K' hK' => ?_)
            go_simp
            refine hK' _ ?_
            clear hK' K'
            apply RegionF.wpF_step
            · rfl
            · (intro X hX; subst hX; go_simp; exact RegionF.GivesF.value rfl rfl)
            refine RegionF.wpF_put (fun K' hK' => ?_)
            go_simp
            refine hK' _ ?_
            clear hK' K'
            apply RegionF.wpF_step
            · rfl
            · (intro X hX; subst hX; go_simp; exact RegionF.GivesF.value rfl rfl)
            refine RegionF.wpF_put (fun K' hK' => ?_)
            go_simp
            refine hK' _ ?_
            clear hK' K'
            apply RegionF.wpF_step
            · rfl
            · (intro X hX; subst hX; go_simp; exact RegionF.GivesF.value rfl rfl)
            refine RegionF.wpF_put (fun K' hK' => ?_)
            go_simp
            refine hK' _ ?_
            clear hK' K'
            apply RegionF.wpF_step
            · rfl
            · (intro X hX; subst hX; go_simp; exact RegionF.GivesF.value rfl rfl)
            refine RegionF.wpF_put (fun K' hK' => ?_)
            go_simp
            refine hK' _ ?_
            clear hK' K'
            refine RegionF.wpF_nil (fun X hX => ?_)
            subst hX
            obtain ⟨w3, hrun, hV2, hg2⟩ := HF.out.1.put HKN.out HLX.out x
            have HRUN := Aside0.mk hrun
            replace HF := Aside0.mk (And.intro hV2 (HF.out.2.trans hg2))
            clear hrun hV2 hg2 c2
            unfold infV at HRUN
            go_wp2_with (at_mapUpdate; refine event_skip rfl (exec_mapUpdate rfl (by go_simp) (by go_simp) (by go_simp) HRUN.out) ?_)
            go_ret2
            exact ⟨rfl, by rw [Int.toNat_natCast]; exact HF.out.1, HF.out.2⟩)
end Go.Proofs.Ytkdhccbgbkhnnaa.Memb
