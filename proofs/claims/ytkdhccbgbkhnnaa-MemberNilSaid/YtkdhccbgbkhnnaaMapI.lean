/- A map whose keys are 0, 1, .. in the order in which they were laid, and whose elements are pairs of numbers. -/
import Derived.Maps.Own
import Derived.Test.YtkdhccbgbkhnnaaBase
namespace Go.Proofs.Ytkdhccbgbkhnnaa.MapI
open Go.RowKit Go.Maps Go.WideElems Go.ChangeMaps Go.MapKept
set_option linter.unusedVariables false
set_option linter.unusedSimpArgs false
/-- An element. -/
def infV (x : Int × Int) : Value := .agg #[.int .i64 x.1, .int .i64 x.2]
/-- How it reads. -/
def infR (v : Value) : Option (DataW Unit × List MemPlace) :=
  match v.cells.toList with
  | [.int .i64 a, .int .i64 c] => some (.agg [.lit (.int .i64 a), .lit (.int .i64 c)], [])
  | _ => none
theorem infR_mk (x : Int × Int) : infR (infV x) = some (.agg [.lit (.int .i64 x.1), .lit (.int .i64 x.2)], []) := by simp [infR, infV, Value.cells]
/-- Block b is the map. -/
def IMap (P : Program) (k : TypeId) (w : World) (b : Nat) (xs : List (Int × Int)) : Prop :=
  ∃ es clock, w.heap[b]? = some (.map es clock) ∧ Fit P k infR es clock ∧ es.toList.length = xs.length ∧ ∀ (i : Nat) x, xs[i]? = some x → ∃ born : Nat, es.toList[i]? = some (MapEntry.mk (.int .i64 i) (infV x) born)
/-- How one is seen. -/
def getI (xs : List (Int × Int)) (j : Int) : Int × Int := if 0 ≤ j then (xs[j.toNat]?).getD (0, 0) else (0, 0)
def hasI (xs : List (Int × Int)) (j : Int) : Bool := decide (0 ≤ j) && decide (j < xs.length)
variable {P : Program} {k : TypeId} {w : World} {b : Nat} {xs : List (Int × Int)}
theorem IMap.lt (h : IMap P k w b xs) : b < w.heap.size := by
  obtain ⟨es, clock, hb, _⟩ := h
  exact (Array.getElem?_eq_some_iff.1 hb).1
theorem IMap.made (w : World) : IMap P k (w.alloc (.map #[] 0)) w.heap.size [] :=
  ⟨#[], 0, (MapKept.heap_alloc w _).1, ⟨by simp, stamped_empty 0, by simp⟩, rfl, by simp⟩
theorem IMap.kept {w' : World} {row : Option Nat} (h : IMap P k w b xs) (hg : w.grownBy w' row) (hne : some b ≠ row) : IMap P k w' b xs := by
  have hlt := h.lt
  obtain ⟨es, clock, hb, r⟩ := h
  exact ⟨es, clock, (hg.block b hlt hne).trans hb, r⟩
theorem IMap.owns (h : IMap P k w b xs) : ∃ D, w.ownsMap P k infR b xs.length D := by
  obtain ⟨es, clock, hb, F, hl, _⟩ := h
  exact ⟨_, es, clock, hb, F, by rw [← hl]; simp, rfl⟩
theorem int_wf {j : Nat} (h : j < 9223372036854775808) : (Lit.int .i64 (j : Int)).wf = true := WalkArith.wf_i64 (by omega)
/-- A look-up. -/
theorem IMap.look {t e : TypeId} (h : IMap P k w b xs) (c : Bool) (hk : P.underlying k = some (.int .i64)) (ht : P.underlying t = some (.map k e)) (hz : (zeroValue e).run P w = .ok (infV (0, 0)) w) {j : Int} (hw : (Lit.int .i64 j).wf = true) :
    (Instr.lookup t (.map (some b)) (.int .i64 j) c).run P w = .ok (if c then .tuple #[infV (getI xs j), .bool (hasI xs j)] else infV (getI xs j)) w := by
  obtain ⟨es, clock, hb, F, hl, hx⟩ := h
  have K := int_keyed hk
  have hkey := keyOf_int_mk hk hw
  rcases K.find w hkey es.toList F.keys with ⟨h1, h2⟩ | ⟨i, e0, h1, h2, h3⟩
  · have hno : hasI xs j = false ∧ getI xs j = (0, 0) := by
      by_cases hj : 0 ≤ j ∧ j < xs.length
      · exfalso
        have hlt : j.toNat < xs.length := by omega
        obtain ⟨born, hb1⟩ := hx j.toNat _ (List.getElem?_eq_getElem hlt)
        refine h2 _ (List.mem_of_getElem? hb1) ?_
        simp only [Value.int.injEq, true_and]; omega
      · unfold hasI getI
        refine ⟨?_, ?_⟩
        · rw [← Bool.decide_and]; exact decide_eq_false hj
        · split
          · rw [List.getElem?_eq_none (by omega)]; rfl
          · rfl
    rw [hno.1, hno.2]
    simp [Instr.lookup, run_underlying ht, MapKept.run_getObj_map hb, K.check w _ hkey, h1, hz, Result.andThen]
  · have hil : i < xs.length := by rw [← hl]; exact (List.getElem?_eq_some_iff.1 h2).1
    obtain ⟨born, hb1⟩ := hx i _ (List.getElem?_eq_getElem hil)
    rw [h2] at hb1
    cases Option.some.inj hb1
    simp only [Value.int.injEq, true_and] at h3
    subst h3
    have e1 : hasI xs (i : Int) = true := by unfold hasI; rw [← Bool.decide_and]; exact decide_eq_true (by omega)
    have e2 : getI xs (i : Int) = xs[i] := by unfold getI; rw [if_pos (by omega), Int.toNat_natCast, List.getElem?_eq_getElem hil]; rfl
    rw [e1, e2]
    simp [Instr.lookup, run_underlying ht, MapKept.run_getObj_map hb, K.check w _ hkey, h1, Result.andThen]
/-- A store at a key that is there. -/
theorem IMap.put {t e : TypeId} (h : IMap P k w b xs) (hk : P.underlying k = some (.int .i64)) (ht : P.underlying t = some (.map k e)) {j : Nat} (hj : j < xs.length) (hm : xs.length < 9223372036854775807) (x : Int × Int) :
    ∃ w', (Instr.mapUpdate t (.map (some b)) (.int .i64 j) (infV x)).run P w = .ok () w' ∧ IMap P k w' b (xs.set j x) ∧ w.grownBy w' (some b) := by
  obtain ⟨es, clock, hb, F, hl, hx⟩ := h
  have K := int_keyed hk
  have hkey := keyOf_int_mk hk (int_wf (j := j) (by omega))
  rcases K.find w hkey es.toList F.keys with ⟨h1, h2⟩ | ⟨i, e0, h1, h2, h3⟩
  · exfalso
    obtain ⟨born, hb1⟩ := hx j _ (List.getElem?_eq_getElem hj)
    exact h2 _ (List.mem_of_getElem? hb1) rfl
  · have hil : i < xs.length := by rw [← hl]; exact (List.getElem?_eq_some_iff.1 h2).1
    obtain ⟨born, hb1⟩ := hx i _ (List.getElem?_eq_getElem hil)
    rw [h2] at hb1
    cases Option.some.inj hb1
    simp only [Value.int.injEq, true_and] at h3
    obtain rfl : i = j := by omega
    have hij : es[i]? = some ⟨.int .i64 i, infV xs[i], born⟩ := by simpa using h2
    have hlist : (es.modify i (fun e' => { e' with key := .int .i64 i, val := infV x })).toList = es.toList.set i ⟨.int .i64 i, infV x, born⟩ := by rw [Array.toList_modify, modify_eq_set _ _ _ _ h2]
    refine ⟨setBlock w b (.map (es.modify i (fun e' => { e' with key := .int .i64 i, val := infV x })) clock), ?_, ⟨_, clock, heap_setBlock_same hb _, ⟨by simpa using F.size, stamped_modify F.stamped _ _ (fun _ _ => rfl) (fun e' _ he' => by rw [hij] at he'; cases he'; rfl), ?_⟩, ?_, ?_⟩, ⟨rfl, rfl, rfl, by simp [setBlock], fun i _ hi => heap_setBlock_other hb _ (fun e => hi (by rw [e]))⟩⟩
    · simp [Instr.mapUpdate, run_underlying ht, MapKept.run_getObj_map hb, K.check w false hkey, h1, hij, K.stays w hkey, MapKept.run_setObj_map _ hb, Result.andThen, setBlock]
    · intro y hy
      rw [hlist] at hy
      rcases List.mem_or_eq_of_mem_set hy with hy | rfl
      · exact F.reads y hy
      · exact ⟨_, rd_mk hkey (infR_mk x)⟩
    · rw [hlist]; simpa using hl
    · intro i' y hy
      rw [hlist]
      rw [List.getElem?_set] at hy ⊢
      split at hy
      · rename_i hii
        subst hii
        rw [if_pos rfl, if_pos (by rw [hl]; exact hil)]
        cases hy
        exact ⟨born, rfl⟩
      · rename_i hii
        rw [if_neg hii]
        exact hx i' y hy
/-- A store at the next key. -/
theorem IMap.push {t e : TypeId} (h : IMap P k w b xs) (hk : P.underlying k = some (.int .i64)) (ht : P.underlying t = some (.map k e)) (hm : xs.length < 1000) (x : Int × Int) :
    ∃ w', (Instr.mapUpdate t (.map (some b)) (.int .i64 xs.length) (infV x)).run P w = .ok () w' ∧ IMap P k w' b (xs ++ [x]) ∧ w.grownBy w' (some b) := by
  obtain ⟨es, clock, hb, F, hl, hx⟩ := h
  have K := int_keyed hk
  have hkey := keyOf_int_mk hk (int_wf (j := xs.length) (by omega))
  rcases K.find w hkey es.toList F.keys with ⟨h1, h2⟩ | ⟨i, e0, h1, h2, h3⟩
  · refine ⟨setBlock w b (.map (es.push ⟨.int .i64 xs.length, infV x, clock⟩) (clock + 1)), ?_, ⟨_, clock + 1, heap_setBlock_same hb _, ⟨?_, stamped_push F.stamped h2, ?_⟩, ?_, ?_⟩, ⟨rfl, rfl, rfl, by simp [setBlock], fun i _ hi => heap_setBlock_other hb _ (fun e => hi (by rw [e]))⟩⟩
    · simp [Instr.mapUpdate, run_underlying ht, MapKept.run_getObj_map hb, K.check w false hkey, h1, MapKept.run_setObj_map _ hb, Result.andThen, setBlock]
    · have : es.size = xs.length := by rw [← hl]; simp
      simp [maxLen]; omega
    · intro y hy
      simp only [Array.toList_push, List.mem_append, List.mem_singleton] at hy
      rcases hy with hy | rfl
      · exact F.reads y hy
      · exact ⟨_, rd_mk hkey (infR_mk x)⟩
    · simp [hl]
    · intro i y hy
      rw [Array.toList_push]
      by_cases hi : i < xs.length
      · rw [List.getElem?_append_left (by omega)] at hy ⊢
        exact hx i y hy
      · obtain rfl : i = xs.length := by
          have := (List.getElem?_eq_some_iff.1 hy).1
          simp at this; omega
        rw [List.getElem?_append_right (by omega)] at hy ⊢
        simp only [hl, Nat.sub_self, List.getElem?_cons_zero, Option.some.injEq] at hy ⊢
        subst hy
        exact ⟨clock, rfl⟩
  · exfalso
    have hil : i < xs.length := by rw [← hl]; exact (List.getElem?_eq_some_iff.1 h2).1
    obtain ⟨born, hb1⟩ := hx i _ (List.getElem?_eq_getElem hil)
    rw [h2] at hb1
    cases Option.some.inj hb1
    simp only [Value.int.injEq, true_and] at h3
    omega
end Go.Proofs.Ytkdhccbgbkhnnaa.MapI
