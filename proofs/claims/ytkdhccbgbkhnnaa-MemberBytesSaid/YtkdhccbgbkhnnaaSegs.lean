/- Structs in memory as one list of segments. -/
import Derived.Test.YtkdhccbgbkhnnaaBase
import Derived.Deep.MidRow
import Derived.Laws.Tables
namespace Go.Proofs.Ytkdhccbgbkhnnaa.Segs
open Go.RowKit Go.Proofs.Ytkdhccbgbkhnnaa.Help Go.Proofs.Ytkdhccbgbkhnnaa.Mem Go.Proofs.YtkdhccbgbkhnnaaW.PrintWords Go.Proofs.YtkdhccbgbkhnnaaW.PrintLast Go.Proofs.YtkdhccbgbkhnnaaW.PrintMore
set_option linter.unusedVariables false
set_option linter.unusedSimpArgs false
def flat (segs : List (List Value)) : Array Value := segs.flatten.toArray
def off (segs : List (List Value)) (i : Nat) : Nat := ((segs.take i).flatten).length
theorem flat_split {segs : List (List Value)} {i : Nat} {s : List Value} (h : segs[i]? = some s) : segs.flatten = (segs.take i).flatten ++ (s ++ (segs.drop (i + 1)).flatten) := by
  have hi := (List.getElem?_eq_some_iff.1 h).1
  have hs := (List.getElem?_eq_some_iff.1 h).2
  conv => lhs; rw [← List.take_append_drop i segs, List.drop_eq_getElem_cons hi]
  rw [List.flatten_append, List.flatten_cons, hs]
theorem flat_set {segs : List (List Value)} {i : Nat} (s' : List Value) (hi : i < segs.length) : (segs.set i s').flatten = (segs.take i).flatten ++ (s' ++ (segs.drop (i + 1)).flatten) := by
  rw [List.set_eq_take_append_cons_drop, if_pos hi, List.flatten_append, List.flatten_cons]
theorem flat_get {segs : List (List Value)} {i o : Nat} {s : List Value} (h : segs[i]? = some s) (ho : off segs i = o) {j : Nat} {x : Value} (hj : s[j]? = some x) : (flat segs)[o + j]? = some x := by
  subst ho
  have hjl := (List.getElem?_eq_some_iff.1 hj).1
  rw [flat, List.getElem?_toArray, flat_split h, off, List.getElem?_append_right (by omega), Nat.add_sub_cancel_left, List.getElem?_append_left hjl, hj]
theorem splice_seg {segs : List (List Value)} {i : Nat} {s s' : List Value} (h : segs[i]? = some s) (hl : s'.length = s.length) : splice segs.flatten (off segs i) s' = (segs.set i s').flatten := by
  have hi := (List.getElem?_eq_some_iff.1 h).1
  rw [flat_set s' hi, flat_split h, splice, off, List.take_left' rfl, hl, ← List.drop_drop, List.drop_left' rfl, List.drop_left' rfl]
theorem off_le {segs : List (List Value)} {i : Nat} {s : List Value} (h : segs[i]? = some s) : off segs i + s.length ≤ segs.flatten.length := by
  rw [flat_split h, off]; simp only [List.length_append]; omega
section
variable {P : Program} {W : World} {g o : Nat} {t ty : TypeId} {segs : List (List Value)} {i : Nat}
theorem seg_cell {x : Value} (hb : W.heap[g]? = some (.cells (flat segs) t (0, 0))) (h : segs[i]? = some [x]) (ho : off segs i = o) : W.cell? ⟨g, o, none⟩ = some x := by
  have := flat_get h ho (j := 0) (x := x) rfl
  rw [blk_cell hb]; exact this
theorem seg_cellj {s : List Value} {x : Value} (hb : W.heap[g]? = some (.cells (flat segs) t (0, 0))) (h : segs[i]? = some s) (ho : off segs i = o) (j : Nat) (hj : s[j]? = some x) : W.cell? ⟨g, o + j, none⟩ = some x := by
  rw [blk_cell hb]; exact flat_get h ho hj
/-- A struct or an array within a struct, loaded. -/
theorem seg_load {s : List Value} {d : TypeDesc} (hb : W.heap[g]? = some (.cells (flat segs) t (0, 0))) (h : segs[i]? = some s) (ho : off segs i = o) (hu : P.underlying ty = some d) (hd : d.isRow = true) {n : Nat} (hi : (P.info? ty).map (·.size) = some n) (hn : s.length = n) :
    (loadVar ty ⟨g, o, none⟩).run P W = .ok (.agg s.toArray) W :=
  run_loadVar_mid W g o ty s d (fun j x hx => by rw [blk_cell hb]; exact flat_get h ho hx) hu hd (by rw [hi, hn])
/-- The whole. -/
theorem seg_whole {d : TypeDesc} (hb : W.heap[g]? = some (.cells (flat segs) t (0, 0))) (hu : P.underlying ty = some d) (hd : d.isRow = true) {n : Nat} (hi : (P.info? ty).map (·.size) = some n) (hn : segs.flatten.length = n) :
    (loadVar ty ⟨g, 0, none⟩).run P W = .ok (.agg (flat segs)) W :=
  run_loadVar_mid W g 0 ty segs.flatten d (fun j x hx => by rw [blk_cell hb, flat, Nat.zero_add, List.getElem?_toArray]; exact hx) hu hd (by rw [hi, hn])
theorem setCells_flat {s s' : List Value} (hb : W.heap[g]? = some (.cells (flat segs) t (0, 0))) (h : segs[i]? = some s) (ho : off segs i = o) (hl : s'.length = s.length) :
    (W.setCells g o s').heap[g]? = some (.cells (flat (segs.set i s')) t (0, 0)) := by
  subst ho
  have hle := off_le h
  obtain ⟨cs', h1, h2⟩ := setCells_heap s' (off segs i) (flat segs) hb (by simp [flat]; simp at hle; omega)
  rw [h1]
  have : cs' = flat (segs.set i s') := Array.ext' (by rw [h2, flat, List.toList_toArray, splice_seg h hl]; rfl)
  rw [this]
/-- A struct stored within a struct. -/
theorem seg_store {s s' : List Value} (hb : W.heap[g]? = some (.cells (flat segs) t (0, 0))) (h : segs[i]? = some s) (ho : off segs i = o) (hl : s'.length = s.length) {n : Nat} (hi : (P.info? ty).map (·.size) = some n) (hn : s'.length = n) (h1 : ∀ v ∈ s', v.oneCell' = true) :
    ∃ W1, (storeVar ty ⟨g, o, none⟩ (.agg s'.toArray)).run P W = .ok () W1 ∧ W1.heap[g]? = some (.cells (flat (segs.set i s')) t (0, 0)) ∧ W.grownBy W1 (some g) := by
  refine ⟨_, run_storeVar_mid W g o ty s'.toArray ?_ (by rw [hi]; simp [hn]) (all_oneCell_toArray h1), setCells_flat hb h ho hl, setCells_grown W g _ o⟩
  intro j hj
  have hj' : j < s.length := by simp at hj; omega
  have hx : s[j]? = some s[j] := List.getElem?_eq_getElem hj'
  exact ⟨by rw [blk_cell hb, flat_get h ho hx]; rfl, blk_frozen hb _⟩
/-- One cell stored. -/
theorem seg_set {x y : Value} (hb : W.heap[g]? = some (.cells (flat segs) t (0, 0))) (h : segs[i]? = some [x]) (ho : off segs i = o) :
    (W.setCell ⟨g, o, none⟩ y).heap[g]? = some (.cells (flat (segs.set i [y])) t (0, 0)) ∧ W.grownBy (W.setCell ⟨g, o, none⟩ y) (some g) :=
  ⟨setCells_flat (s' := [y]) hb h ho rfl, setCells_grown W g [y] o⟩
/-- A whole struct stored over another one. -/
theorem seg_over {segs' : List (List Value)} (hb : W.heap[g]? = some (.cells (flat segs) t (0, 0))) (hl : segs'.flatten.length = segs.flatten.length) {n : Nat} (hi : (P.info? ty).map (·.size) = some n) (hn : segs'.flatten.length = n) (h1 : ∀ v ∈ segs'.flatten, v.oneCell' = true) :
    (storeVar ty ⟨g, 0, none⟩ (.agg (flat segs'))).run P W = .ok () (W.setRow g (flat segs')) :=
  run_storeVar_row W g t ty _ _ hb (by rw [hi]; simp [flat, hn]) (by simp only [flat, List.size_toArray]; exact hl.symm) (all_oneCell_toArray h1)
end
/-- A struct stored into what was made just now. -/
theorem seg_new {P : Program} (w : World) {g : Nat} (hg : g = w.heap.size) {ty : TypeId} {segs' : List (List Value)} {cs : Array Value} (hl : segs'.flatten.length = cs.size) (hi : (P.info? ty).map (·.size) = some cs.size) (h1 : ∀ v ∈ segs'.flatten, v.oneCell' = true) :
    (storeVar ty ⟨g, 0, none⟩ (.agg (flat segs'))).run P (w.alloc (.cells cs ty)) = .ok () (w.alloc (.cells (flat segs') ty)) := by
  subst hg
  rw [run_storeVar_row (w.alloc (.cells cs ty)) w.heap.size ty ty cs (flat segs') (blk_new w _) (by rw [hi]; simp [flat, ← hl]) (by simp [flat, ← hl]) (all_oneCell_toArray h1), setRow_alloc]
/-! ### literals -/
theorem fold_splice (vs : List Value) : ∀ (k : Nat) (o : Nat) (cs : Array Value), o + k + vs.length ≤ cs.size →
    ((vs.zipIdx k).foldl (fun cs (c, j) => cs.setIfInBounds (o + j) c) cs).toList = splice cs.toList (o + k) vs := by
  induction vs with
  | nil => intro k o cs h; simp [splice]
  | cons v vs ih =>
    intro k o cs h
    rw [List.zipIdx_cons, List.foldl_cons, ih (k + 1) o _ (by simp at h ⊢; omega), Array.toList_setIfInBounds]
    exact splice_cons _ _ _ _ (by simp at h ⊢; omega)
/-- One part of a literal laid. -/
theorem fill_seg {place : Nat → Option (Nat × Nat)} {segs : List (List Value)} {i n o : Nat} {s : List Value} {v : Value} {rest : List (Nat × Value)} (h : segs[i]? = some s) (hp : place i = some (o, n)) (ho : off segs i = o) (hn : s.length = n) (hv : v.cells.toList.length = n) :
    Instr.fill place (flat segs) ((i, v) :: rest) = Instr.fill place (flat (segs.set i v.cells.toList)) rest := by
  have hle := off_le h
  rw [Instr.fill, hp]
  simp only
  have hs : v.cells.size = n := by simpa using hv
  rw [if_neg (by simp [flat, hs]; simp at hle; omega)]
  congr 1
  apply Array.ext'
  have := fold_splice v.cells.toList 0 o (flat segs) (by simp [flat, hs]; simp at hle; omega)
  rw [Nat.add_zero] at this
  rw [← Array.foldl_toList, Array.toList_zipIdx, this, flat, List.toList_toArray, ← ho, splice_seg h (by rw [hv, hn])]
  rfl
theorem off_sum (segs : List (List Value)) (i : Nat) : off segs i = ((segs.map List.length).take i).sum := by
  rw [off, List.length_flatten, List.map_take]
theorem off_congr {Z S : List (List Value)} (h : Z.map List.length = S.map List.length) (i : Nat) : off Z i = off S i := by rw [off_sum, off_sum, h]
/-- A literal of a struct: some fields laid over noughts. -/
theorem fill_struct {place : Nat → Option (Nat × Nat)} {S : List (List Value)} : ∀ (ps : List (Nat × Value)) (Z : List (List Value)), Z.map List.length = S.map List.length →
    (∀ p ∈ ps, S[p.1]? = some p.2.cells.toList ∧ place p.1 = some (off S p.1, p.2.cells.toList.length)) → (∀ i, i < Z.length → (∀ p ∈ ps, p.1 ≠ i) → Z[i]? = S[i]?) → Instr.fill place (flat Z) ps = some (flat S)
  | [], Z, hl, _, hz => by
    have e : Z = S := by
      apply List.ext_getElem?
      intro i
      rcases Nat.lt_or_ge i Z.length with h | h
      · exact hz i h (fun _ hp => by cases hp)
      · have : S.length = Z.length := by have := congrArg List.length hl; simpa using this.symm
        rw [List.getElem?_eq_none h, List.getElem?_eq_none (by omega)]
    rw [e]; rfl
  | (i, v) :: ps, Z, hl, hp, hz => by
    obtain ⟨h1, h2⟩ := hp (i, v) List.mem_cons_self
    have hlen : Z.length = S.length := by have := congrArg List.length hl; simpa using this
    have hi : i < Z.length := by rw [hlen]; exact (List.getElem?_eq_some_iff.1 h1).1
    have hzi : Z[i]? = some Z[i] := List.getElem?_eq_getElem hi
    have hln : (Z[i]).length = v.cells.toList.length := by
      have h3 : (Z.map List.length)[i]? = (S.map List.length)[i]? := by rw [hl]
      rw [List.getElem?_map, List.getElem?_map, hzi, h1] at h3
      simpa using h3
    rw [fill_seg (s := Z[i]) hzi h2 (off_congr hl i) hln rfl]
    have hset : (Z.set i v.cells.toList).map List.length = S.map List.length := by
      rw [List.map_set, ← hl]
      apply List.ext_getElem?
      intro j
      rw [List.getElem?_set]
      by_cases e : i = j
      · subst e; rw [if_pos rfl, List.getElem?_map, hzi]; simp [hi]; exact hln.symm
      · rw [if_neg e]
    refine fill_struct ps _ hset (fun p hp' => hp p (List.mem_cons_of_mem _ hp')) (fun j hj hj2 => ?_)
    rw [List.getElem?_set]
    by_cases e : i = j
    · subst e; rw [if_pos rfl]; simp only [List.length_set] at hj; rw [if_pos hj, h1]
    · rw [if_neg e]
      refine hz j (by simpa using hj) (fun p hp' => ?_)
      rcases List.mem_cons.1 hp' with rfl | h
      · exact e
      · exact hj2 p h
/-! ### parts, for '==' -/
theorem part_agg {P : Program} {ty o n i : Nat} {d : TypeDesc} {s : List Value} {segs : List (List Value)} (hu : P.underlying ty = some d) (hd : d.isRow = true) (hi : (P.info? ty).map (·.size) = some n) (h : segs[i]? = some s) (ho : off segs i = o) (hn : s.length = n) (w : World) :
    (part ty (flat segs) o).run P w = .ok (.agg s.toArray) w := by
  have he : (flat segs).extract o (o + n) = s.toArray := by
    apply Array.ext'
    subst ho hn
    rw [flat, Array.toList_extract, List.toList_toArray, List.extract_eq_take_drop, Nat.add_sub_cancel_left, flat_split h, off, List.drop_left' rfl, List.take_left' rfl]
  obtain ⟨j, hj, hs⟩ := Option.map_eq_some_iff.1 hi
  cases d <;> simp only [TypeDesc.isRow, Bool.false_eq_true] at hd <;> simp [part, isAgg, run_underlying hu, sizeOf, typeInfo, hj, hs, he, go_sem]
theorem part_one {P : Program} {ty o i : Nat} {d : TypeDesc} {x : Value} {segs : List (List Value)} (hu : P.underlying ty = some d) (hd : d.isRow = false) (h : segs[i]? = some [x]) (ho : off segs i = o) (w : World) :
    (part ty (flat segs) o).run P w = .ok x w := by
  have he : (flat segs)[o]? = some x := flat_get h ho (j := 0) rfl
  cases d <;> simp only [TypeDesc.isRow, Bool.true_eq_false] at hd <;> simp [part, isAgg, run_underlying hu, he, go_sem]
end Go.Proofs.Ytkdhccbgbkhnnaa.Segs
