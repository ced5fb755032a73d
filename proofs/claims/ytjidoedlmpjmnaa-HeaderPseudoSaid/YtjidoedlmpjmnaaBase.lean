/- Base: Help, App, RegionF, Mem, RegionI, RegionI2, StepX, LitC, Own, Segs. -/
import Derived.Test.YtjidoedlmpjmnaaWMore
import Derived.Test.YtjidoedlmpjmnaaWNEv
import Derived.Laws.CopyOwn
import Derived.Laws.IdiomCopy
import Derived.ArgAppend
import Derived.WalkKit
import Derived.OwnWalk
import Derived.Deep.LoopGhost
import Derived.StillTail
import Derived.StillTailTactics
import Derived.OrdersHeld
import Derived.RegionTactic
import Derived.Test.YtjidoedlmpjmnaaProg
import Derived.Deep.MidRow
import Derived.Laws.Tables
namespace Go.Proofs.Ytjidoedlmpjmnaa.Help
open Go.RowKit Go.Proofs.YtjidoedlmpjmnaaW.PrintWords Go.Proofs.YtjidoedlmpjmnaaW.PrintLast Go.Proofs.YtjidoedlmpjmnaaW.PrintMore

theorem blk_new_at {w : World} {o : Obj} {g : Nat} (hg : g = w.heap.size) : (w.alloc o).heap[g]? = some o := by subst hg; exact blk_new w o
set_option linter.unusedSimpArgs false
set_option linter.unusedVariables false
/-- A stretch of a block whose cells are whole numbers is a slice that is read. -/
theorem C_of_block {w : World} {g off : Nat} {cs : Array Value} {t : TypeId} {fr : Nat × Nat} {k : IntKind} {xs : List Int} (hb : w.heap[g]? = some (.cells cs t fr))
    (hl : xs.length ≤ 9223372036854775807) (hx : ∀ j, j < xs.length → cs[off + j]? = some (.int k (xs.getD j 0))) : Kd.C (Kd.int k) w (some ⟨g, off, none⟩) xs.length xs := by
  refine Kd.C_of_reads (d := (0 : Int)) (h1 := fun _ => rfl) ⟨rfl, hl, fun _ => ⟨_, rfl, fun j hj => ?_⟩⟩
  have ha : (⟨g, off, none⟩ : Addr).add j = ⟨g, off + j, none⟩ := by unfold Addr.add; split <;> simp_all
  rw [ha, cell_of_row w g _ cs t fr hb, hx j hj]
/-- The same, the block's first cells. -/
theorem C_of_block0 {w : World} {g : Nat} {t : TypeId} {fr : Nat × Nat} {k : IntKind} {xs : List Int} {more : List Value} (hb : w.heap[g]? = some (.cells (nums k xs ++ more).toArray t fr))
    (hl : xs.length ≤ 9223372036854775807) : Kd.C (Kd.int k) w (some ⟨g, 0, none⟩) xs.length xs := by
  refine C_of_block hb hl fun j hj => ?_
  rw [Nat.zero_add, List.getElem?_toArray, List.getElem?_append_left (by simpa [nums] using hj)]
  simp [nums, List.getElem?_eq_getElem hj, List.getD_eq_getElem?_getD]

/-! ### operations by their run -/
section
variable {P : Program} {o : Oper} {a : Act} {W w1 : World} {v x y : Value} {t u : TypeId} {d s : Operand}
theorem exec_copy (ho : o.op = .call { callee := .builtin .copy, args := #[d, s], argTypes := #[t, u] }) (hd : a.eval d = x) (hs : a.eval s = y)
    (h : (Builtin.copy_ #[t, u] o.type #[x, y]).run P W = .ok v w1) : (execOp a.eval o).run P W = .ok (.value v) w1 := by
  simp [execOp, ho, resolve, invoke, builtin, hd, hs, h, Result.andThen]
theorem exec_append (ho : o.op = .call { callee := .builtin .append, args := #[d, s], argTypes := #[t, u] }) (hd : a.eval d = x) (hs : a.eval s = y)
    (h : (Builtin.append_ #[t, u] o.type #[x, y]).run P W = .ok v w1) : (execOp a.eval o).run P W = .ok (.value v) w1 := by
  simp [execOp, ho, resolve, invoke, builtin, hd, hs, h, Result.andThen]
theorem exec_load {ad : Addr} (ho : o.op = .load t d) (hd : a.eval d = .pointer (some ad)) (h : (loadVar t ad).run P W = .ok v W) : (execOp a.eval o).run P W = .ok (.value v) W := by
  simp only [execOp, ho, hd, Instr.loadAt, Instr.sureAddr, Sem.run_bind, Sem.run_pure, Result.andThen_ok, h]
theorem exec_store {ad : Addr} (ho : o.op = .store t d s) (hd : a.eval d = .pointer (some ad)) (hs : a.eval s = v) (h : (storeVar t ad v).run P W = .ok () w1) : (execOp a.eval o).run P W = .ok .skip w1 := by
  simp only [execOp, ho, hd, hs, Instr.storeAt, Instr.sureAddr, Sem.run_bind, Sem.run_pure, Result.andThen_ok, h]
theorem event_skip {ops : Array Oper} {rest : List Oper} {Q : Exit → Act → World → Prop} (hgd : o.guard = none) (hrun : (execOp a.eval o).run P W = .ok .skip w1) (h : wpList P ops Q rest (a.put o.dst undef) w1) : wpList P ops Q (o :: rest) a W := by
  refine wpList_plain hgd fun K hK => ?_
  unfold Oper.wp
  rw [hrun]
  exact hK _ _ h
theorem exec_make (ho : o.op = .makeSlice t d s) (hd : a.eval d = x) (hs : a.eval s = y)
    (h : (Instr.makeSlice t x y).run P W = .ok v w1) : (execOp a.eval o).run P W = .ok (.value v) w1 := by
  simp [execOp, ho, hd, hs, h, Result.andThen]
end
/-! ### copy, append with room -/
section
variable {P : Program}
theorem setRow_alloc (w : World) (c c' : Array Value) (t : TypeId) (fr : Nat × Nat) : (w.alloc (.cells c t fr)).setRow w.heap.size c' = w.alloc (.cells c' t fr) := by
  unfold World.setRow World.alloc
  congr 1
  apply Array.ext
  · simp
  · intro i h1 h2
    rw [Array.getElem_modify]
    by_cases h : w.heap.size = i
    · subst h; simp
    · have : i < w.heap.size := by simp at h1; omega
      simp [h, Array.getElem_push, this]
theorem splice_cons {α : Type} (L : List α) (n : Nat) (v : α) (vs : List α) (h : n < L.length) : splice (L.set n v) (n + 1) vs = splice L n (v :: vs) := by
  have hl : (L.take n).length = n := by simp; omega
  have e : L.set n v = L.take n ++ v :: L.drop (n + 1) := List.set_eq_take_append_cons_drop.trans (if_pos h)
  have key : ∀ A D : List α, splice (A ++ v :: D) (A.length + 1) vs = A ++ v :: (vs ++ D.drop vs.length) := by
    intro A D
    unfold splice
    rw [show A ++ v :: D = (A ++ [v]) ++ D by simp, List.take_left' (by simp), show A.length + 1 + vs.length = (A ++ [v]).length + vs.length by simp, ← List.drop_drop, List.drop_left]
    simp
  have k := key (L.take n) (L.drop (n + 1))
  rw [hl] at k
  rw [e, k]
  unfold splice
  rw [List.drop_drop, List.length_cons, show n + 1 + vs.length = n + (vs.length + 1) by omega]
  rfl
theorem setCells_heap {w : World} {g : Nat} {t : TypeId} (vs : List Value) : ∀ (n : Nat) (cs : Array Value), w.heap[g]? = some (.cells cs t (0, 0)) → n + vs.length ≤ cs.size →
    ∃ cs', (w.setCells g n vs).heap[g]? = some (.cells cs' t (0, 0)) ∧ cs'.toList = splice cs.toList n vs := by
  induction vs generalizing w with
  | nil => intro n cs h hn; exact ⟨cs, h, by simp [splice]⟩
  | cons v vs ih =>
    intro n cs h hn
    have h1 := blk_set h n v
    obtain ⟨cs', h2, h3⟩ := ih (n + 1) _ h1 (by simp at hn ⊢; omega)
    refine ⟨cs', h2, ?_⟩
    rw [h3]
    rw [Array.toList_setIfInBounds]
    exact splice_cons _ _ _ _ (by simp at hn ⊢; omega)
theorem setCells_grown (w : World) (g : Nat) (vs : List Value) : ∀ n, w.grownBy (w.setCells g n vs) (some g) := by
  induction vs generalizing w with
  | nil => intro n; exact World.grownBy.refl w _
  | cons v vs ih =>
    intro n
    refine World.grownBy.trans (b := w.setCell ⟨g, n, none⟩ v) ?_ (ih _ _)
    exact ⟨rfl, rfl, rfl, by simp [World.setCell], fun k hk hne => Below.heap_setCell w ⟨g, n, none⟩ v k (by simpa using hne)⟩
/-- A copy out of a slice that is read into a block that is known whole. -/
theorem copy_reads {W : World} {dT sT ty e : TypeId} {k : IntKind} (hu : P.underlying dT = some (.slice e)) (hs : (P.info? e).map (·.size) = some 1)
    {g o dLen dCap : Nat} {cs : Array Value} {t : TypeId} (hg : W.heap[g]? = some (.cells cs t (0, 0))) {A : Option Addr} {c : Nat} {xs : List Int} (hr : Kd.C (Kd.int k) W A xs.length xs) {m : Nat} (hm : m = Nat.min xs.length dLen) (ho : o + m ≤ cs.size) :
    ∃ w1, (Builtin.copy_ #[dT, sT] ty #[.slice (some ⟨g, o, none⟩) dLen dCap, .slice A xs.length c]).run P W = .ok (.int .i64 (m : Int)) w1 ∧
      (∃ cs' : Array Value, w1.heap[g]? = some (.cells cs' t (0, 0)) ∧ cs'.toList = splice cs.toList o (nums k (xs.take m))) ∧ W.grownBy w1 (some g) := by
  by_cases h0 : m = 0
  · refine ⟨W, ?_, ⟨cs, hg, by rw [h0]; simp [splice, nums]⟩, World.grownBy.refl W _⟩
    rw [h0]
    exact run_copy_none W dT sT ty e (some ⟨g, o, none⟩) A dLen dCap xs.length c hu hs (by rw [← hm]; exact h0)
  · have hx : m ≤ xs.length := by rw [hm]; exact Nat.min_le_left _ _
    obtain ⟨ad, rfl, hc⟩ := (Kd.reads_of_C (d := (0 : Int)) hr).2.2 (by omega)
    have hlen : (nums k (xs.take m)).length = m := by simp [nums]; omega
    have h := run_copy_cells (P := P) W dT sT ty e g o dLen dCap ad xs.length c (nums k (xs.take m)) hu hs (by rw [hlen]; exact hm) (fun j v hj => by
      have hjm : j < m := by rw [← hlen]; exact (List.getElem?_eq_some_iff.1 hj).1
      rw [hc j (by omega)]
      have hj2 : j < xs.length := by omega
      simp [nums, List.getElem?_take, hjm, List.getElem?_eq_getElem hj2] at hj
      subst hj
      simp [List.getD_eq_getElem?_getD, List.getElem?_eq_getElem hj2]) (fun j hj => by
      rw [blk_cell hg]
      have : o + j < cs.size := by omega
      simp [this]) (fun j _ => blk_frozen hg _) (fun v hv => by simp only [nums, List.mem_map] at hv; obtain ⟨x, _, rfl⟩ := hv; rfl)
    rw [hlen] at h
    exact ⟨_, h, setCells_heap _ o cs hg (by rw [hlen]; exact ho), setCells_grown W g _ o⟩
/-- append of one value into a row that has room. -/
theorem append_room {W : World} {t ty e : TypeId} {i : TypeInfo} (hu : P.underlying t = some (.slice e)) (hi : P.info? e = some i) (hs : i.size = 1)
    {g n c b : Nat} {cs : Array Value} {y : Value} (hg : W.heap[g]? = some (.cells cs e (0, 0))) (hn : n < c) (hcs : n < cs.size) (hy : W.cell? ⟨b, 0, none⟩ = some y) (h1 : y.oneCell' = true) :
    ∃ w1, (Builtin.append_ #[t, t] ty #[.slice (some ⟨g, 0, none⟩) n c, .slice (some ⟨b, 0, none⟩) 1 1]).run P W = .ok (.slice (some ⟨g, 0, none⟩) (n + 1) c) w1 ∧
      w1.heap[g]? = some (.cells (cs.setIfInBounds n y) e (0, 0)) ∧ W.grownBy w1 (some g) := by
  have h := run_append_room_cells (P := P) W t ty e i hu hi g 0 n c ⟨b, 0, none⟩ 1 1 [y] (by simp [hs]) (fun j u hj => by
    have : j = 0 := by have := (List.getElem?_eq_some_iff.1 hj).1; simpa using this
    subst this
    have : u = y := by simpa using hj.symm
    subst this
    exact hy) (by simpa using h1) (by omega) (fun j hj => by
    have : j = 0 := by simpa using hj
    subst this
    rw [hs, blk_cell hg]
    simp [hcs]) (fun j _ => blk_frozen hg _)
  rw [hs, Nat.zero_add, Nat.mul_one] at h
  refine ⟨_, h, ?_, setCells_grown W g _ n⟩
  exact blk_set hg n y
end
end Go.Proofs.Ytjidoedlmpjmnaa.Help
namespace Go.Proofs.Ytjidoedlmpjmnaa.Help
open Go.RowKit Go.Proofs.YtjidoedlmpjmnaaW.PrintWords Go.Proofs.YtjidoedlmpjmnaaW.PrintLast Go.Proofs.YtjidoedlmpjmnaaW.PrintMore
set_option linter.unusedSimpArgs false
set_option linter.unusedVariables false
theorem append_ints {P : Program} {W : World} {t ty e base : Nat} {i : TypeInfo} {k : IntKind} {v : Value} {xs ys : List Int} {A : Option Addr} {c : Nat} (ht : P.underlying t = some (.slice e)) (hi : P.info? e = some i)
    (hz0 : i.zero = some (.int k 0)) (hz1 : i.size = 1) (HO : W.ownsRow base e 1 v xs.length (nums k xs)) (hr : Kd.C (Kd.int k) W A ys.length ys) (hl : (xs.length + ys.length) * i.bytes ≤ 140737488355328) (h63 : xs.length + ys.length ≤ 140737488355328) (hbase : base ≤ W.heap.size) :
    ∃ v1 w1, (Builtin.append_ #[t, t] ty #[v, .slice A ys.length c]).run P W = .ok v1 w1 ∧ w1.ownsRow base e 1 v1 (xs ++ ys).length (nums k (xs ++ ys)) ∧ W.grownBy w1 v.ownBlock ∧ (v1.ownBlock = v.ownBlock ∨ v1.ownBlock = some W.heap.size) := by
  have HR := Kd.reads_of_C (d := (0 : Int)) hr
  rcases A with _ | ad
  · have h0 : ys.length = 0 := by
      rcases Nat.eq_zero_or_pos ys.length with h0 | h0
      · exact h0
      · obtain ⟨ad, h, _⟩ := HR.2.2 h0
        cases h
    obtain rfl : ys = [] := List.eq_nil_of_length_eq_zero h0
    refine ⟨v, W, ?_, by simpa using HO, World.grownBy.refl W _, .inl rfl⟩
    rcases HO.2 with ⟨rfl, hn⟩ | ⟨g, cap, cur, rfl, _, _, hnc, _⟩
    · simp [Builtin.append_, run_underlying ht, sizeOf, typeInfo, hi, Builtin.lenOf, Builtin.firstCells]
    · simp [Builtin.append_, run_underlying ht, sizeOf, typeInfo, hi, Builtin.lenOf, Builtin.firstCells, hnc, storeCells]
  · have hcells : ∀ j u, (nums k ys)[j]? = some u → W.cell? (ad.add j) = some u := by
      intro j u hu
      have hj : j < ys.length := by
        rcases Nat.lt_or_ge j ys.length with h | h
        · exact h
        · simp [nums, List.getElem?_eq_none h] at hu
      obtain ⟨ad', h', hc⟩ := HR.2.2 (by omega)
      injection h' with h'
      subst h'
      have := hc j (by omega)
      simp [nums, List.getElem?_eq_getElem hj] at hu
      subst hu
      rw [this]
      simp [List.getD_eq_getElem?_getD, List.getElem?_eq_getElem hj]
    obtain ⟨v1, w1, hr, h2, h3, _, h5⟩ := run_append_own_at (P := P) W base t ty e i (.int k 0) 1 i.bytes ht hi hz0 hz1 rfl rfl (by omega) v xs.length (nums k xs) HO ad ys.length c (nums k ys) (by simp [nums]) hcells
      (by intro u hu; simp only [nums, List.mem_map] at hu; obtain ⟨q, _, rfl⟩ := hu; rfl) (by simp only [maxLen]; omega) hl hbase
    exact ⟨v1, w1, hr, by simpa [nums] using h2, h3, h5⟩
/-- A row of one's own is read. -/
theorem owned_reads {W : World} {e base : Nat} {k : IntKind} {v : Value} {xs : List Int} (HO : W.ownsRow base e 1 v xs.length (nums k xs)) (hl : xs.length ≤ 9223372036854775807) :
    ∃ A c, v = .slice A xs.length c ∧ xs.length ≤ c ∧ Kd.C (Kd.int k) W A xs.length xs := by
  rcases HO.2 with ⟨rfl, hn⟩ | ⟨g, cap, cur, rfl, _, hg, hnc, _, _, ht⟩
  · obtain rfl : xs = [] := List.eq_nil_of_length_eq_zero hn
    exact ⟨none, 0, rfl, Nat.le_refl _, Kd.C_nil _ _⟩
  · refine ⟨some ⟨g, 0, none⟩, cap, rfl, hnc, C_of_block hg hl fun j hj => ?_⟩
    rw [Nat.zero_add, ← Array.getElem?_toList]
    have h1 : (cur.toList.take (xs.length * 1))[j]? = (nums k xs)[j]? := by rw [ht]
    rw [List.getElem?_take] at h1
    have h2 : j < xs.length * 1 := by omega
    rw [if_pos h2] at h1
    rw [h1]
    simp [nums, List.getElem?_eq_getElem hj, List.getD_eq_getElem?_getD]
theorem owned_nil (W : World) (base e : Nat) (k : IntKind) : W.ownsRow base e 1 (.slice none 0 0) ([] : List Int).length (nums k []) := World.ownsRow_nil W base e 1
/-- What grows by a row of one's own keeps all below. -/
theorem below_owned {w W w1 : World} {e : Nat} {v : Value} {n : Nat} {xs : List Value} (hB : Below w.heap.size w W) (HO : W.ownsRow w.heap.size e 1 v n xs) (hg : W.grownBy w1 v.ownBlock) : Below w.heap.size w w1 := by
  refine hB.grown hg hB.size ?_
  intro k hk
  rcases HO.2 with ⟨rfl, hn⟩ | ⟨g, cap, cur, rfl, hbg, _⟩
  · simp [Value.ownBlock] at hk
  · simp [Value.ownBlock] at hk; omega
theorem owned_below {w w1 : World} {e base n : Nat} {v : Value} {xs : List Value} (HO : w.ownsRow base e 1 v n xs) (hB : Below w.heap.size w w1) : w1.ownsRow base e 1 v n xs := by
  refine ⟨HO.1, ?_⟩
  rcases HO.2 with ⟨rfl, hn⟩ | ⟨g, cap, cur, rfl, hbg, hg, hrest⟩
  · exact .inl ⟨rfl, hn⟩
  · exact .inr ⟨g, cap, cur, rfl, hbg, blk_below hg hB, hrest⟩
end Go.Proofs.Ytjidoedlmpjmnaa.Help
namespace Go.Proofs.Ytjidoedlmpjmnaa.RegionF
open Go
set_option linter.unusedVariables false
section
variable {P : Program} {ops : Array Oper} {md : Region.Mode} {F : World → Prop}
/-- What an operation comes to: the value v, in a world of which F holds. -/
def GivesF (P : Program) (F : World → Prop) (v : Value) : Result Next → Prop
  | .ok (.value u) w' => u = v ∧ F w'
  | .ok .skip w' => v = undef ∧ F w'
  | .ok (.enter f args) w' => Calls P f args w' (fun e w'' => e = .returned v ∧ F w'')
  | _ => False
theorem GivesF.value {v u : Value} {w : World} (h : u = v) (hF : F w) : GivesF P F v (.ok (.value u) w) := ⟨h, hF⟩
theorem GivesF.enter {v : Value} {w : World} {f : FuncId} {args : Array Value} (h : Calls P f args w (fun e w'' => e = .returned v ∧ F w'')) : GivesF P F v (.ok (.enter f args) w) := h
def YieldsF (P : Program) (ops : Array Oper) (F : World → Prop) (o : Oper) (v : Value) (a : Act) : Prop :=
  (Region.wanted o (yielded ops a.tmps) = true ∧ ∀ w, F w → GivesF P F v ((execOp a.eval o).run P w)) ∨ (Region.wanted o (yielded ops a.tmps) = false ∧ v = undef)
theorem YieldsF.of_same {o : Oper} {v : Value} {a a' : Act} (hy : YieldsF P ops F o v a) (he : execOp a'.eval o = execOp a.eval o)
    (hw : Region.wanted o (yielded ops a'.tmps) = Region.wanted o (yielded ops a.tmps)) : YieldsF P ops F o v a' := by
  unfold YieldsF at *
  rw [he, hw]
  exact hy
/-- All in the text's order. -/
def wpF (P : Program) (ops : Array Oper) (F : World → Prop) (K : Act → Prop) : List Oper → Act → Prop
  | [], a => K a
  | o :: rest, a => ∃ v, YieldsF P ops F o v a ∧ wpF P ops F K rest (a.put o.dst v)
theorem wpF_nil {K : Act → Prop} {a : Act} (h : K a) : wpF P ops F K [] a := h
theorem wpF_step {K : Act → Prop} {a : Act} {o : Oper} {rest : List Oper} (v : Value) (hw : Region.wanted o (yielded ops a.tmps) = true) (hv : ∀ w, F w → GivesF P F v ((execOp a.eval o).run P w))
    (h : wpF P ops F K rest (a.put o.dst v)) : wpF P ops F K (o :: rest) a := ⟨v, .inl ⟨hw, hv⟩, h⟩
/-- The frame, written out anew. -/
theorem wpF_put {K : Act → Prop} {a : Act} {l : List Oper} (h : ∀ K' : Act → Prop, (∀ a, wpF P ops F K l a → K' a) → K' a) : wpF P ops F K l a := h _ (fun _ h => h)
theorem wpF_skip {K : Act → Prop} {a : Act} {o : Oper} {rest : List Oper} (hw : Region.wanted o (yielded ops a.tmps) = false)
    (h : wpF P ops F K rest (a.put o.dst undef)) : wpF P ops F K (o :: rest) a := ⟨undef, .inr ⟨hw, rfl⟩, h⟩
def stOpF (P : Program) (ops : Array Oper) (F : World → Prop) (i : Nat) (K : Act → Prop) (a : Act) : Prop :=
  match ops[i]? with
  | none => K a
  | some o => ∃ v, YieldsF P ops F o v a ∧ K (a.put o.dst v)
theorem stOpF_mono {i : Nat} {a : Act} {K K' : Act → Prop} (h : ∀ a, K a → K' a) (hh : stOpF P ops F i K a) : stOpF P ops F i K' a := by
  unfold stOpF at *
  split
  · exact h _ (by simpa [*] using hh)
  · rename_i o ho
    simp only [ho] at hh
    obtain ⟨v, h1, h2⟩ := hh
    exact ⟨v, h1, h _ h2⟩
theorem YieldsF.stOp {i : Nat} {o : Oper} {v : Value} {a : Act} (hi : ops[i]? = some o) (hy : YieldsF P ops F o v a) {K : Act → Prop} (h : K (a.put o.dst v)) : stOpF P ops F i K a := by
  unfold stOpF
  simp only [hi]
  exact ⟨v, hy, h⟩
theorem stOpF_put {j : Nat} {oi oj : Oper} {v : Value} (hj : ops[j]? = some oj) (hap : oi.apart ops oj = true)
    (hsi : ∀ cs b, oi.op ≠ .select cs b) (hsj : ∀ cs b, oj.op ≠ .select cs b) {K : Act → Prop} {a : Act}
    (hy : YieldsF P ops F oi v a) (h : stOpF P ops F j K (a.put oi.dst v)) :
    stOpF P ops F j (fun a' => YieldsF P ops F oi v a' ∧ K (a'.put oi.dst v)) a := by
  obtain ⟨h1, h2, h3⟩ := Oper.apart_spec hap
  unfold stOpF at *
  simp only [hj] at *
  obtain ⟨u, hu, hk⟩ := h
  refine ⟨u, hu.of_same (execOp_put oj hsj a oi.dst v h1).symm (wanted_put oj a oi.dst v h1).symm, hy.of_same (execOp_put oi hsi a oj.dst u h3) (wanted_put oi a oj.dst u h3), ?_⟩
  rw [← Act.put_comm a v u h2]
  exact hk
theorem wpOp_of_yields {i : Nat} {o : Oper} {v : Value} {a : Act} {w : World} {K : Act → World → Prop} {Q : Exit → Act → World → Prop} (hi : ops[i]? = some o) (hy : YieldsF P ops F o v a) (hF : F w)
    (h : ∀ w', F w' → K (a.put o.dst v) w') : wpOp P ops Q i K a w := by
  unfold wpOp
  simp only [hi]
  rcases hy with ⟨hw, hg⟩ | ⟨hw, rfl⟩
  · rw [if_pos hw]
    refine .inl ?_
    have hg := hg w hF
    unfold Oper.wp
    generalize (execOp a.eval o).run P w = r at *
    cases r with
    | ok n w' =>
      cases n <;> simp only [GivesF] at hg <;> simp only [Oper.upon]
      case value u => obtain ⟨rfl, h2⟩ := hg; exact h _ h2
      case skip => obtain ⟨rfl, h2⟩ := hg; exact h _ h2
      case enter f args => exact hg.mono fun e w'' ⟨he, hF''⟩ => by subst he; exact h _ hF''
    | halt x w' => simp only [GivesF] at hg
  · rw [if_neg (by rw [hw]; simp)]
    exact h _ hF
def wpAnyLF (P : Program) (md : Region.Mode) (ops : Array Oper) (F : World → Prop) (n : Nat) (L : Array Bool → Act → Prop) : Nat → Array Bool → Act → Prop
  | 0, listed, a => L listed a
  | f + 1, listed, a => Region.ready md ops listed ≠ [] ∧ ∀ i ∈ Region.ready md ops listed, i < n ∧ stOpF P ops F i (wpAnyLF P md ops F n L f (listed.setIfInBounds i true)) a
theorem wpAny_of_headF {n g : Nat} {L : Array Bool → Act → Prop} {Q' : Exit → Act → World → Prop} (hL : ∀ listed a w, F w → L listed a → wpAny P md ops Q' g listed a w) :
    ∀ (f : Nat) (listed : Array Bool) (a : Act) (w : World), F w → wpAnyLF P md ops F n L f listed a → wpAny P md ops Q' (f + g) listed a w
  | 0, listed, a, w, hF, h => by rw [Nat.zero_add]; exact hL _ _ _ hF h
  | f + 1, listed, a, w, hF, h => by
    rw [show f + 1 + g = (f + g) + 1 by omega]
    refine ⟨fun h0 => absurd h0 h.1, fun i hi => ?_⟩
    obtain ⟨_, o, ho, _⟩ := mem_ready.1 hi
    have h1 := (h.2 i hi).2
    unfold stOpF at h1
    simp only [ho] at h1
    obtain ⟨v, hy, hk⟩ := h1
    exact wpOp_of_yields ho hy hF fun w' hF' => wpAny_of_headF hL f _ _ w' hF' hk
theorem wpAnyLF_first {n i : Nat} {oi : Oper} {v : Value} {L : Array Bool → Act → Prop} (hi : ops[i]? = some oi) (hsel : ∀ (j : Nat) (o : Oper) cs b, ops[j]? = some o → o.op ≠ .select cs b)
    (hs : Region.sinkB md ops n = true) (hc : Region.chainB md ops n = true) (hn : n < ops.size) (hin : i < n)
    (hdone : ∀ listed a, L listed a → ∀ j ∈ Region.ready md ops listed, n ≤ j) :
    ∀ (f : Nat) (listed : Array Bool) (a : Act), HeadInv md ops n listed →
      (∀ j oj, ops[j]? = some oj → j ≠ i → listed.getD j true = false → (∀ e ∈ oj.after, Region.binds md e = true → e.on ≠ i) → oi.apart ops oj = true) →
      i ∈ Region.ready md ops listed → YieldsF P ops F oi v a →
      wpAnyLF P md ops F n L f (listed.setIfInBounds i true) (a.put oi.dst v) → wpAnyLF P md ops F n L (f + 1) listed a := by
  intro f
  induction f with
  | zero =>
    intro listed a inv _ hr hy H
    have hun := (mem_ready.1 hr).1
    refine ⟨fun h => (by rw [h] at hr; cases hr), fun j hj => ?_⟩
    have hjn : j < n := by
      rcases Nat.lt_or_ge j n with h | h
      · exact h
      · exact absurd hj (tail_waits hs hc hn inv _ i rfl hin hun j h)
    refine ⟨hjn, ?_⟩
    by_cases hji : j = i
    · subst hji; exact hy.stOp hi H
    · have := hdone _ _ H j (ready_mono hj hji)
      omega
  | succ f ih =>
    intro listed a inv hfree hr hy H
    have hun := (mem_ready.1 hr).1
    refine ⟨fun h => (by rw [h] at hr; cases hr), fun j hj => ?_⟩
    have hjn : j < n := by
      rcases Nat.lt_or_ge j n with h | h
      · exact h
      · exact absurd hj (tail_waits hs hc hn inv _ i rfl hin hun j h)
    refine ⟨hjn, ?_⟩
    by_cases hji : j = i
    · subst hji; exact hy.stOp hi H
    · have h1 := (H.2 j (ready_mono hj hji)).2
      obtain ⟨hjun, oj, hoj, hall⟩ := mem_ready.1 hj
      have hnot : ∀ e ∈ oj.after, Region.binds md e = true → e.on ≠ i := fun e he hb heq => by
        have h1 := hall e he hb
        rw [heq, getD_both hun] at h1
        cases h1
      have h2 := stOpF_put hoj (hfree j oj hoj hji hjun hnot) (fun cs b => hsel i oi cs b hi) (fun cs b => hsel j oj cs b hoj) hy h1
      have hfree' : ∀ k ok, ops[k]? = some ok → k ≠ i → (listed.setIfInBounds j true).getD k true = false →
          (∀ e ∈ ok.after, Region.binds md e = true → e.on ≠ i) → oi.apart ops ok = true := fun k ok hk hki hun hno => by
        refine hfree k ok hk hki ?_ hno
        by_cases hjk : j = k
        · subst hjk; exact hjun
        · rw [getD_set_ne true hjk] at hun; exact hun
      refine stOpF_mono (fun a' h3 => ih (listed.setIfInBounds j true) a' (inv.set hj hjn) hfree' (ready_mono hr (Ne.symm hji)) h3.1 ?_) h2
      rw [Array.setIfInBounds_comm _ _ hji]
      exact h3.2
theorem wpAnyLF_lex {n g : Nat} {Lq : Act → Prop} (hsel : Region.noSelect ops = true) (hs : Region.sinkB md ops n = true) (hc : Region.chainB md ops n = true) (hn : n < ops.size) :
    ∀ (l : List Oper) (k : Nat) (listed : Array Bool) (a : Act), (∀ j, j < l.length → l[j]? = ops[k + j]?) → k + l.length = n → HeadInv md ops n listed →
    Region.lexHead md ops g l.length k listed = true → wpF P ops F Lq l a →
    wpAnyLF P md ops F n (fun listed' a' => Region.seqB md ops g n listed' = true ∧ Lq a') l.length listed a
  | [], k, listed, a, _, hk, _, hB, h => by
    have : k = n := by simpa using hk
    subst this
    exact ⟨by simpa [Region.lexHead] using hB, h⟩
  | o :: l, k, listed, a, hl, hk, inv, hB, h => by
    have h0 : ops[k]? = some o := by simpa using (hl 0 (by simp)).symm
    simp only [List.length_cons, Region.lexHead, Bool.and_eq_true] at hB
    obtain ⟨⟨hr, hf⟩, hB'⟩ := hB
    have hkn : k < n := by simp only [List.length_cons] at hk; omega
    have hr' : k ∈ Region.ready md ops listed := by simpa using hr
    obtain ⟨v, hy, hK⟩ := h
    exact wpAnyLF_first h0 (Region.noSelect_spec hsel) hs hc hn hkn (fun listed' a' hL => seqB_ready hL.1) l.length listed a inv (Region.free_spec h0 hf) hr' hy
      (wpAnyLF_lex hsel hs hc hn l (k + 1) _ _ (fun j hj => by have := hl (j + 1) (by simp; omega); simpa [Nat.add_assoc, Nat.add_comm 1 j] using this) (by simp only [List.length_cons] at hk; omega) (inv.set hr' hkn) hB' hK)
/-- The law: the first n in the text's order, each keeps F; the others behind them, one by one. -/
theorem region_F {id : Nat} {Q : Exit → Act → World → Prop} {a : Act} {w : World} {l : List Oper} (F : World → Prop) (n : Nat) (hm : P.follows .mixedOrders = true) (hB : Region.lexTailB .any l.toArray n = true) (hF : F w.drew)
    (h : wpF P l.toArray F (fun a' => ∀ W, F W → wpList P l.toArray Q (l.drop n) a' W) (l.take n) a) : (Code.region id l.toArray true).wp P Q a w := by
  simp only [Region.lexTailB, Bool.and_eq_true, decide_eq_true_eq] at hB
  obtain ⟨⟨⟨⟨hsel, hn⟩, hs⟩, hc⟩, hlex⟩ := hB
  have hn' : n < l.length := by simpa using hn
  have htl : (l.take n).length = n := by simp; omega
  have hdl : (l.drop n).length = l.toArray.size - n := by simp
  have inv0 : HeadInv .any l.toArray n (Array.replicate l.toArray.size false) :=
    ⟨by simp, fun j oj _ hl => (by rw [getD_replicate_false] at hl; cases hl), fun t _ ht => getD_in (by simpa using ht) (getD_replicate_false _ _)⟩
  have H := wpAnyLF_lex (md := .any) (g := l.toArray.size - n) hsel hs hc hn (l.take n) 0 _ a (fun j hj => by
    have hj' : j < n := by rw [htl] at hj; exact hj
    simp [hj']) (by simpa using htl) inv0 (by rw [htl]; exact hlex) h
  refine wp_region_any hm ?_
  have := wpAny_of_headF (Q' := Q) (g := l.toArray.size - n) (fun listed a' w' hF' hL => by
    have := wpAny_of_seq (md := .any) (Q' := Q) (l.drop n) n listed a' w' (fun j => by simp [List.getElem?_drop]) (by rw [hdl]; exact hL.1) (hL.2 w' hF')
    rwa [hdl] at this) _ _ _ _ hF H
  rw [htl, show n + (l.toArray.size - n) = l.toArray.size by omega] at this
  exact this
end
end Go.Proofs.Ytjidoedlmpjmnaa.RegionF
namespace Go.Proofs.Ytjidoedlmpjmnaa.Mem
open Go.RowKit Go.Proofs.Ytjidoedlmpjmnaa.Help Go.Proofs.YtjidoedlmpjmnaaW.PrintWords Go.Proofs.YtjidoedlmpjmnaaW.PrintLast Go.Proofs.YtjidoedlmpjmnaaW.PrintMore
set_option linter.unusedVariables false
/-- A fact that stays. -/
def Stays (p : World → Prop) : Prop := ∀ W W1, Below W.heap.size W W1 → p W → p W1
structure Mem (w : World) (l : List (World → Prop)) (W : World) : Prop where
  b : Below w.heap.size w W
  s : ∀ p ∈ l, Stays p
  h : ∀ p ∈ l, p W
theorem Mem.get {w W : World} {l : List (World → Prop)} (m : Mem w l W) (i : Nat) {p : World → Prop} (h : l[i]? = some p) : p W := m.h p (List.mem_of_getElem? h)
theorem Mem.below {w W W1 : World} {l : List (World → Prop)} (m : Mem w l W) (hB : Below W.heap.size W W1) : Mem w l W1 := ⟨below_step m.b hB, m.s, fun p hp => m.s p hp W W1 hB (m.h p hp)⟩
theorem Mem.alloc {w W : World} {l : List (World → Prop)} (m : Mem w l W) (o : Obj) : Mem w l (W.alloc o) := m.below (below_alloc (Below.refl _ _) o)
theorem Mem.drew {w W : World} {l : List (World → Prop)} (m : Mem w l W) : Mem w l W.drew := m.below (Below.drew (Below.refl _ _))
theorem Mem.drewN {w W : World} {l : List (World → Prop)} (m : Mem w l W) (n : Nat) : Mem w l (W.drewN n) := m.below (pw_below_drewN (Below.refl _ _) n)
theorem Mem.push {w W : World} {l : List (World → Prop)} (m : Mem w l W) {p : World → Prop} (hs : Stays p) (hp : p W) : Mem w (l ++ [p]) W :=
  ⟨m.b, fun q hq => by rcases List.mem_append.1 hq with h | h; exact m.s q h; obtain rfl := List.mem_singleton.1 h; exact hs, fun q hq => by rcases List.mem_append.1 hq with h | h; exact m.h q h; obtain rfl := List.mem_singleton.1 h; exact hp⟩
theorem Mem.nil (w : World) : Mem w [] w := ⟨Below.refl _ _, fun _ h => (by cases h), fun _ h => (by cases h)⟩
/-- A block. -/
def Blk (g : Nat) (o : Obj) : World → Prop := fun W => W.heap[g]? = some o
theorem Blk.stays (g : Nat) (o : Obj) : Stays (Blk g o) := fun _ _ hB h => blk_below h hB
/-- Bytes that are read. -/
def Rd (A : Option Addr) (xs : List Int) : World → Prop := fun W => Kd.C (Kd.int .u8) W A xs.length xs
theorem Rd.stays (A : Option Addr) (xs : List Int) : Stays (Rd A xs) := fun _ _ hB h => Kd.C_below h hB
theorem Mem.new {w W : World} {l : List (World → Prop)} (m : Mem w l W) (o : Obj) : Mem w (l ++ [Blk W.heap.size o]) (W.alloc o) := (m.alloc o).push (Blk.stays _ _) (blk_new W o)
theorem Mem.new' {w W : World} {l : List (World → Prop)} (m : Mem w l W) (o : Obj) {g : Nat} (hg : g = W.heap.size) : Mem w (l ++ [Blk g o]) (W.alloc o) := hg ▸ m.new o
theorem gate_load {P : Program} {ops : Array Oper} {rest : List Oper} {o : Oper} {a : Act} {Q : Exit → Act → World → Prop} {W : World} {t : TypeId} {p : Operand} (_ho : o.op = .load t p) (h : wpList P ops Q (o :: rest) a W) : wpList P ops Q (o :: rest) a W := h
theorem gate_bin {P : Program} {ops : Array Oper} {rest : List Oper} {o : Oper} {a : Act} {Q : Exit → Act → World → Prop} {W : World} {b : BinOp} {t u : TypeId} {p q : Operand} (_ho : o.op = .binOp b t p q u) (h : wpList P ops Q (o :: rest) a W) : wpList P ops Q (o :: rest) a W := h
end Go.Proofs.Ytjidoedlmpjmnaa.Mem
namespace Go.Proofs.Ytjidoedlmpjmnaa.RegionI
open Go
set_option linter.unusedVariables false
section
variable {P : Program} {ops : Array Oper} {Q : Exit → Act → World → Prop} {md : Region.Mode} {S : World → Prop} {D : Nat → Bool}
/-- Whatever order is picked from here on; S holds behind each operation that D does not name. -/
def wpAnyI (P : Program) (md : Region.Mode) (ops : Array Oper) (Q : Exit → Act → World → Prop) (S : World → Prop) (D : Nat → Bool) : Nat → Array Bool → Act → World → Prop
  | 0, listed, a, w => Region.ready md ops listed = [] ∧ Q .normal a w
  | fuel + 1, listed, a, w =>
    (Region.ready md ops listed = [] → Q .normal a w) ∧
    ∀ i ∈ Region.ready md ops listed, wpOp P ops Q i (fun a' w' => (D i = false → S w') ∧ wpAnyI P md ops Q S D fuel (listed.setIfInBounds i true) a' w') a w
theorem wpAny_of_I : ∀ (fuel : Nat) (listed : Array Bool) (a : Act) (w : World), wpAnyI P md ops Q S D fuel listed a w → wpAny P md ops Q fuel listed a w
  | 0, _, _, _, h => h
  | fuel + 1, _, _, _, h => ⟨h.1, fun i hi => wpOp_mono (fun a' w' h' => wpAny_of_I fuel _ a' w' h'.2) (h.2 i hi)⟩
/-- Does j wait for i, itself or through others? -/
def behindB (md : Region.Mode) (ops : Array Oper) (i : Nat) : Nat → Nat → Bool
  | 0, _ => false
  | f + 1, j => match ops[j]? with
    | none => false
    | some o => o.after.any fun e => Region.binds md e && (e.on == i || behindB md ops i f e.on)
structure ClosedL (md : Region.Mode) (ops : Array Oper) (listed : Array Bool) : Prop where
  closed : ∀ j oj, ops[j]? = some oj → listed.getD j false = true → ∀ e ∈ oj.after, Region.binds md e = true → listed.getD e.on false = true
theorem behind_not {i : Nat} {listed : Array Bool} (hc : ClosedL md ops listed) (hi : listed.getD i false = false) : ∀ (f j : Nat), behindB md ops i f j = true → listed.getD j false = false ∧ j ∉ Region.ready md ops listed := by
  intro f
  induction f with
  | zero => intro j h; simp [behindB] at h
  | succ f ih =>
    intro j h
    rw [behindB] at h
    split at h
    · cases h
    · rename_i o ho
      obtain ⟨e, he, hb⟩ := Array.any_eq_true'.1 h
      simp only [Bool.and_eq_true, Bool.or_eq_true, beq_iff_eq] at hb
      have hon : listed.getD e.on false = false := by
        rcases hb.2 with h1 | h1
        · rw [h1]; exact hi
        · exact (ih e.on h1).1
      refine ⟨?_, fun hr => ?_⟩
      · cases hl : listed.getD j false with
        | false => rfl
        | true =>
          have := hc.closed j o ho hl e he hb.1
          rw [hon] at this; cases this
      · obtain ⟨_, o', ho', hall⟩ := mem_ready.1 hr
        have : o' = o := Option.some.inj (ho'.symm.trans ho)
        subst this
        have := hall e he hb.1
        rw [hon] at this; cases this
theorem ClosedL.set {i : Nat} {listed : Array Bool} (inv : ClosedL md ops listed) (hi : i ∈ Region.ready md ops listed) : ClosedL md ops (listed.setIfInBounds i true) := by
  obtain ⟨_, oi, hoi, hall⟩ := mem_ready.1 hi
  refine ⟨fun j oj hj hl e he hb => ?_⟩
  by_cases hij : i = j
  · subst hij
    have : oj = oi := Option.some.inj (hj.symm.trans hoi)
    subst this
    exact getD_set_true (hall e he hb)
  · rw [getD_set_ne false hij] at hl
    exact getD_set_true (inv.closed j oj hj hl e he hb)
theorem wpAnyI_first {i : Nat} {oi : Oper} {v : Value} (hi : ops[i]? = some oi) (hsel : ∀ (j : Nat) (o : Oper) cs b, ops[j]? = some o → o.op ≠ .select cs b)
    (hQ : ∀ c a w, Q (.panic c) (a.put oi.dst v) w → Q (.panic c) a w) (hD : ∀ j, D j = true → behindB md ops i ops.size j = true) :
    ∀ (fuel : Nat) (listed : Array Bool) (a : Act) (w : World), ClosedL md ops listed →
      (∀ j oj, ops[j]? = some oj → j ≠ i → listed.getD j true = false → (∀ e ∈ oj.after, Region.binds md e = true → e.on ≠ i) → oi.apart ops oj = true) →
      i ∈ Region.ready md ops listed → YieldsIf P ops S oi v a → S w →
      wpAnyI P md ops Q S D fuel (listed.setIfInBounds i true) (a.put oi.dst v) w → wpAnyI P md ops Q S D (fuel + 1) listed a w := by
  intro fuel
  induction fuel with
  | zero =>
    intro listed a w _ _ hr hy hS H
    refine ⟨fun h => (by rw [h] at hr; cases hr), fun j hj => ?_⟩
    by_cases hji : j = i
    · subst hji; exact hy.wpOp hi hS ⟨fun _ => hS, H⟩
    · have := ready_mono hj hji
      rw [H.1] at this
      cases this
  | succ fuel ih =>
    intro listed a w hcl hfree hr hy hS H
    refine ⟨fun h => (by rw [h] at hr; cases hr), fun j hj => ?_⟩
    by_cases hji : j = i
    · subst hji; exact hy.wpOp hi hS ⟨fun _ => hS, H⟩
    · have h1 := H.2 j (ready_mono hj hji)
      have hun := getD_both (mem_ready.1 hr).1
      have hDj : D j = false := by
        cases h : D j with
        | false => rfl
        | true => exact absurd hj (behind_not hcl hun _ j (hD j h)).2
      obtain ⟨hjun, oj, hoj, hall⟩ := mem_ready.1 hj
      have hnot : ∀ e ∈ oj.after, Region.binds md e = true → e.on ≠ i := fun e he hb heq => by
        have h1 := hall e he hb
        rw [heq, hun] at h1
        cases h1
      have h2 := wpOp_putIf hoj (hfree j oj hoj hji hjun hnot) (fun cs b => hsel i oi cs b hi) (fun cs b => hsel j oj cs b hoj) hQ hy h1
      have hfree' : ∀ k ok, ops[k]? = some ok → k ≠ i → (listed.setIfInBounds j true).getD k true = false →
          (∀ e ∈ ok.after, Region.binds md e = true → e.on ≠ i) → oi.apart ops ok = true := fun k ok hk hki hun hno => by
        refine hfree k ok hk hki ?_ hno
        by_cases hjk : j = k
        · subst hjk; exact hjun
        · rw [getD_set_ne true hjk] at hun; exact hun
      refine wpOp_mono (fun a' w' h3 => ⟨fun _ => h3.2.1 hDj, ih (listed.setIfInBounds j true) a' w' (hcl.set hj) hfree' (ready_mono hr (Ne.symm hji)) h3.1 (h3.2.1 hDj) ?_⟩) h2
      rw [Array.setIfInBounds_comm _ _ hji]
      exact h3.2.2
/-- All that is listed waits for nothing that is not, told by a Bool. -/
def closedB (md : Region.Mode) (ops : Array Oper) (listed : Array Bool) : Bool :=
  (List.range ops.size).all fun j => !listed.getD j false || match ops[j]? with
    | none => true
    | some o => o.after.all fun e => !Region.binds md e || listed.getD e.on false
theorem closedB_spec {listed : Array Bool} (h : closedB md ops listed = true) : ClosedL md ops listed := by
  refine ⟨fun j oj hj hl e he hb => ?_⟩
  have h1 := List.all_eq_true.1 h j (List.mem_range.2 (Array.getElem?_eq_some_iff.1 hj).1)
  simp only [hl, Bool.not_true, Bool.false_or, hj] at h1
  have h2 := Array.all_eq_true_iff_forall_mem.1 h1 e he
  simpa [hb] using h2
/-- Number i first. -/
theorem wpAnyI_take {i : Nat} {oi : Oper} {v : Value} {fuel : Nat} {listed : Array Bool} {a : Act} {w : World} (hi : ops[i]? = some oi)
    (hs : Region.noSelect ops = true) (hf : Region.free md ops listed i = true) (hr : (Region.ready md ops listed).contains i = true) (hc : closedB md ops listed = true)
    (hD : ((List.range ops.size).all fun j => !D j || behindB md ops i ops.size j) = true) (hD2 : ∀ j, ops.size ≤ j → D j = false)
    (hQ : ∀ c a w, Q (.panic c) (a.put oi.dst v) w → Q (.panic c) a w) (hw : Region.wanted oi (yielded ops a.tmps) = true) (hy : ∀ w, S w → (execOp a.eval oi).run P w = .ok (.value v) w) (hS : S w)
    (h : wpAnyI P md ops Q S D fuel (listed.setIfInBounds i true) (a.put oi.dst v) w) : wpAnyI P md ops Q S D (fuel + 1) listed a w :=
  wpAnyI_first hi (Region.noSelect_spec hs) hQ (fun j hj => by
    rcases Nat.lt_or_ge j ops.size with h1 | h1
    · have := List.all_eq_true.1 hD j (List.mem_range.2 h1)
      simpa [hj] using this
    · rw [hD2 j h1] at hj; cases hj) fuel listed a w (closedB_spec hc) (Region.free_spec hi hf) (by simpa using hr) (.inl ⟨hw, hy⟩) hS h
/-- The one that may come up. -/
theorem wpAnyI_one {i : Nat} {o : Oper} {fuel : Nat} {listed : Array Bool} {a : Act} {w : World} (hr : Region.ready md ops listed = [i]) (ho : ops[i]? = some o)
    (h : ∀ K : Act → World → Prop, (∀ a w, (D i = false → S w) ∧ wpAnyI P md ops Q S D fuel (listed.setIfInBounds i true) a w → K a w) → if Region.wanted o (yielded ops a.tmps) = true then Oper.wp P o a w K Q else K (a.put o.dst undef) w) : wpAnyI P md ops Q S D (fuel + 1) listed a w := by
  refine ⟨fun h0 => (by rw [hr] at h0; cases h0), fun j hj => ?_⟩
  rw [hr] at hj
  obtain rfl : j = i := by simpa using hj
  exact wpOp_step ho (fun K hK => h K hK)
theorem wpAnyI_done {listed : Array Bool} {a : Act} {w : World} (hr : Region.ready md ops listed = []) (h : Q .normal a w) : ∀ fuel, wpAnyI P md ops Q S D fuel listed a w
  | 0 => ⟨hr, h⟩
  | _ + 1 => ⟨fun _ => h, by rw [hr]; simp⟩
theorem region_I {id : Nat} {a : Act} {w : World} (S : World → Prop) (D : Nat → Bool) (hm : P.follows .mixedOrders = true) (hS : S w.drew)
    (h : S w.drew → wpAnyI P .any ops Q S D ops.size (Array.replicate ops.size false) a w.drew) : (Code.region id ops true).wp P Q a w :=
  wp_region_any hm (wpAny_of_I _ _ _ _ (h hS))
end
end Go.Proofs.Ytjidoedlmpjmnaa.RegionI
namespace Go.Proofs.Ytjidoedlmpjmnaa.RegionI
open Go
set_option linter.unusedVariables false
section
variable {P : Program} {ops : Array Oper} {Q : Exit → Act → World → Prop} {md : Region.Mode} {S : World → Prop} {D : Nat → Bool}
/-- Two may come up. -/
theorem wpAnyI_two {i k : Nat} {o o' : Oper} {fuel : Nat} {listed : Array Bool} {a : Act} {w : World} (hr : Region.ready md ops listed = [i, k]) (ho : ops[i]? = some o) (ho' : ops[k]? = some o')
    (h : ∀ K : Act → World → Prop, (∀ a w, (D i = false → S w) ∧ wpAnyI P md ops Q S D fuel (listed.setIfInBounds i true) a w → K a w) → if Region.wanted o (yielded ops a.tmps) = true then Oper.wp P o a w K Q else K (a.put o.dst undef) w)
    (h' : ∀ K : Act → World → Prop, (∀ a w, (D k = false → S w) ∧ wpAnyI P md ops Q S D fuel (listed.setIfInBounds k true) a w → K a w) → if Region.wanted o' (yielded ops a.tmps) = true then Oper.wp P o' a w K Q else K (a.put o'.dst undef) w) : wpAnyI P md ops Q S D (fuel + 1) listed a w := by
  refine ⟨fun h0 => (by rw [hr] at h0; cases h0), fun j hj => ?_⟩
  rw [hr] at hj
  rcases List.mem_cons.1 hj with rfl | hj
  · exact wpOp_step ho (fun K hK => h K hK)
  · obtain rfl : j = k := by simpa using hj
    exact wpOp_step ho' (fun K hK => h' K hK)
end
end Go.Proofs.Ytjidoedlmpjmnaa.RegionI
namespace Go.Proofs.Ytjidoedlmpjmnaa.StepX
open Go.RowKit Go.Proofs.YtjidoedlmpjmnaaW.PrintWords Go.Proofs.YtjidoedlmpjmnaaW.PrintLast Go.Proofs.YtjidoedlmpjmnaaW.PrintMore
set_option linter.unusedVariables false
set_option linter.unusedSimpArgs false
theorem step_run {P : Program} {ops : Array Oper} {o : Oper} {a : Act} {Kc : Act → World → Prop} {Q : Exit → Act → World → Prop} {W w1 : World} {v : Value} {R : Prop} (hw : Region.wanted o (yielded ops a.tmps) = true) (hrun : (execOp a.eval o).run P W = .ok (.value v) w1) (h : Kc (a.put o.dst v) w1) :
    if Region.wanted o (yielded ops a.tmps) = true then Oper.wp P o a W Kc Q else R := by
  rw [if_pos hw]; unfold Oper.wp; rw [hrun]; exact h
theorem step_skip {P : Program} {ops : Array Oper} {o : Oper} {a : Act} {Kc : Act → World → Prop} {Q : Exit → Act → World → Prop} {W w1 : World} {R : Prop} (hw : Region.wanted o (yielded ops a.tmps) = true) (hrun : (execOp a.eval o).run P W = .ok .skip w1) (h : Kc (a.put o.dst undef) w1) :
    if Region.wanted o (yielded ops a.tmps) = true then Oper.wp P o a W Kc Q else R := by
  rw [if_pos hw]; unfold Oper.wp; rw [hrun]; exact h
theorem exec_build {P : Program} {o : Oper} {a : Act} {W : World} {t : TypeId} {parts : Array (Nat × Operand)} {vals : List (Nat × Value)} {cells : Array Value} (ho : o.op = .build t parts) (hv : (parts.map fun (i, x) => (i, a.eval x)).toList = vals) (h : P.built t vals = some cells) : (execOp a.eval o).run P W = .ok (.value (.agg cells)) W := by
  have := run_build (P := P) W t (parts.map fun (i, x) => (i, a.eval x)) cells (by rw [hv]; exact h)
  simp only [execOp, ho, Sem.run_bind, this, Result.andThen_ok, Sem.run_pure]
end Go.Proofs.Ytjidoedlmpjmnaa.StepX
namespace Go.Proofs.Ytjidoedlmpjmnaa.Help
open Go.RowKit Go.Proofs.YtjidoedlmpjmnaaW.PrintWords Go.Proofs.YtjidoedlmpjmnaaW.PrintLast Go.Proofs.YtjidoedlmpjmnaaW.PrintMore
set_option linter.unusedVariables false
set_option linter.unusedSimpArgs false
theorem flatten_at {β : Type} {sz : Nat} : ∀ (l : List (List β)) (j i : Nat) (u : β), (∀ c ∈ l, c.length = sz) → (∀ c, l[j]? = some c → c[i]? = some u) → (hj : j < l.length) → i < sz → l.flatten[j * sz + i]? = some u
  | [], j, i, u, _, _, hj, _ => by simp at hj
  | c :: l, 0, i, u, hs, h, _, hi => by
    have hc := hs c List.mem_cons_self
    rw [Nat.zero_mul, Nat.zero_add, List.flatten_cons, List.getElem?_append_left (by omega)]
    exact h c rfl
  | c :: l, j + 1, i, u, hs, h, hj, hi => by
    have hc := hs c List.mem_cons_self
    rw [List.flatten_cons, List.getElem?_append_right (by rw [hc, Nat.succ_mul]; omega), hc, show (j + 1) * sz + i - sz = j * sz + i by rw [Nat.succ_mul]; omega]
    exact flatten_at l j i u (fun c hc => hs c (List.mem_cons_of_mem _ hc)) (fun c hc => h c (by simpa using hc)) (by simpa using hj) hi
theorem lit_C {α : Type} {d : Kd α} {w : World} {g t : Nat} (l : List (α × List Value)) (hK : ∀ p ∈ l, d.K w p.1 p.2) (h : w.heap[g]? = some (.cells ((l.map (·.2)).flatten).toArray t (0, 0))) (hl : l.length ≤ 9223372036854775807) :
    d.C w (some ⟨g, 0, none⟩) l.length (l.map (·.1)) := by
  refine ⟨by simp, hl, fun hp => ⟨_, rfl, fun j p hj => ?_⟩⟩
  rw [List.getElem?_map] at hj
  obtain ⟨x, hx, rfl⟩ := Option.map_eq_some_iff.1 hj
  have hm : x ∈ l := List.mem_of_getElem? hx
  have hjl : j < l.length := (List.getElem?_eq_some_iff.1 hx).1
  refine ⟨x.2, d.K_len (hK x hm), hK x hm, fun i u hu => ?_⟩
  have hi : i < d.sz := by rw [← d.K_len (hK x hm)]; exact (List.getElem?_eq_some_iff.1 hu).1
  have ha : (⟨g, 0, none⟩ : Addr).add (j * d.sz + i) = ⟨g, j * d.sz + i, none⟩ := by unfold Addr.add; split <;> simp_all
  rw [ha, blk_cell h, List.getElem?_toArray]
  refine flatten_at _ j i u (fun c hc => ?_) (fun c hc => ?_) (by simpa using hjl) hi
  · obtain ⟨q, hq, rfl⟩ := List.mem_map.1 hc
    exact d.K_len (hK q hq)
  · rw [List.getElem?_map, hx] at hc
    obtain rfl := Option.some.inj hc
    exact hu
end Go.Proofs.Ytjidoedlmpjmnaa.Help
namespace Go.Proofs.Ytjidoedlmpjmnaa.Own
open Go.RowKit Go.Proofs.Ytjidoedlmpjmnaa.Help Go.Proofs.YtjidoedlmpjmnaaW.PrintWords Go.Proofs.YtjidoedlmpjmnaaW.PrintLast Go.Proofs.YtjidoedlmpjmnaaW.PrintMore
set_option linter.unusedVariables false
set_option linter.unusedSimpArgs false
/-- A row of bytes of one's own. -/
def Owns (w : World) (base : Nat) (v : Value) (xs : List Int) : Prop := w.ownsRow base 5 1 v xs.length (nums .u8 xs)
theorem Owns.below {w w' : World} {base : Nat} {v : Value} {xs : List Int} (h : Owns w base v xs) (hB : Below w.heap.size w w') : Owns w' base v xs := owned_below h hB
theorem Owns.reads {w : World} {base : Nat} {v : Value} {xs : List Int} (h : Owns w base v xs) (hl : xs.length ≤ 9223372036854775807) : ∃ A c, v = .slice A xs.length c ∧ xs.length ≤ c ∧ Kd.C (Kd.int .u8) w A xs.length xs := owned_reads h hl
theorem Owns.lower {w : World} {base b : Nat} {v : Value} {xs : List Int} (h : Owns w base v xs) (hb : b ≤ base) : Owns w b v xs := by
  refine ⟨h.1, ?_⟩
  rcases h.2 with h1 | ⟨g, cap, cur, h1, h2, h3⟩
  · exact .inl h1
  · exact .inr ⟨g, cap, cur, h1, Nat.le_trans hb h2, h3⟩
theorem Owns.ne {w : World} {base g : Nat} {v : Value} {xs : List Int} {cs : Array Value} {t : TypeId} (h : Owns w base v xs) (hb : w.heap[g]? = some (.cells cs t (0, 0))) (ht : t ≠ 5) : some g ≠ v.ownBlock := by
  rcases h.2 with ⟨rfl, _⟩ | ⟨g', cap, cur, rfl, _, hg, _⟩
  · simp [Value.ownBlock]
  · simpa [Value.ownBlock] using blk_ne hb hg ht
theorem Owns.nil (w : World) (base : Nat) : Owns w base (.slice none 0 0) [] := owned_nil w base _ _
theorem info_u8 : (Try.prog.info? 5).map (fun i => (i.zero, i.size, i.bytes)) = some (some (.int .u8 0), 1, 1) := by kernel_rfl
/-- Bytes appended to a row of one's own, as the operation runs. -/
theorem append_bytes {W : World} {base ty c : Nat} {v : Value} {xs ys : List Int} {A : Option Addr} (HO : Owns W base v xs) (hr : Kd.C (Kd.int .u8) W A ys.length ys) (hl : xs.length + ys.length ≤ 140737488355328) (hb : base ≤ W.heap.size) :
    ∃ v1 w1, (Builtin.append_ #[25, 25] ty #[v, .slice A ys.length c]).run Try.prog W = .ok v1 w1 ∧ Owns w1 base v1 (xs ++ ys) ∧ W.grownBy w1 v.ownBlock ∧ (v1.ownBlock = v.ownBlock ∨ v1.ownBlock = some W.heap.size) := by
  obtain ⟨i0, hi, hz0, hz1, hz2⟩ := info_parts info_u8
  exact append_ints Try.underlying25 hi hz0 hz1 HO hr (by rw [hz2]; omega) hl hb
/-- What grows by a row of one's own keeps all below. -/
theorem Owns.keeps {w W w1 : World} {v : Value} {xs : List Int} (hB : Below w.heap.size w W) (HO : Owns W w.heap.size v xs) (hg : W.grownBy w1 v.ownBlock) : Below w.heap.size w w1 := below_owned hB HO hg
theorem Owns.one {w : World} {base : Nat} {v : Value} {xs : List Int} (h : Owns w base v xs) : v.oneCell' = true := by
  rcases h.2 with ⟨rfl, _⟩ | ⟨g', cap, cur, rfl, _⟩ <;> rfl
theorem Owns.apart {w : World} {base g : Nat} {v : Value} {xs : List Int} {cs : Array Value} {t : TypeId} (h : Owns w base v xs) (hb : w.heap[g]? = some (.cells cs t (0, 0))) (ht : t ≠ 5) : v.ownBlock = none ∨ v.ownBlock ≠ some g := .inr (fun e => h.ne hb ht e.symm)
end Go.Proofs.Ytjidoedlmpjmnaa.Own
namespace Go.Proofs.Ytjidoedlmpjmnaa.Segs
open Go.RowKit Go.Proofs.Ytjidoedlmpjmnaa.Help Go.Proofs.Ytjidoedlmpjmnaa.Mem Go.Proofs.YtjidoedlmpjmnaaW.PrintWords Go.Proofs.YtjidoedlmpjmnaaW.PrintLast Go.Proofs.YtjidoedlmpjmnaaW.PrintMore
set_option linter.unusedVariables false
set_option linter.unusedSimpArgs false
def flat (segs : List (List Value)) : Array Value := segs.flatten.toArray
def off (segs : List (List Value)) (i : Nat) : Nat := ((segs.take i).flatten).length
theorem flat_split {segs : List (List Value)} {i : Nat} {s : List Value} (h : segs[i]? = some s) : segs.flatten = (segs.take i).flatten ++ (s ++ (segs.drop (i + 1)).flatten) := by
  have hi := (List.getElem?_eq_some_iff.1 h).1
  have hs := (List.getElem?_eq_some_iff.1 h).2
  conv => lhs; rw [← List.take_append_drop i segs, List.drop_eq_getElem_cons hi]
  rw [List.flatten_append, List.flatten_cons, hs]
theorem flat_set {segs : List (List Value)} {i : Nat} (s' : List Value) (hi : i < segs.length) : (segs.set i s').flatten = (segs.take i).flatten ++ (s' ++ (segs.drop (i + 1)).flatten) := by
  rw [List.set_eq_take_append_cons_drop, if_pos hi, List.flatten_append, List.flatten_cons]
theorem flat_get {segs : List (List Value)} {i o : Nat} {s : List Value} (h : segs[i]? = some s) (ho : off segs i = o) {j : Nat} {x : Value} (hj : s[j]? = some x) : (flat segs)[o + j]? = some x := by
  subst ho
  have hjl := (List.getElem?_eq_some_iff.1 hj).1
  rw [flat, List.getElem?_toArray, flat_split h, off, List.getElem?_append_right (by omega), Nat.add_sub_cancel_left, List.getElem?_append_left hjl, hj]
theorem splice_seg {segs : List (List Value)} {i : Nat} {s s' : List Value} (h : segs[i]? = some s) (hl : s'.length = s.length) : splice segs.flatten (off segs i) s' = (segs.set i s').flatten := by
  have hi := (List.getElem?_eq_some_iff.1 h).1
  rw [flat_set s' hi, flat_split h, splice, off, List.take_left' rfl, hl, ← List.drop_drop, List.drop_left' rfl, List.drop_left' rfl]
theorem off_le {segs : List (List Value)} {i : Nat} {s : List Value} (h : segs[i]? = some s) : off segs i + s.length ≤ segs.flatten.length := by
  rw [flat_split h, off]; simp only [List.length_append]; omega
section
variable {P : Program} {W : World} {g o : Nat} {t ty : TypeId} {segs : List (List Value)} {i : Nat}
theorem seg_cell {x : Value} (hb : W.heap[g]? = some (.cells (flat segs) t (0, 0))) (h : segs[i]? = some [x]) (ho : off segs i = o) : W.cell? ⟨g, o, none⟩ = some x := by
  have := flat_get h ho (j := 0) (x := x) rfl
  rw [blk_cell hb]; exact this
theorem seg_cellj {s : List Value} {x : Value} (hb : W.heap[g]? = some (.cells (flat segs) t (0, 0))) (h : segs[i]? = some s) (ho : off segs i = o) (j : Nat) (hj : s[j]? = some x) : W.cell? ⟨g, o + j, none⟩ = some x := by
  rw [blk_cell hb]; exact flat_get h ho hj
/-- A struct or an array within a struct, loaded. -/
theorem seg_load {s : List Value} {d : TypeDesc} (hb : W.heap[g]? = some (.cells (flat segs) t (0, 0))) (h : segs[i]? = some s) (ho : off segs i = o) (hu : P.underlying ty = some d) (hd : d.isRow = true) {n : Nat} (hi : (P.info? ty).map (·.size) = some n) (hn : s.length = n) :
    (loadVar ty ⟨g, o, none⟩).run P W = .ok (.agg s.toArray) W :=
  run_loadVar_mid W g o ty s d (fun j x hx => by rw [blk_cell hb]; exact flat_get h ho hx) hu hd (by rw [hi, hn])
/-- The whole. -/
theorem seg_whole {d : TypeDesc} (hb : W.heap[g]? = some (.cells (flat segs) t (0, 0))) (hu : P.underlying ty = some d) (hd : d.isRow = true) {n : Nat} (hi : (P.info? ty).map (·.size) = some n) (hn : segs.flatten.length = n) :
    (loadVar ty ⟨g, 0, none⟩).run P W = .ok (.agg (flat segs)) W :=
  run_loadVar_mid W g 0 ty segs.flatten d (fun j x hx => by rw [blk_cell hb, flat, Nat.zero_add, List.getElem?_toArray]; exact hx) hu hd (by rw [hi, hn])
theorem setCells_flat {s s' : List Value} (hb : W.heap[g]? = some (.cells (flat segs) t (0, 0))) (h : segs[i]? = some s) (ho : off segs i = o) (hl : s'.length = s.length) :
    (W.setCells g o s').heap[g]? = some (.cells (flat (segs.set i s')) t (0, 0)) := by
  subst ho
  have hle := off_le h
  obtain ⟨cs', h1, h2⟩ := setCells_heap s' (off segs i) (flat segs) hb (by simp [flat]; simp at hle; omega)
  rw [h1]
  have : cs' = flat (segs.set i s') := Array.ext' (by rw [h2, flat, List.toList_toArray, splice_seg h hl]; rfl)
  rw [this]
/-- A struct stored within a struct. -/
theorem seg_store {s s' : List Value} (hb : W.heap[g]? = some (.cells (flat segs) t (0, 0))) (h : segs[i]? = some s) (ho : off segs i = o) (hl : s'.length = s.length) {n : Nat} (hi : (P.info? ty).map (·.size) = some n) (hn : s'.length = n) (h1 : ∀ v ∈ s', v.oneCell' = true) :
    ∃ W1, (storeVar ty ⟨g, o, none⟩ (.agg s'.toArray)).run P W = .ok () W1 ∧ W1.heap[g]? = some (.cells (flat (segs.set i s')) t (0, 0)) ∧ W.grownBy W1 (some g) := by
  refine ⟨_, run_storeVar_mid W g o ty s'.toArray ?_ (by rw [hi]; simp [hn]) (all_oneCell_toArray h1), setCells_flat hb h ho hl, setCells_grown W g _ o⟩
  intro j hj
  have hj' : j < s.length := by simp at hj; omega
  have hx : s[j]? = some s[j] := List.getElem?_eq_getElem hj'
  exact ⟨by rw [blk_cell hb, flat_get h ho hx]; rfl, blk_frozen hb _⟩
/-- One cell stored. -/
theorem seg_set {x y : Value} (hb : W.heap[g]? = some (.cells (flat segs) t (0, 0))) (h : segs[i]? = some [x]) (ho : off segs i = o) :
    (W.setCell ⟨g, o, none⟩ y).heap[g]? = some (.cells (flat (segs.set i [y])) t (0, 0)) ∧ W.grownBy (W.setCell ⟨g, o, none⟩ y) (some g) :=
  ⟨setCells_flat (s' := [y]) hb h ho rfl, setCells_grown W g [y] o⟩
/-- A whole struct stored over another one. -/
theorem seg_over {segs' : List (List Value)} (hb : W.heap[g]? = some (.cells (flat segs) t (0, 0))) (hl : segs'.flatten.length = segs.flatten.length) {n : Nat} (hi : (P.info? ty).map (·.size) = some n) (hn : segs'.flatten.length = n) (h1 : ∀ v ∈ segs'.flatten, v.oneCell' = true) :
    (storeVar ty ⟨g, 0, none⟩ (.agg (flat segs'))).run P W = .ok () (W.setRow g (flat segs')) :=
  run_storeVar_row W g t ty _ _ hb (by rw [hi]; simp [flat, hn]) (by simp only [flat, List.size_toArray]; exact hl.symm) (all_oneCell_toArray h1)
end
/-- A struct stored into what was made just now. -/
theorem seg_new {P : Program} (w : World) {g : Nat} (hg : g = w.heap.size) {ty : TypeId} {segs' : List (List Value)} {cs : Array Value} (hl : segs'.flatten.length = cs.size) (hi : (P.info? ty).map (·.size) = some cs.size) (h1 : ∀ v ∈ segs'.flatten, v.oneCell' = true) :
    (storeVar ty ⟨g, 0, none⟩ (.agg (flat segs'))).run P (w.alloc (.cells cs ty)) = .ok () (w.alloc (.cells (flat segs') ty)) := by
  subst hg
  rw [run_storeVar_row (w.alloc (.cells cs ty)) w.heap.size ty ty cs (flat segs') (blk_new w _) (by rw [hi]; simp [flat, ← hl]) (by simp [flat, ← hl]) (all_oneCell_toArray h1), setRow_alloc]
/-! ### literals -/
theorem fold_splice (vs : List Value) : ∀ (k : Nat) (o : Nat) (cs : Array Value), o + k + vs.length ≤ cs.size →
    ((vs.zipIdx k).foldl (fun cs (c, j) => cs.setIfInBounds (o + j) c) cs).toList = splice cs.toList (o + k) vs := by
  induction vs with
  | nil => intro k o cs h; simp [splice]
  | cons v vs ih =>
    intro k o cs h
    rw [List.zipIdx_cons, List.foldl_cons, ih (k + 1) o _ (by simp at h ⊢; omega), Array.toList_setIfInBounds]
    exact splice_cons _ _ _ _ (by simp at h ⊢; omega)
/-- One part of a literal laid. -/
theorem fill_seg {place : Nat → Option (Nat × Nat)} {segs : List (List Value)} {i n o : Nat} {s : List Value} {v : Value} {rest : List (Nat × Value)} (h : segs[i]? = some s) (hp : place i = some (o, n)) (ho : off segs i = o) (hn : s.length = n) (hv : v.cells.toList.length = n) :
    Instr.fill place (flat segs) ((i, v) :: rest) = Instr.fill place (flat (segs.set i v.cells.toList)) rest := by
  have hle := off_le h
  rw [Instr.fill, hp]
  simp only
  have hs : v.cells.size = n := by simpa using hv
  rw [if_neg (by simp [flat, hs]; simp at hle; omega)]
  congr 1
  apply Array.ext'
  have := fold_splice v.cells.toList 0 o (flat segs) (by simp [flat, hs]; simp at hle; omega)
  rw [Nat.add_zero] at this
  rw [← Array.foldl_toList, Array.toList_zipIdx, this, flat, List.toList_toArray, ← ho, splice_seg h (by rw [hv, hn])]
  rfl
theorem off_sum (segs : List (List Value)) (i : Nat) : off segs i = ((segs.map List.length).take i).sum := by
  rw [off, List.length_flatten, List.map_take]
theorem off_congr {Z S : List (List Value)} (h : Z.map List.length = S.map List.length) (i : Nat) : off Z i = off S i := by rw [off_sum, off_sum, h]
/-- A literal of a struct: some fields laid over noughts. -/
theorem fill_struct {place : Nat → Option (Nat × Nat)} {S : List (List Value)} : ∀ (ps : List (Nat × Value)) (Z : List (List Value)), Z.map List.length = S.map List.length →
    (∀ p ∈ ps, S[p.1]? = some p.2.cells.toList ∧ place p.1 = some (off S p.1, p.2.cells.toList.length)) → (∀ i, i < Z.length → (∀ p ∈ ps, p.1 ≠ i) → Z[i]? = S[i]?) → Instr.fill place (flat Z) ps = some (flat S)
  | [], Z, hl, _, hz => by
    have e : Z = S := by
      apply List.ext_getElem?
      intro i
      rcases Nat.lt_or_ge i Z.length with h | h
      · exact hz i h (fun _ hp => by cases hp)
      · have : S.length = Z.length := by have := congrArg List.length hl; simpa using this.symm
        rw [List.getElem?_eq_none h, List.getElem?_eq_none (by omega)]
    rw [e]; rfl
  | (i, v) :: ps, Z, hl, hp, hz => by
    obtain ⟨h1, h2⟩ := hp (i, v) List.mem_cons_self
    have hlen : Z.length = S.length := by have := congrArg List.length hl; simpa using this
    have hi : i < Z.length := by rw [hlen]; exact (List.getElem?_eq_some_iff.1 h1).1
    have hzi : Z[i]? = some Z[i] := List.getElem?_eq_getElem hi
    have hln : (Z[i]).length = v.cells.toList.length := by
      have h3 : (Z.map List.length)[i]? = (S.map List.length)[i]? := by rw [hl]
      rw [List.getElem?_map, List.getElem?_map, hzi, h1] at h3
      simpa using h3
    rw [fill_seg (s := Z[i]) hzi h2 (off_congr hl i) hln rfl]
    have hset : (Z.set i v.cells.toList).map List.length = S.map List.length := by
      rw [List.map_set, ← hl]
      apply List.ext_getElem?
      intro j
      rw [List.getElem?_set]
      by_cases e : i = j
      · subst e; rw [if_pos rfl, List.getElem?_map, hzi]; simp [hi]; exact hln.symm
      · rw [if_neg e]
    refine fill_struct ps _ hset (fun p hp' => hp p (List.mem_cons_of_mem _ hp')) (fun j hj hj2 => ?_)
    rw [List.getElem?_set]
    by_cases e : i = j
    · subst e; rw [if_pos rfl]; simp only [List.length_set] at hj; rw [if_pos hj, h1]
    · rw [if_neg e]
      refine hz j (by simpa using hj) (fun p hp' => ?_)
      rcases List.mem_cons.1 hp' with rfl | h
      · exact e
      · exact hj2 p h
/-! ### parts, for '==' -/
theorem part_agg {P : Program} {ty o n i : Nat} {d : TypeDesc} {s : List Value} {segs : List (List Value)} (hu : P.underlying ty = some d) (hd : d.isRow = true) (hi : (P.info? ty).map (·.size) = some n) (h : segs[i]? = some s) (ho : off segs i = o) (hn : s.length = n) (w : World) :
    (part ty (flat segs) o).run P w = .ok (.agg s.toArray) w := by
  have he : (flat segs).extract o (o + n) = s.toArray := by
    apply Array.ext'
    subst ho hn
    rw [flat, Array.toList_extract, List.toList_toArray, List.extract_eq_take_drop, Nat.add_sub_cancel_left, flat_split h, off, List.drop_left' rfl, List.take_left' rfl]
  obtain ⟨j, hj, hs⟩ := Option.map_eq_some_iff.1 hi
  cases d <;> simp only [TypeDesc.isRow, Bool.false_eq_true] at hd <;> simp [part, isAgg, run_underlying hu, sizeOf, typeInfo, hj, hs, he, go_sem]
theorem part_one {P : Program} {ty o i : Nat} {d : TypeDesc} {x : Value} {segs : List (List Value)} (hu : P.underlying ty = some d) (hd : d.isRow = false) (h : segs[i]? = some [x]) (ho : off segs i = o) (w : World) :
    (part ty (flat segs) o).run P w = .ok x w := by
  have he : (flat segs)[o]? = some x := flat_get h ho (j := 0) rfl
  cases d <;> simp only [TypeDesc.isRow, Bool.true_eq_false] at hd <;> simp [part, isAgg, run_underlying hu, he, go_sem]
end Go.Proofs.Ytjidoedlmpjmnaa.Segs
