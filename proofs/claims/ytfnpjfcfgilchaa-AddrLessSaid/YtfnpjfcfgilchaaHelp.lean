/- Help: small facts about rows and blocks, over the print's words. -/
import Derived.Test.YtfnpjfcfgilchaaWMore
import Derived.Test.YtfnpjfcfgilchaaWNEv
import Derived.Laws.CopyOwn
import Derived.Laws.IdiomCopy
import Derived.ArgAppend
import Derived.WalkKit
import Derived.OwnWalk
import Derived.Deep.LoopGhost
namespace Go.Proofs.Ytfnpjfcfgilchaa.Help
open Go.RowKit Go.Proofs.YtfnpjfcfgilchaaW.PrintWords Go.Proofs.YtfnpjfcfgilchaaW.PrintLast Go.Proofs.YtfnpjfcfgilchaaW.PrintMore

theorem blk_new_at {w : World} {o : Obj} {g : Nat} (hg : g = w.heap.size) : (w.alloc o).heap[g]? = some o := by subst hg; exact blk_new w o
set_option linter.unusedSimpArgs false
set_option linter.unusedVariables false
/-- A stretch of a block whose cells are whole numbers is a slice that is read. -/
theorem C_of_block {w : World} {g off : Nat} {cs : Array Value} {t : TypeId} {fr : Nat × Nat} {k : IntKind} {xs : List Int} (hb : w.heap[g]? = some (.cells cs t fr))
    (hl : xs.length ≤ 9223372036854775807) (hx : ∀ j, j < xs.length → cs[off + j]? = some (.int k (xs.getD j 0))) : Kd.C (Kd.int k) w (some ⟨g, off, none⟩) xs.length xs := by
  refine Kd.C_of_reads (d := (0 : Int)) (h1 := fun _ => rfl) ⟨rfl, hl, fun _ => ⟨_, rfl, fun j hj => ?_⟩⟩
  have ha : (⟨g, off, none⟩ : Addr).add j = ⟨g, off + j, none⟩ := by unfold Addr.add; split <;> simp_all
  rw [ha, cell_of_row w g _ cs t fr hb, hx j hj]
/-- The same, the block's first cells. -/
theorem C_of_block0 {w : World} {g : Nat} {t : TypeId} {fr : Nat × Nat} {k : IntKind} {xs : List Int} {more : List Value} (hb : w.heap[g]? = some (.cells (nums k xs ++ more).toArray t fr))
    (hl : xs.length ≤ 9223372036854775807) : Kd.C (Kd.int k) w (some ⟨g, 0, none⟩) xs.length xs := by
  refine C_of_block hb hl fun j hj => ?_
  rw [Nat.zero_add, List.getElem?_toArray, List.getElem?_append_left (by simpa [nums] using hj)]
  simp [nums, List.getElem?_eq_getElem hj, List.getD_eq_getElem?_getD]

/-! ### operations by their run -/
section
variable {P : Program} {o : Oper} {a : Act} {W w1 : World} {v x y : Value} {t u : TypeId} {d s : Operand}
theorem exec_copy (ho : o.op = .call { callee := .builtin .copy, args := #[d, s], argTypes := #[t, u] }) (hd : a.eval d = x) (hs : a.eval s = y)
    (h : (Builtin.copy_ #[t, u] o.type #[x, y]).run P W = .ok v w1) : (execOp a.eval o).run P W = .ok (.value v) w1 := by
  simp [execOp, ho, resolve, invoke, builtin, hd, hs, h, Result.andThen]
theorem exec_append (ho : o.op = .call { callee := .builtin .append, args := #[d, s], argTypes := #[t, u] }) (hd : a.eval d = x) (hs : a.eval s = y)
    (h : (Builtin.append_ #[t, u] o.type #[x, y]).run P W = .ok v w1) : (execOp a.eval o).run P W = .ok (.value v) w1 := by
  simp [execOp, ho, resolve, invoke, builtin, hd, hs, h, Result.andThen]
theorem exec_load {ad : Addr} (ho : o.op = .load t d) (hd : a.eval d = .pointer (some ad)) (h : (loadVar t ad).run P W = .ok v W) : (execOp a.eval o).run P W = .ok (.value v) W := by
  simp only [execOp, ho, hd, Instr.loadAt, Instr.sureAddr, Sem.run_bind, Sem.run_pure, Result.andThen_ok, h]
theorem exec_store {ad : Addr} (ho : o.op = .store t d s) (hd : a.eval d = .pointer (some ad)) (hs : a.eval s = v) (h : (storeVar t ad v).run P W = .ok () w1) : (execOp a.eval o).run P W = .ok .skip w1 := by
  simp only [execOp, ho, hd, hs, Instr.storeAt, Instr.sureAddr, Sem.run_bind, Sem.run_pure, Result.andThen_ok, h]
theorem event_skip {ops : Array Oper} {rest : List Oper} {Q : Exit → Act → World → Prop} (hgd : o.guard = none) (hrun : (execOp a.eval o).run P W = .ok .skip w1) (h : wpList P ops Q rest (a.put o.dst undef) w1) : wpList P ops Q (o :: rest) a W := by
  refine wpList_plain hgd fun K hK => ?_
  unfold Oper.wp
  rw [hrun]
  exact hK _ _ h
theorem exec_make (ho : o.op = .makeSlice t d s) (hd : a.eval d = x) (hs : a.eval s = y)
    (h : (Instr.makeSlice t x y).run P W = .ok v w1) : (execOp a.eval o).run P W = .ok (.value v) w1 := by
  simp [execOp, ho, hd, hs, h, Result.andThen]
end
/-! ### copy, append with room -/
section
variable {P : Program}
theorem setRow_alloc (w : World) (c c' : Array Value) (t : TypeId) (fr : Nat × Nat) : (w.alloc (.cells c t fr)).setRow w.heap.size c' = w.alloc (.cells c' t fr) := by
  unfold World.setRow World.alloc
  congr 1
  apply Array.ext
  · simp
  · intro i h1 h2
    rw [Array.getElem_modify]
    by_cases h : w.heap.size = i
    · subst h; simp
    · have : i < w.heap.size := by simp at h1; omega
      simp [h, Array.getElem_push, this]
theorem splice_cons {α : Type} (L : List α) (n : Nat) (v : α) (vs : List α) (h : n < L.length) : splice (L.set n v) (n + 1) vs = splice L n (v :: vs) := by
  have hl : (L.take n).length = n := by simp; omega
  have e : L.set n v = L.take n ++ v :: L.drop (n + 1) := List.set_eq_take_append_cons_drop.trans (if_pos h)
  have key : ∀ A D : List α, splice (A ++ v :: D) (A.length + 1) vs = A ++ v :: (vs ++ D.drop vs.length) := by
    intro A D
    unfold splice
    rw [show A ++ v :: D = (A ++ [v]) ++ D by simp, List.take_left' (by simp), show A.length + 1 + vs.length = (A ++ [v]).length + vs.length by simp, ← List.drop_drop, List.drop_left]
    simp
  have k := key (L.take n) (L.drop (n + 1))
  rw [hl] at k
  rw [e, k]
  unfold splice
  rw [List.drop_drop, List.length_cons, show n + 1 + vs.length = n + (vs.length + 1) by omega]
  rfl
theorem setCells_heap {w : World} {g : Nat} {t : TypeId} (vs : List Value) : ∀ (n : Nat) (cs : Array Value), w.heap[g]? = some (.cells cs t (0, 0)) → n + vs.length ≤ cs.size →
    ∃ cs', (w.setCells g n vs).heap[g]? = some (.cells cs' t (0, 0)) ∧ cs'.toList = splice cs.toList n vs := by
  induction vs generalizing w with
  | nil => intro n cs h hn; exact ⟨cs, h, by simp [splice]⟩
  | cons v vs ih =>
    intro n cs h hn
    have h1 := blk_set h n v
    obtain ⟨cs', h2, h3⟩ := ih (n + 1) _ h1 (by simp at hn ⊢; omega)
    refine ⟨cs', h2, ?_⟩
    rw [h3]
    rw [Array.toList_setIfInBounds]
    exact splice_cons _ _ _ _ (by simp at hn ⊢; omega)
theorem setCells_grown (w : World) (g : Nat) (vs : List Value) : ∀ n, w.grownBy (w.setCells g n vs) (some g) := by
  induction vs generalizing w with
  | nil => intro n; exact World.grownBy.refl w _
  | cons v vs ih =>
    intro n
    refine World.grownBy.trans (b := w.setCell ⟨g, n, none⟩ v) ?_ (ih _ _)
    exact ⟨rfl, rfl, rfl, by simp [World.setCell], fun k hk hne => Below.heap_setCell w ⟨g, n, none⟩ v k (by simpa using hne)⟩
/-- A copy out of a slice that is read into a block that is known whole. -/
theorem copy_reads {W : World} {dT sT ty e : TypeId} {k : IntKind} (hu : P.underlying dT = some (.slice e)) (hs : (P.info? e).map (·.size) = some 1)
    {g o dLen dCap : Nat} {cs : Array Value} {t : TypeId} (hg : W.heap[g]? = some (.cells cs t (0, 0))) {A : Option Addr} {c : Nat} {xs : List Int} (hr : Kd.C (Kd.int k) W A xs.length xs) {m : Nat} (hm : m = Nat.min xs.length dLen) (ho : o + m ≤ cs.size) :
    ∃ w1, (Builtin.copy_ #[dT, sT] ty #[.slice (some ⟨g, o, none⟩) dLen dCap, .slice A xs.length c]).run P W = .ok (.int .i64 (m : Int)) w1 ∧
      (∃ cs' : Array Value, w1.heap[g]? = some (.cells cs' t (0, 0)) ∧ cs'.toList = splice cs.toList o (nums k (xs.take m))) ∧ W.grownBy w1 (some g) := by
  by_cases h0 : m = 0
  · refine ⟨W, ?_, ⟨cs, hg, by rw [h0]; simp [splice, nums]⟩, World.grownBy.refl W _⟩
    rw [h0]
    exact run_copy_none W dT sT ty e (some ⟨g, o, none⟩) A dLen dCap xs.length c hu hs (by rw [← hm]; exact h0)
  · have hx : m ≤ xs.length := by rw [hm]; exact Nat.min_le_left _ _
    obtain ⟨ad, rfl, hc⟩ := (Kd.reads_of_C (d := (0 : Int)) hr).2.2 (by omega)
    have hlen : (nums k (xs.take m)).length = m := by simp [nums]; omega
    have h := run_copy_cells (P := P) W dT sT ty e g o dLen dCap ad xs.length c (nums k (xs.take m)) hu hs (by rw [hlen]; exact hm) (fun j v hj => by
      have hjm : j < m := by rw [← hlen]; exact (List.getElem?_eq_some_iff.1 hj).1
      rw [hc j (by omega)]
      have hj2 : j < xs.length := by omega
      simp [nums, List.getElem?_take, hjm, List.getElem?_eq_getElem hj2] at hj
      subst hj
      simp [List.getD_eq_getElem?_getD, List.getElem?_eq_getElem hj2]) (fun j hj => by
      rw [blk_cell hg]
      have : o + j < cs.size := by omega
      simp [this]) (fun j _ => blk_frozen hg _) (fun v hv => by simp only [nums, List.mem_map] at hv; obtain ⟨x, _, rfl⟩ := hv; rfl)
    rw [hlen] at h
    exact ⟨_, h, setCells_heap _ o cs hg (by rw [hlen]; exact ho), setCells_grown W g _ o⟩
/-- append of one value into a row that has room. -/
theorem append_room {W : World} {t ty e : TypeId} {i : TypeInfo} (hu : P.underlying t = some (.slice e)) (hi : P.info? e = some i) (hs : i.size = 1)
    {g n c b : Nat} {cs : Array Value} {y : Value} (hg : W.heap[g]? = some (.cells cs e (0, 0))) (hn : n < c) (hcs : n < cs.size) (hy : W.cell? ⟨b, 0, none⟩ = some y) (h1 : y.oneCell' = true) :
    ∃ w1, (Builtin.append_ #[t, t] ty #[.slice (some ⟨g, 0, none⟩) n c, .slice (some ⟨b, 0, none⟩) 1 1]).run P W = .ok (.slice (some ⟨g, 0, none⟩) (n + 1) c) w1 ∧
      w1.heap[g]? = some (.cells (cs.setIfInBounds n y) e (0, 0)) ∧ W.grownBy w1 (some g) := by
  have h := run_append_room_cells (P := P) W t ty e i hu hi g 0 n c ⟨b, 0, none⟩ 1 1 [y] (by simp [hs]) (fun j u hj => by
    have : j = 0 := by have := (List.getElem?_eq_some_iff.1 hj).1; simpa using this
    subst this
    have : u = y := by simpa using hj.symm
    subst this
    exact hy) (by simpa using h1) (by omega) (fun j hj => by
    have : j = 0 := by simpa using hj
    subst this
    rw [hs, blk_cell hg]
    simp [hcs]) (fun j _ => blk_frozen hg _)
  rw [hs, Nat.zero_add, Nat.mul_one] at h
  refine ⟨_, h, ?_, setCells_grown W g _ n⟩
  exact blk_set hg n y
end
end Go.Proofs.Ytfnpjfcfgilchaa.Help
