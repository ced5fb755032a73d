/- Open: an argument's reading as the print's kinds have it, kind by kind; what it weighs. -/
import Derived.Test.YtjidoedlmpjmnaaRows
import Derived.Test.YtjidoedlmpjmnaaWMore
import Derived.Deep.Slices
import Derived.SizedLaws
import Derived.WideShapes
import Derived.ProofKit
import Derived.OpenShut
import Derived.DataShut
namespace Go.Proofs.Ytjidoedlmpjmnaa.Open
open Go.RowKit Go.WideShapes Go.Proofs.YtjidoedlmpjmnaaW.PrintWords Go.Proofs.YtjidoedlmpjmnaaW.PrintLast Go.Proofs.YtjidoedlmpjmnaaW.PrintMore
set_option linter.unusedVariables false
set_option linter.unusedSimpArgs false

section
variable {H : Type} (enc : TypeId × Value → H) (P : Program) (W : World)
abbrev rd (fuel : Nat) (t : TypeId) (cs : List Value) : Option (DataW H × List MemPlace) := DataW.trod enc P W 0 (fun _ => true) true fuel t cs
/-- Whatever reads as a t is of kind d, is well formed, and weighs no less than bk says. -/
def Opens (t : TypeId) {α : Type} (d : Kd α) (wf : α → Prop) (bk : α → Nat) : Prop :=
  ∀ fuel cs (x : DataW H × List MemPlace), rd enc P W fuel t cs = some x → (∀ n ∈ x.1.weights P t, n ≤ reachBytes) → ∃ a, d.K W a cs ∧ wf a ∧ bk a ≤ Rows.uptoBulk x.1
/-- The same of several that stand one behind the other, from off on: their types and places. -/
def OpensL (os : List (TypeId × Nat)) (off : Nat) {α : Type} (d : Kd α) (wf : α → Prop) (bk : α → Nat) : Prop :=
  ∀ fuel (cs : List Value) (ys : List (DataW H × List MemPlace)), os.mapM (fun o => rd enc P W fuel o.1 ((cs.drop o.2).take (P.cellsOf o.1))) = some ys → cs.length = off + d.sz → (∀ n ∈ DataW.weightsEach P (os.map (·.1)) (ys.map (·.1)), n ≤ reachBytes) →
    ∃ a, d.K W a (cs.drop off) ∧ wf a ∧ bk a ≤ Rows.uptoBulkAll (ys.map (·.1))
end
section
variable {H : Type} {enc : TypeId × Value → H} {P : Program} {W : World} {t e : TypeId} {α β : Type} {d : Kd α} {d' : Kd β} {wf : α → Prop} {wf' : β → Prop} {bk : α → Nat} {bk' : β → Nat}
theorem opens_int {k : IntKind} (hu : P.underlying t = some (.int k)) : Opens enc P W t (Kd.int k) (fun x => (Lit.int k x).wf = true) (fun _ => 1) := by
  intro fuel cs x h _
  obtain ⟨n, rfl, rfl, hw⟩ := DataW.trod_int hu h
  exact ⟨n, rfl, hw, by simp [Rows.uptoBulk]⟩
theorem opens_bool (hu : P.underlying t = some .bool) : Opens enc P W t Kd.bool (fun _ => True) (fun _ => 1) := by
  intro fuel cs x h _
  obtain ⟨n, rfl, rfl⟩ := DataW.trod_bool hu h
  exact ⟨n, rfl, trivial, by simp [Rows.uptoBulk]⟩
def bkL (bk : α → Nat) : List α → Nat
  | [] => 0
  | x :: r => bk x + bkL bk r
theorem bkL_append (bk : α → Nat) (a b : List α) : bkL bk (a ++ b) = bkL bk a + bkL bk b := by
  induction a with
  | nil => simp [bkL]
  | cons x r ih => simp only [List.cons_append, bkL, ih]; omega
theorem bkL_len (bk : α → Nat) (h : ∀ a, 1 ≤ bk a) (l : List α) : l.length ≤ bkL bk l := by
  induction l with
  | nil => simp [bkL]
  | cons x r ih => have := h x; simp only [bkL, List.length_cons]; omega
theorem cells_of {a : Addr} {n : Nat} {cs : List Value} (h : W.cells? 0 a n = some cs) : cs.length = n ∧ ∀ i u, cs[i]? = some u → W.cell? (a.add i) = some u := by
  unfold World.cells? at h
  rw [if_pos (Nat.zero_le _)] at h
  have key : ∀ (is : List Nat) (cs : List Value), is.mapM (fun i => W.cell? (a.add i)) = some cs → cs.length = is.length ∧ ∀ (i : Nat) u, cs[i]? = some u → ∃ j, is[i]? = some j ∧ W.cell? (a.add j) = some u := by
    intro is
    induction is with
    | nil => intro cs h; simp at h; subst h; simp
    | cons j is ih =>
      intro cs h
      rw [List.mapM_cons] at h
      simp only [bind, Option.bind_eq_some_iff, pure, Option.some.injEq] at h
      obtain ⟨v, hv, cs', h', rfl⟩ := h
      obtain ⟨h1, h2⟩ := ih cs' h'
      refine ⟨by simp [h1], fun i u hi => ?_⟩
      cases i with
      | zero => simp at hi; subst hi; exact ⟨j, by simp, hv⟩
      | succ i => simp at hi; obtain ⟨j', h3, h4⟩ := h2 i u hi; exact ⟨j', by simpa using h3, h4⟩
  obtain ⟨h1, h2⟩ := key _ _ h
  refine ⟨by simpa using h1, fun i u hi => ?_⟩
  obtain ⟨j, h3, h4⟩ := h2 i u hi
  have : j = i := by
    have := List.getElem?_range (n := n) (i := i)
    rcases Nat.lt_or_ge i n with hlt | hge
    · simp [hlt] at h3; exact h3.symm
    · simp [List.getElem?_eq_none (show (List.range n).length ≤ i by simpa using hge)] at h3
  subst this
  exact h4
theorem weights_all {l : List (DataW H)} {x : DataW H} (hx : x ∈ l) : ∀ n ∈ x.weights P e, n ∈ DataW.weightsAll P e l := by
  induction l with
  | nil => cases hx
  | cons y r ih =>
    intro n hn
    simp only [DataW.weightsAll, List.mem_append]
    rcases List.mem_cons.1 hx with rfl | h
    · exact .inl hn
    · exact .inr (ih h n hn)
theorem bulk_map (f : Nat → DataW H) (g : Nat → α) (bk : α → Nat) (is : List Nat) (h : ∀ i ∈ is, bk (g i) ≤ Rows.uptoBulk (f i)) : bkL bk (is.map g) ≤ Rows.uptoBulkAll (is.map f) := by
  induction is with
  | nil => simp [bkL, Rows.uptoBulkAll]
  | cons i is ih =>
    have h1 := h i (by simp)
    have h2 := ih (fun j hj => h j (by simp [hj]))
    simp only [List.map_cons, bkL, Rows.uptoBulkAll]
    omega
theorem opens_slice {B : Nat} (z : α) (hu : P.underlying t = some (.slice e)) (hc : P.cellsOf e = d.sz) (hB : P.bytesOf e = B) (ho : Opens enc P W e d wf bk) :
    Opens enc P W t (Kd.slice e d) (fun xs => xs.length ≤ 9223372036854775807 ∧ xs.length * B ≤ 140737488351232 ∧ ∀ x ∈ xs, wf x) (fun xs => bkL bk xs + 1) := by
  subst hB
  intro fuel cs x h hw
  rcases Deep.open_slice hu h with ⟨rfl, rfl⟩ | ⟨a, len, cap, m, n, D, Pl, rfl, _, hl, hm, hmm, rfl, hx⟩
  · exact ⟨[], ⟨none, 0, rfl, Nat.le_refl _, ⟨rfl, by simp, fun h => absurd h (by simp)⟩⟩, ⟨by simp, by simp, by simp⟩, by simp [bkL, Rows.uptoBulk]⟩
  · have hmc : m = cap := by rw [hmm]; simp
    subst hmc
    have hw' : ∀ n ∈ ((len + (m - len)) * P.bytesOf e :: (DataW.weightsAll P e ((List.range len).map D) ++ DataW.weightsAll P e ((List.range (m - len)).map fun j => D (len + j)))), n ≤ reachBytes := by
      have := hw
      simp only [DataW.weights, hu, List.length_map, List.length_range] at this
      exact this
    have hel : ∀ i, i < len → ∃ y, (∃ cs', W.cells? 0 (a.add (i * P.cellsOf e)) (P.cellsOf e) = some cs' ∧ d.K W y cs') ∧ wf y ∧ bk y ≤ Rows.uptoBulk (D i) := fun i hi => by
      obtain ⟨cs', h1, h2⟩ := hx i (by omega)
      obtain ⟨y, h3, h4, h5⟩ := ho n cs' _ h2 (fun q hq => hw' q (List.mem_cons_of_mem _ (List.mem_append.2 (.inl (weights_all (List.mem_map.2 ⟨i, List.mem_range.2 hi, rfl⟩) q hq)))))
      exact ⟨y, ⟨cs', h1, h3⟩, h4, h5⟩
    obtain ⟨f, hf⟩ := @Deep.choose_lt α ⟨z⟩ len _ hel
    have hlen : ((List.range len).map f).length = len := by simp
    have hbytes := hw' _ (List.mem_cons_self ..)
    have hmax : m ≤ 9223372036854775807 := by simpa [maxLen] using hm
    refine ⟨(List.range len).map f, ⟨some a, m, by rw [hlen], by rw [hlen]; exact hl, ?_⟩, ⟨by rw [hlen]; omega, ?_, fun y hy => ?_⟩, ?_⟩
    · refine ⟨rfl, by rw [hlen]; omega, fun _ => ⟨a, rfl, fun j p hj => ?_⟩⟩
      obtain ⟨hj1, hj2⟩ := List.getElem?_eq_some_iff.1 hj
      have hjl : j < len := by simpa using hj1
      have hp : p = f j := by rw [← hj2]; simp
      subst hp
      obtain ⟨⟨cs', h1, h2⟩, _, _⟩ := hf j hjl
      obtain ⟨h3, h4⟩ := cells_of h1
      refine ⟨cs', by rw [h3, hc], h2, fun i u hi => ?_⟩
      have := h4 i u hi
      rwa [Deep.add_add, hc] at this
    · rw [hlen]
      refine Nat.le_trans (Nat.mul_le_mul_right _ (show len ≤ len + (m - len) by omega)) (Nat.le_trans hbytes (by decide))
    · obtain ⟨i, hi, rfl⟩ := List.mem_map.1 hy
      exact (hf i (List.mem_range.1 hi)).2.1
    · have := bulk_map D f bk (List.range len) (fun i hi => (hf i (List.mem_range.1 hi)).2.2)
      simp only [Rows.uptoBulk]
      omega
theorem weights_each_nil (os : List TypeId) : DataW.weightsEach (H := H) P os [] = [] := by cases os <;> rfl
theorem opensL_one {off : Nat} (ho : Opens enc P W t d wf bk) (hc : P.cellsOf t = d.sz) : OpensL enc P W [(t, off)] off d wf bk := by
  intro fuel cs ys h hl hw
  rw [List.mapM_cons] at h
  simp only [bind, Option.bind_eq_some_iff, pure, Option.some.injEq, List.mapM_nil] at h
  obtain ⟨y, hy, _, rfl, rfl⟩ := h
  rw [List.take_of_length_le (by rw [List.length_drop]; omega)] at hy
  obtain ⟨a, h1, h2, h3⟩ := ho fuel _ y hy (fun n hn => hw n (by simp only [List.map_cons, List.map_nil, DataW.weightsEach, List.mem_append]; exact .inl hn))
  exact ⟨a, h1, h2, by simpa [Rows.uptoBulkAll] using h3⟩
theorem opensL_cons {off off' : Nat} {os : List (TypeId × Nat)} (ho : Opens enc P W t d wf bk) (hc : P.cellsOf t = d.sz) (hoff : off' = off + d.sz) (hr : OpensL enc P W os off' d' wf' bk') :
    OpensL enc P W ((t, off) :: os) off (Kd.pair d d') (fun x => wf x.1 ∧ wf' x.2) (fun x => bk x.1 + bk' x.2) := by
  subst hoff
  intro fuel cs ys h hl hw
  rw [List.mapM_cons] at h
  simp only [bind, Option.bind_eq_some_iff, pure, Option.some.injEq] at h
  obtain ⟨y, hy, ys', hys, rfl⟩ := h
  have hsz : (Kd.pair d d').sz = d.sz + d'.sz := rfl
  simp only [List.map_cons, DataW.weightsEach, List.mem_append] at hw
  obtain ⟨a, h1, h2, h3⟩ := ho fuel _ y hy (fun n hn => hw n (.inl hn))
  obtain ⟨b, h4, h5, h6⟩ := hr fuel cs ys' hys (by omega) (fun n hn => hw n (.inr hn))
  refine ⟨(a, b), ⟨_, _, ?_, h1, h4⟩, ⟨h2, h5⟩, by simp only [List.map_cons, Rows.uptoBulkAll]; omega⟩
  rw [hc, ← List.drop_drop, List.take_append_drop]
theorem opens_struct {fs : Array Field} (hu : P.underlying t = some (.struct fs)) (hc : P.cellsOf t = d.sz) (hl : OpensL enc P W (fs.toList.map fun f => (f.type, f.offset)) 0 d wf bk) : Opens enc P W t d wf (fun x => bk x + 1) := by
  intro fuel cs x h hw
  obtain ⟨ys, n, rfl, rfl, hcl, hlen, hys⟩ := DataW.trod_struct hu h
  have hw' : ∀ q ∈ DataW.weightsEach P (fs.toList.map (·.type)) (ys.map (·.1)), q ≤ reachBytes := by simpa [DataW.weights, hu] using hw
  have hm : (fs.toList.map fun f => (f.type, f.offset)).mapM (fun o => rd enc P W n o.1 ((cs.drop o.2).take (P.cellsOf o.1))) = some ys := by
    refine mapM_some_of_get _ _ (by simpa using hlen) fun i o ho => ?_
    rw [List.getElem?_map] at ho
    obtain ⟨f, hf, rfl⟩ := Option.map_eq_some_iff.1 ho
    exact hys i f (by simpa using hf)
  obtain ⟨a, h1, h2, h3⟩ := hl n cs ys hm (by rw [hcl, hc]; simp) (by simpa [List.map_map, Function.comp_def] using hw')
  exact ⟨a, by simpa using h1, h2, by simp only [Rows.uptoBulk]; omega⟩
theorem each_all (n : Nat) : ∀ (l : List (DataW H)), l.length = n → DataW.weightsEach P (List.replicate n e) l = DataW.weightsAll P e l := by
  induction n with
  | zero => intro l hl; obtain rfl := List.eq_nil_of_length_eq_zero hl; rfl
  | succ n ih =>
    intro l hl
    cases l with
    | nil => simp at hl
    | cons x r => simp only [List.replicate_succ, DataW.weightsEach, DataW.weightsAll, ih r (by simpa using hl)]
theorem opens_array {n : Nat} (hu : P.underlying t = some (.array n e)) (hc : P.cellsOf t = d.sz) (hl : OpensL enc P W ((List.range n).map fun i => (e, i * P.cellsOf e)) 0 d wf bk) : Opens enc P W t d wf (fun x => bk x + 1) := by
  intro fuel cs x h hw
  obtain ⟨ys, m, rfl, rfl, hcl, hlen, hys⟩ := DataW.trod_array hu h
  have hw' : ∀ q ∈ DataW.weightsAll P e (ys.map (·.1)), q ≤ reachBytes := by simpa [DataW.weights, hu] using hw
  have hm : ((List.range n).map fun i => (e, i * P.cellsOf e)).mapM (fun o => rd enc P W m o.1 ((cs.drop o.2).take (P.cellsOf o.1))) = some ys := by
    refine mapM_some_of_get _ _ (by simpa using hlen) fun i o ho => ?_
    rw [List.getElem?_map] at ho
    obtain ⟨j, hj, rfl⟩ := Option.map_eq_some_iff.1 ho
    obtain ⟨hi, hij⟩ := List.getElem?_eq_some_iff.1 hj
    rw [List.getElem_range] at hij
    subst hij
    exact hys i (by simpa using hi)
  obtain ⟨a, h1, h2, h3⟩ := hl m cs ys hm (by rw [hcl, hc]; simp) (by
    rw [List.map_map, show ((fun x : TypeId × Nat => x.1) ∘ fun i => (e, i * P.cellsOf e)) = fun _ => e from rfl, List.map_const', List.length_range, each_all n _ (by simpa using hlen)]
    exact hw')
  exact ⟨a, by simpa using h1, h2, by simp only [Rows.uptoBulk]; omega⟩
theorem opensL_of {os os' : List (TypeId × Nat)} {off : Nat} (h : os' = os) (ho : OpensL enc P W os off d wf bk) : OpensL enc P W os' off d wf bk := h ▸ ho
theorem opens_iso (f : β → α) (g : α → β) (hg : ∀ a, f (g a) = a) (ho : Opens enc P W t d wf bk) : Opens enc P W t (Kd.iso d f) (fun b => wf (f b)) (fun b => bk (f b)) := by
  intro fuel cs x h hw
  obtain ⟨a, h1, h2, h3⟩ := ho fuel cs x h hw
  exact ⟨g a, show d.K W (f (g a)) cs by rw [hg]; exact h1, show wf (f (g a)) by rw [hg]; exact h2, show bk (f (g a)) ≤ _ by rw [hg]; exact h3⟩
theorem opens_imp {wf2 : α → Prop} {bk2 : α → Nat} (ho : Opens enc P W t d wf bk) (h1 : ∀ a, wf a → wf2 a) (h2 : ∀ a, bk2 a ≤ bk a) : Opens enc P W t d wf2 bk2 := by
  intro fuel cs x h hw
  obtain ⟨a, k1, k2, k3⟩ := ho fuel cs x h hw
  exact ⟨a, k1, h1 a k2, Nat.le_trans (h2 a) k3⟩
theorem each_get {ts : List TypeId} {ds : List (DataW H)} (hsz : (DataW.weightsEach P ts ds).all (· ≤ reachBytes) = true) {j : Nat} {x : DataW H} (ht : ts[j]? = some t) (hd : ds[j]? = some x) : ∀ n ∈ x.weights P t, n ≤ reachBytes := fun n hn => by
  have := List.all_eq_true.1 hsz n (DataW.weights_mem_each ht hd n hn)
  simpa using this
end
end Go.Proofs.Ytjidoedlmpjmnaa.Open
