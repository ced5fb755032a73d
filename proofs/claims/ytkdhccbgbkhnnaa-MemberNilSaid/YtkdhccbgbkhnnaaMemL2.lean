/- Live. -/
import Derived.Test.YtkdhccbgbkhnnaaMemL1
import Derived.Maps.AppendAt
namespace Go.Proofs.Ytkdhccbgbkhnnaa.Memb
open Go.RowKit Go.Shelf Go.Proofs.Ytkdhccbgbkhnnaa.MapI Go.Proofs.Ytkdhccbgbkhnnaa.Mem Go.Proofs.Ytkdhccbgbkhnnaa.Help Go.Proofs.YtkdhccbgbkhnnaaW.PrintWords Go.Proofs.YtkdhccbgbkhnnaaW.PrintLast Go.Proofs.YtkdhccbgbkhnnaaW.PrintMore
set_option linter.unusedVariables false
set_option linter.unusedSimpArgs false
attribute [local go_sem] Oper.semAt_some
theorem VW.keptN {me : Int} {g b n₀ : Nat} {xs : List (Int × Int)} {w w' : World} (h : VW me g b xs w) (hg : g < n₀) (hb : b < n₀) (hB : Below n₀ w w') : VW me g b xs w' :=
  ⟨(hB.block _ hg).trans h.v, by
    obtain ⟨es, clock, hb', r⟩ := h.m
    exact ⟨es, clock, (hB.block _ hb).trans hb', r⟩⟩
theorem all_stops (F : Fence) (n : Nat) (h63 : F.fn 63) (hro : F.round = none) (hn : 1 ≤ n) (Bv n₀ : Nat) {me : Int} {g b : Nat} {xs : List (Int × Int)} (hl : xs.length < 1000) (hg : g < n₀) (hb : b < n₀) (w : World) (hBv : Bv < w.heap.size) (hn₀ : n₀ ≤ w.heap.size)
    (hc : Boxed w Bv 34 (.pointer (some ⟨g, 0, none⟩))) (hV : VW me g b xs w) :
    SeqStopsK F n Try.prog 63 #[.pointer (some ⟨Bv, 0, none⟩)] encI (KpV n₀ Bv) (fun ys => ys = upto (allS xs) xs.length) (fun pre => ∃ k, k ≤ xs.length ∧ pre = upto (allS xs) k) xs.length w := fun l J Jx W hW _ _ hY h0 =>
  all1_in F n h63 hro hn l Bv n₀ hl hg hb J Jx hY W ((hW.block Bv hBv).trans hc) (hV.keptN hg hb (hW.mono hn₀)) h0
theorem all_in (F : Fence) (n : Nat) (h53 : F.fn 53) (hro : F.round = none) (p : Option Addr) (w : World) :
    CallsIn F n Try.prog 53 #[.pointer p] w fun e w' => e = .returned (.func (.func 63) #[] #[.pointer (some ⟨w.heap.size, 0, none⟩)]) ∧ w' = w.alloc (.cells #[.pointer p] 34) := by
  refine callsIn_of_wp Try.func53 rfl h53 ?_ hro
  simp only [Try.ntmps53, List.size_toArray, List.length_cons, List.length_nil, Nat.reduceAdd, Nat.reduceSub, Array.replicate_succ, Array.replicate_zero, List.push_toArray, List.append_toArray, List.nil_append, List.cons_append]
  gi_wp2
  go_ret
  exact ⟨rfl, rfl⟩
/-- Who is there. -/
def liveP (pre : List (Nat × (Int × Int))) : List Nat := (pre.filter (fun x => !(x.2.1 == 2))).map (·.1)
theorem liveP_yes (pre : List (Nat × (Int × Int))) (x : Nat × (Int × Int)) (h : (x.2.1 == 2) = false) : liveP (pre ++ [x]) = liveP pre ++ [x.1] := by simp [liveP, List.filter_append, h]
theorem liveP_no (pre : List (Nat × (Int × Int))) (x : Nat × (Int × Int)) (h : (x.2.1 == 2) = true) : liveP (pre ++ [x]) = liveP pre := by simp [liveP, List.filter_append, h]
theorem liveP_len (pre : List (Nat × (Int × Int))) : (liveP pre).length ≤ pre.length := by simp [liveP]; exact List.length_filter_le _ _
def kI (k : Nat) : Value := .int .i64 (k : Int)
theorem blk_own {A B : World} {row : Option Nat} {x : Nat} {cs : Array Value} {t : TypeId} {fr : Nat × Nat} (h : A.heap[x]? = some (.cells cs t fr)) (hg : A.grownBy B row) (hr : ∀ r, row = some r → ∃ o : Obj, A.heap[r]? = some o ∧ o.isCells = false) : B.heap[x]? = some (.cells cs t fr) :=
  (hg.block x (Array.getElem?_eq_some_iff.1 h).1 (fun e => by obtain ⟨o, ho, hc⟩ := hr x e.symm; rw [h] at ho; cases ho; cases hc)).trans h
theorem kpV_b {w : World} {n₀ Bv : Nat} (hn : n₀ ≤ w.heap.size) (W : World) (l : Nat) (o o' : Obj) (hl : w.heap.size ≤ l) (h : W.heap[l]? = some o) (hc : o.isCells = false) (_ : o.isWalk = false) : KpV n₀ Bv W (W.putObj l o') :=
  ⟨belowK_b hn W l o o' hl h hc ‹_›, fun v hv => blk_own hv (grownBy_putObj' W l o') (fun r e => by cases e; exact ⟨o, h, hc⟩)⟩
theorem infoInt : (Try.prog.info? 3).map (fun i => (i.zero, i.size, i.bytes)) = some (some (.int .i64 0), 1, 8) := by kernel_rfl
/-- What a loop over all holds between two rounds. -/
def LiveI (w : World) (pre : List (Nat × (Int × Int))) (W : World) : Prop :=
  (∃ v, Boxed W w.heap.size 33 v ∧ W.ownsRow w.heap.size 3 1 v (liveP pre).length ((liveP pre).map kI) ∧ (v = .slice none 0 0 ↔ liveP pre = [])) ∧ Below w.heap.size w W
def LiveX (g : Nat) (w : World) (x : Nat × (Int × Int)) (a' : Act) (W : World) : Prop :=
  ∃ Bx : Nat, W.heap[Bx]? = some (.cells #[.int .i64 x.2.1, .int .i64 x.2.2] 24 (0, 0)) ∧ a' = { tmps := #[.pointer (some ⟨g, 0, none⟩), undef, .slice none 0 0, .pointer (some ⟨w.heap.size, 0, none⟩), .int .i64 (x.1 : Int), .pointer (some ⟨Bx, 0, none⟩), .pointer (some ⟨g, 0, none⟩), .func (.func 63) #[] #[.pointer (some ⟨w.heap.size + 1, 0, none⟩)], .int .i64 (x.1 : Int), .agg #[.int .i64 x.2.1, .int .i64 x.2.2], undef, undef, undef, undef, undef, undef, undef, undef], defers := [] }
set_option maxRecDepth 100000 in
set_option maxHeartbeats 4000000 in
theorem Live_in (F : Fence) (n : Nat) (h35 : F.fn 35) (h53 : F.fn 53) (h63 : F.fn 63) (hro : F.round = none) (hn : 6 ≤ n) {me : Int} {g b : Nat} {xs : List (Int × Int)} (hl : xs.length < 1000) (w : World) (hV : VW me g b xs w) :
    CallsIn F n Try.prog 35 #[.pointer (some ⟨g, 0, none⟩)] w fun e W' => ∃ v, e = .returned v ∧ W'.ownsRow w.heap.size 3 1 v (liveP (upto (allS xs) xs.length)).length ((liveP (upto (allS xs) xs.length)).map kI) ∧ Below w.heap.size w W' := by
  have h1 : 1 ≤ n := by omega
  refine callsIn_of_wp_marks Try.func35 rfl h35 ?_ hro
  simp only [Try.ntmps35, List.size_toArray, List.length_cons, List.length_nil, Nat.reduceAdd, Nat.reduceSub, Array.replicate_succ, Array.replicate_zero, List.push_toArray, List.append_toArray, List.nil_append, List.cons_append]
  have HV := Aside0.mk hV
  have HL := Aside0.mk hl
  clear hV hl
  gi_wp2_with (gi_at_call 53; refine (all_in F (n - 1) h53 hro _ _).mono ?_; rintro e w' ⟨rfl, rfl⟩)
  have hg : g < w.heap.size := (Array.getElem?_eq_some_iff.1 HV.out.v).1
  have hb : b < w.heap.size := HV.out.m.lt
  have bS := (Boxed.new w 33 (.slice none 0 0)).alloc (.cells #[.pointer (some ⟨g, 0, none⟩)] 34)
  have bA := Boxed.new (w.alloc (.cells #[.slice none 0 0] 33)) 34 (.pointer (some ⟨g, 0, none⟩))
  simp only [World.size_alloc] at bA
  have hB0 : Below w.heap.size w ((w.alloc (.cells #[.slice none 0 0] 33)).alloc (.cells #[.pointer (some ⟨g, 0, none⟩)] 34)) := ((Below.refl _ w).alloc (Nat.le_refl _) _).alloc (by simp) _
  have hsz : ((w.alloc (.cells #[.slice none 0 0] 33)).alloc (.cells #[.pointer (some ⟨g, 0, none⟩)] 34)).heap.size = w.heap.size + 2 := by simp
  obtain ⟨W0, hW0⟩ : ∃ W0, (w.alloc (.cells #[.slice none 0 0] 33)).alloc (.cells #[.pointer (some ⟨g, 0, none⟩)] 34) = W0 := ⟨_, rfl⟩
  rw [hW0] at bS bA hB0 hsz ⊢
  clear hW0
  refine wpIn_rangeFunc_ownH hro h1 (gf := 63) (lb := #[.pointer (some ⟨w.heap.size + 1, 0, none⟩)]) rfl h63 (enters_of Try.func63 (by kernel_rfl) rfl)
    (all_stops F (n - 1) h63 hro (by omega) (w.heap.size + 1) w.heap.size HL.out hg hb W0 (by omega) (by omega) bA (HV.out.keptN hg hb hB0)) kpV_t (kpV_b (by omega)) (Below.refl _ _) (fun _ => rfl)
    (LiveI w) (fun _ _ _ => False)
    (OwnFrom.and (Own.from (holdsRow_own w.heap.size w.heap.size 33 3 1 (fun pre => (liveP pre).length) (fun pre => (liveP pre).map kI) (fun pre v => (v = .slice none 0 0 ↔ liveP pre = []))) _) (ownFrom_below (Nat.le_refl _) (by omega)))
    (fun _ _ _ _ _ hs _ _ => hs)
    ⟨⟨_, bS, World.ownsRow_nil _ _ _ _, by simp [liveP]⟩, hB0⟩
    (LiveX g w)
    (fun x a' _ X Y row hs hg hr => by obtain ⟨Bx, h2, h3⟩ := hs; exact ⟨Bx, blk_own h2 hg (fun r e => (hr r e).2), h3⟩)
    ?assign ?body ?done ?stop
  case assign =>
    rintro l pre x W K ⟨⟨v, bS1, r1, n1⟩, hB1⟩ hK
    unfold encI
    gi_wp2
    exact hK _ _ ((KeepsOthers.alloc _ _).from _) ⟨(Below.refl _ W).alloc hB1.size _, fun v hv => hv.alloc _⟩ ⟨⟨v, bS1.alloc _, r1.alloc _, n1⟩, hB1.alloc hB1.size _⟩ ⟨W.heap.size, World.alloc_heap_new W _, rfl⟩
  case body =>
    rintro l pre x a' W hl ⟨r, hr⟩ ⟨⟨v, bS1, r1, n1⟩, hB1⟩ ⟨Bx, bX, rfl⟩ hlt
    have c0 := blk_cell bX 0
    cases h2 : (x.2.1 == 2)
    · have cS := bS1.cell
      obtain ⟨i0, hi, hz0, hz1, hz2⟩ := info_parts infoInt
      have hle : w.heap.size ≤ w.heap.size := Nat.le_refl _
      have hln := liveP_len pre
      have hxl := HL.out
      have HY := Aside0.mk (And.intro n1 hB1)
      have hsz1 := hB1.size
      have HB := Aside0.mk hsz1
      clear n1 hB1 hsz hr
      gi_wp2_with (gi_at_builtin; refine wpListIn_append_own _ rfl _ _ 33 rfl w.heap.size 3 i0 (.int .i64 0) 1 8 Try.underlying33 hi hz0 hz1 hz2 rfl (by decide) _ _ _ rfl (r1.alloc _) ⟨W.heap.size, 0, none⟩ 1 1 [kI x.1] rfl rfl (cell_one_new _ _ _) (by simp [Value.oneCell', kI]) (by unfold maxLen; omega) (by omega) (by have := HB.out; simp; omega) ?_; intro v' w1 hown' hgrow _; obtain ⟨g', cap', rfl⟩ := ownsRow_succ hown'; obtain ⟨hv1, hv2, hr2, hk2, hb2⟩ := bS1.appended (by decide) r1 HB.out hle hown' hgrow; have hc1 := hv1.cell; have hf1 := hv1.frozen)
      have hm : (liveP pre).map kI ++ [kI x.1] = (liveP (pre ++ [x])).map kI := by rw [liveP_yes pre x h2]; simp
      have hn' : (liveP pre).length + 1 = (liveP (pre ++ [x])).length := by rw [liveP_yes pre x h2]; simp
      refine ⟨hk2.from _, ⟨hb2, fun u hu => ?_⟩, ⟨_, hv2, by rw [← hm, ← hn']; exact hr2, by rw [liveP_yes pre x h2]; simp⟩, HY.out.2.trans hb2⟩
      exact ((hu.alloc _).kept hgrow (hu.not_row (by decide) r1)).other (by omega) _
    · have HK := Aside0.mk (And.intro bS1 (And.intro r1 (And.intro n1 hB1)))
      clear bS1 r1 n1 hB1 bX hr
      gi_wp2
      exact ⟨(KeepsOthers.refl _).from _, kpV_refl _ _ _, ⟨v, HK.out.1, by rw [liveP_no pre x h2]; exact HK.out.2.1, by rw [liveP_no pre x h2]; exact HK.out.2.2.1⟩, HK.out.2.2.2⟩
  case done =>
    rintro D ys W hD rfl ⟨⟨v, bS1, r1, n1⟩, hB1⟩ hK
    have cS := bS1.cell
    gi_wp2
    refine ⟨by simp, .inl ⟨_, _, rfl, run_takeDeferred hK, ?_⟩⟩
    exact ⟨_, results_tmp rfl _ _ _, _, rfl, ownsRow_putObj r1 _ hK rfl, hB1.trans (belowK_b (w := w) (Nat.le_refl _) W D _ _ (by omega) hK rfl rfl)⟩
  case stop =>
    rintro D c pre W _ _ h _
    exact h.elim
theorem Live_any {me : Int} {g b : Nat} {xs : List (Int × Int)} (hl : xs.length < 1000) (w : World) (hV : VW me g b xs w) :
    Calls Try.prog 35 #[.pointer (some ⟨g, 0, none⟩)] w fun e W' => ∃ v, e = .returned v ∧ W'.ownsRow w.heap.size 3 1 v (liveP (upto (allS xs) xs.length)).length ((liveP (upto (allS xs) xs.length)).map kI) ∧ Below w.heap.size w W' :=
  callsIn_wide.1 (Live_in Fence.wide 6 trivial trivial trivial rfl (Nat.le_refl _) hl w hV)
end Go.Proofs.Ytkdhccbgbkhnnaa.Memb
