/- MemLi: MemL1, MemL2. -/
import Derived.RangeFuncNested
import Derived.RangeFuncBound
import Derived.RangeFuncCalls
import Derived.RangeFuncLeaves
import Derived.RangeFuncBox
import Derived.Shelf.Abstract
import Derived.Shelf.RegionOpen
import Derived.WalkKit
import Derived.OwnWalkIn
import Derived.TacticsInMore
import Derived.LoopNIn
import Derived.LoopIn
import Derived.Maps.OwnIn
import Derived.Test.YtkdhccbgbkhnnaaMemV
import Derived.Maps.AppendAt
namespace Go.Proofs.Ytkdhccbgbkhnnaa.Memb
open Go.RowKit Go.Shelf Go.Proofs.Ytkdhccbgbkhnnaa.MapI Go.Proofs.Ytkdhccbgbkhnnaa.Mem Go.Proofs.Ytkdhccbgbkhnnaa.Help Go.Proofs.YtkdhccbgbkhnnaaW.PrintWords Go.Proofs.YtkdhccbgbkhnnaaW.PrintLast Go.Proofs.YtkdhccbgbkhnnaaW.PrintMore
set_option linter.unusedVariables false
set_option linter.unusedSimpArgs false
attribute [local go_sem] Oper.semAt_some
def upto {α : Type} (f : Nat → α) (k : Nat) : List α := (List.range k).map f
theorem upto_succ {α : Type} (f : Nat → α) (k : Nat) : upto f (k + 1) = upto f k ++ [f k] := by simp [upto, List.range_succ]
theorem upto_length {α : Type} (f : Nat → α) (k : Nat) : (upto f k).length = k := by simp [upto]
/-- What comes. -/
def allS (xs : List (Int × Int)) (j : Nat) : Nat × (Int × Int) := (j, getI xs (j : Int))
/-- What a round that goes on keeps. -/
def KpV (n₀ Bv : Nat) (W W' : World) : Prop := Below n₀ W W' ∧ ∀ v, Boxed W Bv 34 v → Boxed W' Bv 34 v
theorem kpV_refl (n₀ Bv : Nat) (W : World) : KpV n₀ Bv W W := ⟨Below.refl _ _, fun _ h => h⟩
theorem kpV_t {n₀ Bv : Nat} {A B C : World} (h : KpV n₀ Bv A B) (k : KpV n₀ Bv B C) : KpV n₀ Bv A C := ⟨h.1.trans k.1, fun v hv => k.2 v (h.2 v hv)⟩
def encI (x : Nat × (Int × Int)) : Array Value := #[.int .i64 (x.1 : Int), .agg #[.int .i64 x.2.1, .int .i64 x.2.2]]
set_option maxRecDepth 100000 in
set_option maxHeartbeats 2000000 in
theorem all1_in (F : Fence) (n : Nat) (h63 : F.fn 63) (hro : F.round = none) (hn : 1 ≤ n) (l Bv n₀ : Nat) {me : Int} {g b : Nat} {xs : List (Int × Int)} (hl : xs.length < 1000) (hg : g < n₀) (hb : b < n₀)
    (J Jx : List (Nat × (Int × Int)) → World → Prop)
    (hY : ∀ pre x W, J pre W → pre.length < xs.length → YieldAt F (n - 1) Try.prog l (encI x) W fun e W' =>
      (e = .returned (.bool true) ∧ J (pre ++ [x]) W' ∧ KpV n₀ Bv W W') ∨ (e = .returned (.bool false) ∧ Jx (pre ++ [x]) W'))
    (W : World) (hc : Boxed W Bv 34 (.pointer (some ⟨g, 0, none⟩))) (hV : VW me g b xs W) (h0 : J [] W) :
    CallsIn F n Try.prog 63 #[.func (.yield l) #[] #[], .pointer (some ⟨Bv, 0, none⟩)] W fun e W' => (∃ v, e = .returned v) ∧
      ((∃ ys, ys = upto (allS xs) xs.length ∧ J ys W') ∨ (∃ pre, (∃ k, k ≤ xs.length ∧ pre = upto (allS xs) k) ∧ Jx pre W')) := by
  refine callsIn_of_wp Try.func63 rfl h63 ?_ hro
  simp only [Try.ntmps63, List.size_toArray, List.length_cons, List.length_nil, Nat.reduceAdd, Nat.reduceSub, Array.replicate_succ, Array.replicate_zero, List.push_toArray, List.append_toArray, List.nil_append, List.cons_append]
  have HV := Aside0.mk hV
  have HX := Aside0.mk hl
  have HC := Aside0.mk hc
  clear hV hl hc
  gi_wp2
  gi_loopw [3] (fun i wr => ∃ k : Nat, k ≤ xs.length ∧ i = .int .i64 k ∧ J (upto (allS xs) k) wr ∧ Aside0 (KpV n₀ Bv W wr))
    (fun i _ => xs.length - (intOf i).toNat)
  case atStart => exact ⟨0, Nat.zero_le _, rfl, h0, ⟨kpV_refl _ _ _⟩⟩
  case round =>
    obtain ⟨k, hk, rfl, hJs, HN⟩ := hrel
    have hV := HV.out
    have hVr : VW me g b xs wr := ⟨(HN.out.1.block _ hg).trans hV.v, by
      obtain ⟨es, clock, hb', r⟩ := hV.m
      exact ⟨es, clock, (HN.out.1.block _ hb).trans hb', r⟩⟩
    have hcr := (HN.out.2 _ HC.out).cell
    have c1 := blk_cell hVr.v 1
    by_cases hlt : k < xs.length
    · obtain ⟨fn, tmps, assign, body, hy, hR⟩ := hY _ (allS xs k) wr hJs (by rw [upto_length]; exact hlt)
      unfold encI allS at hy
      dsimp only at hy
      have c2 := blk_cell hVr.v 2
      have hlk := hVr.look false (j := (k : Int)) (int_wf (by have := HX.out; omega))
      unfold infV at hlk
      simp only [Bool.false_eq_true, if_false] at hlk
      have hlt2 : (k : Int) < (xs.length : Int) := by omega
      have hSz := Aside0.mk hlt
      have hw1 : wrap64 ((k : Int) + 1) = (k : Int) + 1 := by have := HX.out; unfold wrap64; omega
      have hw2 : IntKind.i64.wrap ((k : Int) + 1) = (k : Int) + 1 := by rw [IntKind.wrap_i64]; have := HX.out; omega
      have HW := Aside0.mk hw1
      clear hVr hlt hV hw1
      gi_wp2
      refine hR.mono ?_
      rintro e W3 (⟨rfl, hJ3, hk3⟩ | ⟨rfl, hJx3⟩)
      · gi_wp2
        go_roundw
        case rel => exact ⟨k + 1, by have := hSz.out; omega, by first | rfl | (simp; done) | (simp; rw [HW.out]), by rw [upto_succ]; exact hJ3, ⟨kpV_t HN.out hk3⟩⟩
        case measure => have := hSz.out; simp [intOf]; first | omega | (rw [HW.out]; omega)
      · gi_wp2
        go_end0
        exact ⟨⟨_, rfl⟩, .inr ⟨_, ⟨k + 1, by have := hSz.out; omega, (upto_succ _ _).symm⟩, hJx3⟩⟩
    · obtain rfl : k = xs.length := by omega
      clear hVr hV
      gi_wp2
      refine ⟨fun _ h => (by cases h), ?_⟩
      gi_wp2
      go_end0
      exact ⟨⟨_, rfl⟩, .inl ⟨_, rfl, hJs⟩⟩
end Go.Proofs.Ytkdhccbgbkhnnaa.Memb
namespace Go.Proofs.Ytkdhccbgbkhnnaa.Memb
open Go.RowKit Go.Shelf Go.Proofs.Ytkdhccbgbkhnnaa.MapI Go.Proofs.Ytkdhccbgbkhnnaa.Mem Go.Proofs.Ytkdhccbgbkhnnaa.Help Go.Proofs.YtkdhccbgbkhnnaaW.PrintWords Go.Proofs.YtkdhccbgbkhnnaaW.PrintLast Go.Proofs.YtkdhccbgbkhnnaaW.PrintMore
set_option linter.unusedVariables false
set_option linter.unusedSimpArgs false
attribute [local go_sem] Oper.semAt_some
theorem VW.keptN {me : Int} {g b n₀ : Nat} {xs : List (Int × Int)} {w w' : World} (h : VW me g b xs w) (hg : g < n₀) (hb : b < n₀) (hB : Below n₀ w w') : VW me g b xs w' :=
  ⟨(hB.block _ hg).trans h.v, by
    obtain ⟨es, clock, hb', r⟩ := h.m
    exact ⟨es, clock, (hB.block _ hb).trans hb', r⟩⟩
theorem all_stops (F : Fence) (n : Nat) (h63 : F.fn 63) (hro : F.round = none) (hn : 1 ≤ n) (Bv n₀ : Nat) {me : Int} {g b : Nat} {xs : List (Int × Int)} (hl : xs.length < 1000) (hg : g < n₀) (hb : b < n₀) (w : World) (hBv : Bv < w.heap.size) (hn₀ : n₀ ≤ w.heap.size)
    (hc : Boxed w Bv 34 (.pointer (some ⟨g, 0, none⟩))) (hV : VW me g b xs w) :
    SeqStopsK F n Try.prog 63 #[.pointer (some ⟨Bv, 0, none⟩)] encI (KpV n₀ Bv) (fun ys => ys = upto (allS xs) xs.length) (fun pre => ∃ k, k ≤ xs.length ∧ pre = upto (allS xs) k) xs.length w := fun l J Jx W hW _ _ hY h0 =>
  all1_in F n h63 hro hn l Bv n₀ hl hg hb J Jx hY W ((hW.block Bv hBv).trans hc) (hV.keptN hg hb (hW.mono hn₀)) h0
theorem all_in (F : Fence) (n : Nat) (h53 : F.fn 53) (hro : F.round = none) (p : Option Addr) (w : World) :
    CallsIn F n Try.prog 53 #[.pointer p] w fun e w' => e = .returned (.func (.func 63) #[] #[.pointer (some ⟨w.heap.size, 0, none⟩)]) ∧ w' = w.alloc (.cells #[.pointer p] 34) := by
  refine callsIn_of_wp Try.func53 rfl h53 ?_ hro
  simp only [Try.ntmps53, List.size_toArray, List.length_cons, List.length_nil, Nat.reduceAdd, Nat.reduceSub, Array.replicate_succ, Array.replicate_zero, List.push_toArray, List.append_toArray, List.nil_append, List.cons_append]
  gi_wp2
  go_ret
  exact ⟨rfl, rfl⟩
/-- Who is there. -/
def liveP (pre : List (Nat × (Int × Int))) : List Nat := (pre.filter (fun x => !(x.2.1 == 2))).map (·.1)
theorem liveP_yes (pre : List (Nat × (Int × Int))) (x : Nat × (Int × Int)) (h : (x.2.1 == 2) = false) : liveP (pre ++ [x]) = liveP pre ++ [x.1] := by simp [liveP, List.filter_append, h]
theorem liveP_no (pre : List (Nat × (Int × Int))) (x : Nat × (Int × Int)) (h : (x.2.1 == 2) = true) : liveP (pre ++ [x]) = liveP pre := by simp [liveP, List.filter_append, h]
theorem liveP_len (pre : List (Nat × (Int × Int))) : (liveP pre).length ≤ pre.length := by simp [liveP]; exact List.length_filter_le _ _
def kI (k : Nat) : Value := .int .i64 (k : Int)
theorem blk_own {A B : World} {row : Option Nat} {x : Nat} {cs : Array Value} {t : TypeId} {fr : Nat × Nat} (h : A.heap[x]? = some (.cells cs t fr)) (hg : A.grownBy B row) (hr : ∀ r, row = some r → ∃ o : Obj, A.heap[r]? = some o ∧ o.isCells = false) : B.heap[x]? = some (.cells cs t fr) :=
  (hg.block x (Array.getElem?_eq_some_iff.1 h).1 (fun e => by obtain ⟨o, ho, hc⟩ := hr x e.symm; rw [h] at ho; cases ho; cases hc)).trans h
theorem kpV_b {w : World} {n₀ Bv : Nat} (hn : n₀ ≤ w.heap.size) (W : World) (l : Nat) (o o' : Obj) (hl : w.heap.size ≤ l) (h : W.heap[l]? = some o) (hc : o.isCells = false) (_ : o.isWalk = false) : KpV n₀ Bv W (W.putObj l o') :=
  ⟨belowK_b hn W l o o' hl h hc ‹_›, fun v hv => blk_own hv (grownBy_putObj' W l o') (fun r e => by cases e; exact ⟨o, h, hc⟩)⟩
theorem infoInt : (Try.prog.info? 3).map (fun i => (i.zero, i.size, i.bytes)) = some (some (.int .i64 0), 1, 8) := by kernel_rfl
/-- What a loop over all holds between two rounds. -/
def LiveI (w : World) (pre : List (Nat × (Int × Int))) (W : World) : Prop :=
  (∃ v, Boxed W w.heap.size 33 v ∧ W.ownsRow w.heap.size 3 1 v (liveP pre).length ((liveP pre).map kI) ∧ (v = .slice none 0 0 ↔ liveP pre = [])) ∧ Below w.heap.size w W
def LiveX (g : Nat) (w : World) (x : Nat × (Int × Int)) (a' : Act) (W : World) : Prop :=
  ∃ Bx : Nat, W.heap[Bx]? = some (.cells #[.int .i64 x.2.1, .int .i64 x.2.2] 24 (0, 0)) ∧ a' = { tmps := #[.pointer (some ⟨g, 0, none⟩), undef, .slice none 0 0, .pointer (some ⟨w.heap.size, 0, none⟩), .int .i64 (x.1 : Int), .pointer (some ⟨Bx, 0, none⟩), .pointer (some ⟨g, 0, none⟩), .func (.func 63) #[] #[.pointer (some ⟨w.heap.size + 1, 0, none⟩)], .int .i64 (x.1 : Int), .agg #[.int .i64 x.2.1, .int .i64 x.2.2], undef, undef, undef, undef, undef, undef, undef, undef], defers := [] }
set_option maxRecDepth 100000 in
set_option maxHeartbeats 4000000 in
theorem Live_in (F : Fence) (n : Nat) (h35 : F.fn 35) (h53 : F.fn 53) (h63 : F.fn 63) (hro : F.round = none) (hn : 6 ≤ n) {me : Int} {g b : Nat} {xs : List (Int × Int)} (hl : xs.length < 1000) (w : World) (hV : VW me g b xs w) :
    CallsIn F n Try.prog 35 #[.pointer (some ⟨g, 0, none⟩)] w fun e W' => ∃ v, e = .returned v ∧ W'.ownsRow w.heap.size 3 1 v (liveP (upto (allS xs) xs.length)).length ((liveP (upto (allS xs) xs.length)).map kI) ∧ Below w.heap.size w W' := by
  have h1 : 1 ≤ n := by omega
  refine callsIn_of_wp_marks Try.func35 rfl h35 ?_ hro
  simp only [Try.ntmps35, List.size_toArray, List.length_cons, List.length_nil, Nat.reduceAdd, Nat.reduceSub, Array.replicate_succ, Array.replicate_zero, List.push_toArray, List.append_toArray, List.nil_append, List.cons_append]
  have HV := Aside0.mk hV
  have HL := Aside0.mk hl
  clear hV hl
  gi_wp2_with (gi_at_call 53; refine (all_in F (n - 1) h53 hro _ _).mono ?_; rintro e w' ⟨rfl, rfl⟩)
  have hg : g < w.heap.size := (Array.getElem?_eq_some_iff.1 HV.out.v).1
  have hb : b < w.heap.size := HV.out.m.lt
  have bS := (Boxed.new w 33 (.slice none 0 0)).alloc (.cells #[.pointer (some ⟨g, 0, none⟩)] 34)
  have bA := Boxed.new (w.alloc (.cells #[.slice none 0 0] 33)) 34 (.pointer (some ⟨g, 0, none⟩))
  simp only [World.size_alloc] at bA
  have hB0 : Below w.heap.size w ((w.alloc (.cells #[.slice none 0 0] 33)).alloc (.cells #[.pointer (some ⟨g, 0, none⟩)] 34)) := ((Below.refl _ w).alloc (Nat.le_refl _) _).alloc (by simp) _
  have hsz : ((w.alloc (.cells #[.slice none 0 0] 33)).alloc (.cells #[.pointer (some ⟨g, 0, none⟩)] 34)).heap.size = w.heap.size + 2 := by simp
  obtain ⟨W0, hW0⟩ : ∃ W0, (w.alloc (.cells #[.slice none 0 0] 33)).alloc (.cells #[.pointer (some ⟨g, 0, none⟩)] 34) = W0 := ⟨_, rfl⟩
  rw [hW0] at bS bA hB0 hsz ⊢
  clear hW0
  refine wpIn_rangeFunc_ownH hro h1 (gf := 63) (lb := #[.pointer (some ⟨w.heap.size + 1, 0, none⟩)]) rfl h63 (enters_of Try.func63 (by kernel_rfl) rfl)
    (all_stops F (n - 1) h63 hro (by omega) (w.heap.size + 1) w.heap.size HL.out hg hb W0 (by omega) (by omega) bA (HV.out.keptN hg hb hB0)) kpV_t (kpV_b (by omega)) (Below.refl _ _) (fun _ => rfl)
    (LiveI w) (fun _ _ _ => False)
    (OwnFrom.and (Own.from (holdsRow_own w.heap.size w.heap.size 33 3 1 (fun pre => (liveP pre).length) (fun pre => (liveP pre).map kI) (fun pre v => (v = .slice none 0 0 ↔ liveP pre = []))) _) (ownFrom_below (Nat.le_refl _) (by omega)))
    (fun _ _ _ _ _ hs _ _ => hs)
    ⟨⟨_, bS, World.ownsRow_nil _ _ _ _, by simp [liveP]⟩, hB0⟩
    (LiveX g w)
    (fun x a' _ X Y row hs hg hr => by obtain ⟨Bx, h2, h3⟩ := hs; exact ⟨Bx, blk_own h2 hg (fun r e => (hr r e).2), h3⟩)
    ?assign ?body ?done ?stop
  case assign =>
    rintro l pre x W K ⟨⟨v, bS1, r1, n1⟩, hB1⟩ hK
    unfold encI
    gi_wp2
    exact hK _ _ ((KeepsOthers.alloc _ _).from _) ⟨(Below.refl _ W).alloc hB1.size _, fun v hv => hv.alloc _⟩ ⟨⟨v, bS1.alloc _, r1.alloc _, n1⟩, hB1.alloc hB1.size _⟩ ⟨W.heap.size, World.alloc_heap_new W _, rfl⟩
  case body =>
    rintro l pre x a' W hl ⟨r, hr⟩ ⟨⟨v, bS1, r1, n1⟩, hB1⟩ ⟨Bx, bX, rfl⟩ hlt
    have c0 := blk_cell bX 0
    cases h2 : (x.2.1 == 2)
    · have cS := bS1.cell
      obtain ⟨i0, hi, hz0, hz1, hz2⟩ := info_parts infoInt
      have hle : w.heap.size ≤ w.heap.size := Nat.le_refl _
      have hln := liveP_len pre
      have hxl := HL.out
      have HY := Aside0.mk (And.intro n1 hB1)
      have hsz1 := hB1.size
      have HB := Aside0.mk hsz1
      clear n1 hB1 hsz hr
      gi_wp2_with (gi_at_builtin; refine wpListIn_append_own _ rfl _ _ 33 rfl w.heap.size 3 i0 (.int .i64 0) 1 8 Try.underlying33 hi hz0 hz1 hz2 rfl (by decide) _ _ _ rfl (r1.alloc _) ⟨W.heap.size, 0, none⟩ 1 1 [kI x.1] rfl rfl (cell_one_new _ _ _) (by simp [Value.oneCell', kI]) (by unfold maxLen; omega) (by omega) (by have := HB.out; simp; omega) ?_; intro v' w1 hown' hgrow _; obtain ⟨g', cap', rfl⟩ := ownsRow_succ hown'; obtain ⟨hv1, hv2, hr2, hk2, hb2⟩ := bS1.appended (by decide) r1 HB.out hle hown' hgrow; have hc1 := hv1.cell; have hf1 := hv1.frozen)
      have hm : (liveP pre).map kI ++ [kI x.1] = (liveP (pre ++ [x])).map kI := by rw [liveP_yes pre x h2]; simp
      have hn' : (liveP pre).length + 1 = (liveP (pre ++ [x])).length := by rw [liveP_yes pre x h2]; simp
      refine ⟨hk2.from _, ⟨hb2, fun u hu => ?_⟩, ⟨_, hv2, by rw [← hm, ← hn']; exact hr2, by rw [liveP_yes pre x h2]; simp⟩, HY.out.2.trans hb2⟩
      exact ((hu.alloc _).kept hgrow (hu.not_row (by decide) r1)).other (by omega) _
    · have HK := Aside0.mk (And.intro bS1 (And.intro r1 (And.intro n1 hB1)))
      clear bS1 r1 n1 hB1 bX hr
      gi_wp2
      exact ⟨(KeepsOthers.refl _).from _, kpV_refl _ _ _, ⟨v, HK.out.1, by rw [liveP_no pre x h2]; exact HK.out.2.1, by rw [liveP_no pre x h2]; exact HK.out.2.2.1⟩, HK.out.2.2.2⟩
  case done =>
    rintro D ys W hD rfl ⟨⟨v, bS1, r1, n1⟩, hB1⟩ hK
    have cS := bS1.cell
    gi_wp2
    refine ⟨by simp, .inl ⟨_, _, rfl, run_takeDeferred hK, ?_⟩⟩
    exact ⟨_, results_tmp rfl _ _ _, _, rfl, ownsRow_putObj r1 _ hK rfl, hB1.trans (belowK_b (w := w) (Nat.le_refl _) W D _ _ (by omega) hK rfl rfl)⟩
  case stop =>
    rintro D c pre W _ _ h _
    exact h.elim
theorem Live_any {me : Int} {g b : Nat} {xs : List (Int × Int)} (hl : xs.length < 1000) (w : World) (hV : VW me g b xs w) :
    Calls Try.prog 35 #[.pointer (some ⟨g, 0, none⟩)] w fun e W' => ∃ v, e = .returned v ∧ W'.ownsRow w.heap.size 3 1 v (liveP (upto (allS xs) xs.length)).length ((liveP (upto (allS xs) xs.length)).map kI) ∧ Below w.heap.size w W' :=
  callsIn_wide.1 (Live_in Fence.wide 6 trivial trivial trivial rfl (Nat.le_refl _) hl w hV)
end Go.Proofs.Ytkdhccbgbkhnnaa.Memb
