/- Who is there in a view that is not there. -/
import Derived.Test.YtkdhccbgbkhnnaaMemL2
namespace Go.Proofs.Ytkdhccbgbkhnnaa.Memb
open Go.RowKit Go.Shelf Go.Proofs.Ytkdhccbgbkhnnaa.MapI Go.Proofs.Ytkdhccbgbkhnnaa.Mem Go.Proofs.Ytkdhccbgbkhnnaa.Help Go.Proofs.YtkdhccbgbkhnnaaW.PrintWords Go.Proofs.YtkdhccbgbkhnnaaW.PrintLast Go.Proofs.YtkdhccbgbkhnnaaW.PrintMore
set_option linter.unusedVariables false
set_option linter.unusedSimpArgs false
attribute [local go_sem] Oper.semAt_some
set_option maxRecDepth 100000 in
set_option maxHeartbeats 2000000 in
theorem all1_nil (F : Fence) (n : Nat) (h63 : F.fn 63) (hro : F.round = none) (l Bv : Nat)
    (J Jx : List (Nat × (Int × Int)) → World → Prop) (W : World) (hc : Boxed W Bv 34 (.pointer none)) (h0 : J [] W) :
    CallsIn F n Try.prog 63 #[.func (.yield l) #[] #[], .pointer (some ⟨Bv, 0, none⟩)] W fun e W' => (∃ v, e = .returned v) ∧
      ((∃ ys, ys = [] ∧ J ys W') ∨ (∃ pre, False ∧ Jx pre W')) := by
  refine callsIn_of_wp Try.func63 rfl h63 ?_ hro
  simp only [Try.ntmps63, List.size_toArray, List.length_cons, List.length_nil, Nat.reduceAdd, Nat.reduceSub, Array.replicate_succ, Array.replicate_zero, List.push_toArray, List.append_toArray, List.nil_append, List.cons_append]
  have hcr := hc.cell
  have HJ := Aside0.mk h0
  gi_wp2
  gi_loopw [3] (fun i wr => i = .int .i64 0 ∧ wr = W) (fun i _ => 0)
  case atStart => exact ⟨rfl, rfl⟩
  case round =>
    obtain ⟨rfl, rfl⟩ := hrel
    gi_wp2
    refine ⟨fun _ h => (by cases h), ?_⟩
    gi_wp2
    go_end0
    exact ⟨⟨_, rfl⟩, .inl ⟨_, rfl, HJ.out⟩⟩
theorem all_stops_nil (F : Fence) (n : Nat) (h63 : F.fn 63) (hro : F.round = none) (Bv n₀ : Nat) (w : World) (hBv : Bv < w.heap.size)
    (hc : Boxed w Bv 34 (.pointer none)) :
    SeqStopsK F n Try.prog 63 #[.pointer (some ⟨Bv, 0, none⟩)] encI (KpV n₀ Bv) (fun ys => ys = []) (fun _ => False) 0 w := fun l J Jx W hW _ _ hY h0 =>
  all1_nil F n h63 hro l Bv J Jx W ((hW.block Bv hBv).trans hc) h0
def NilX (x : Nat × (Int × Int)) (a' : Act) (W : World) : Prop :=
  ∃ Bx : Nat, W.heap[Bx]? = some (.cells #[.int .i64 x.2.1, .int .i64 x.2.2] 24 (0, 0))
set_option maxRecDepth 100000 in
set_option maxHeartbeats 4000000 in
theorem Live_nil_in (F : Fence) (n : Nat) (h35 : F.fn 35) (h53 : F.fn 53) (h63 : F.fn 63) (hro : F.round = none) (hn : 6 ≤ n) (w : World) :
    CallsIn F n Try.prog 35 #[.pointer none] w fun e W' => e = .returned (.slice none 0 0) ∧ Below w.heap.size w W' := by
  have h1 : 1 ≤ n := by omega
  refine callsIn_of_wp_marks Try.func35 rfl h35 ?_ hro
  simp only [Try.ntmps35, List.size_toArray, List.length_cons, List.length_nil, Nat.reduceAdd, Nat.reduceSub, Array.replicate_succ, Array.replicate_zero, List.push_toArray, List.append_toArray, List.nil_append, List.cons_append]
  gi_wp2_with (gi_at_call 53; refine (all_in F (n - 1) h53 hro _ _).mono ?_; rintro e w' ⟨rfl, rfl⟩)
  have bS := (Boxed.new w 33 (.slice none 0 0)).alloc (.cells #[.pointer none] 34)
  have bA := Boxed.new (w.alloc (.cells #[.slice none 0 0] 33)) 34 (.pointer none)
  simp only [World.size_alloc] at bA
  have hB0 : Below w.heap.size w ((w.alloc (.cells #[.slice none 0 0] 33)).alloc (.cells #[.pointer none] 34)) := ((Below.refl _ w).alloc (Nat.le_refl _) _).alloc (by simp) _
  have hsz : ((w.alloc (.cells #[.slice none 0 0] 33)).alloc (.cells #[.pointer none] 34)).heap.size = w.heap.size + 2 := by simp
  obtain ⟨W0, hW0⟩ : ∃ W0, (w.alloc (.cells #[.slice none 0 0] 33)).alloc (.cells #[.pointer none] 34) = W0 := ⟨_, rfl⟩
  rw [hW0] at bS bA hB0 hsz ⊢
  clear hW0
  refine wpIn_rangeFunc_ownH hro h1 (gf := 63) (lb := #[.pointer (some ⟨w.heap.size + 1, 0, none⟩)]) rfl h63 (enters_of Try.func63 (by kernel_rfl) rfl)
    (all_stops_nil F (n - 1) h63 hro (w.heap.size + 1) w.heap.size W0 (by omega) bA) kpV_t (kpV_b (by omega)) (Below.refl _ _) (fun _ => rfl)
    (LiveI w) (fun _ _ _ => False)
    (OwnFrom.and (Own.from (holdsRow_own w.heap.size w.heap.size 33 3 1 (fun pre => (liveP pre).length) (fun pre => (liveP pre).map kI) (fun pre v => (v = .slice none 0 0 ↔ liveP pre = []))) _) (ownFrom_below (Nat.le_refl _) (by omega)))
    (fun _ _ _ _ _ hs _ _ => hs)
    ⟨⟨_, bS, World.ownsRow_nil _ _ _ _, by simp [liveP]⟩, hB0⟩
    NilX
    (fun x a' _ X Y row hs hg hr => by obtain ⟨Bx, h2⟩ := hs; exact ⟨Bx, blk_own h2 hg (fun r e => (hr r e).2)⟩)
    ?assign ?body ?done ?stop
  case assign =>
    rintro l pre x W K ⟨⟨v, bS1, r1, n1⟩, hB1⟩ hK
    unfold encI
    gi_wp2
    exact hK _ _ ((KeepsOthers.alloc _ _).from _) ⟨(Below.refl _ W).alloc hB1.size _, fun v hv => hv.alloc _⟩ ⟨⟨v, bS1.alloc _, r1.alloc _, n1⟩, hB1.alloc hB1.size _⟩ ⟨W.heap.size, World.alloc_heap_new W _⟩
  case body =>
    rintro l pre x a' W hl ⟨r, hr⟩ ⟨⟨v, bS1, r1, n1⟩, hB1⟩ ⟨Bx, bX⟩ hlt
    exact absurd hlt (Nat.not_lt_zero _)
  case done =>
    rintro D ys W hD rfl ⟨⟨v, bS1, r1, n1⟩, hB1⟩ hK
    obtain rfl := n1.2 rfl
    have cS := bS1.cell
    gi_wp2
    refine ⟨by simp, .inl ⟨_, _, rfl, run_takeDeferred hK, ?_⟩⟩
    exact ⟨_, results_tmp rfl _ _ _, rfl, hB1.trans (belowK_b (w := w) (Nat.le_refl _) W D _ _ (by omega) hK rfl rfl)⟩
  case stop =>
    rintro D c pre W _ _ h _
    exact h.elim
theorem Live_nil (w : World) :
    Calls Try.prog 35 #[.pointer none] w fun e W' => e = .returned (.slice none 0 0) ∧ Below w.heap.size w W' :=
  callsIn_wide.1 (Live_nil_in Fence.wide 6 trivial trivial trivial rfl (Nat.le_refl _) w)
end Go.Proofs.Ytkdhccbgbkhnnaa.Memb
