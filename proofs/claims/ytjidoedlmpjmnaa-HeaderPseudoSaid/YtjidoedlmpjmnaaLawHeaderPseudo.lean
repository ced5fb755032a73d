-- laid by xprint (this session's program over the kit's print, patched); Lean checks it
import Derived.Test.YtjidoedlmpjmnaaRows
import Derived.Test.YtjidoedlmpjmnaaLawsXHeaderPseudo
import Derived.Test.YtjidoedlmpjmnaaAxo
import Derived.Test.YtjidoedlmpjmnaaPureHeaderPseudo
import Derived.WalkKit
import Derived.ProofKit
import Derived.OpenShut
import Derived.ShutString
import Derived.ChangeOld
import Derived.Below
import Derived.SizedLaws
import Derived.JoinedCond
import Derived.Deep.CondSized
namespace Go.Proofs.Ytjidoedlmpjmnaa.headerPseudo
open Go.ChangeShapes Go.WideShapes Go.ChangeAt Go.RowKit Go.Proofs.Ytjidoedlmpjmnaa.A Go.Proofs.YtjidoedlmpjmnaaW.PrintWords Go.Proofs.YtjidoedlmpjmnaaW.PrintLast
set_option linter.unusedVariables false
set_option linter.unusedSimpArgs false
theorem own : ownKnob Try.prog.godebug = none := by kernel_rfl
theorem laidOut : laidOutB Try.prog = true := by kernel_rfl
set_option maxRecDepth 100000 in
theorem contract (H : Type) (enc : TypeId × Value → H) (W : World) (base : Nat) (args : Array Value) (ds gs : List (DataW H)) (before : List MemPlace)
    (hval0 : ∀ (j : Nat) t v, Try.f6.params[j]? = some t → args[j]? = some v → Value.okWide Try.prog W .any base t v)
    (hW : DataW.Whole enc Try.prog Try.f6.params.toList Rows.headerPseudoSpec.vars false W args.toList ds gs before)
    (hsz0 : (DataW.weightsEach Try.prog (Try.f6.params.toList ++ Rows.headerPseudoSpec.plain.varTypes Try.prog) (ds ++ gs)).all (· ≤ reachBytes) = true) :
    Calls Try.prog 6 args W fun e W' => ∃ v, e = .returned v ∧ Rows.headerPseudoSpec.post enc Try.prog Try.f6 false true false false W args v W' := by
  have hsz := hsz0
  have hval := hval0
  have hW' := hW
  obtain ⟨p, q, hA0, hV, rfl, hfz, hnd⟩ := hW
  have hA : DataW.TrodAll enc Try.prog W 0 (fun _ => true) true Try.f6.params.toList args.toList ds p := hA0
  rw [Try.params6] at hA hval hsz
  obtain ⟨v0, vs0, d0, ds0, p0, q0, hargs, rfl, rfl, h0, r0⟩ := trodAll_cons hA
  obtain ⟨rfl, rfl, rfl⟩ := trodAll_nil r0
  obtain rfl : args = #[v0] := by cases args; simp_all
  obtain ⟨rfl, rfl⟩ := trodVars_none hV
  have k0_ := h0
  have lt0 : ∀ x ∈ p0, x.block < W.heap.size := by obtain ⟨m, hm⟩ := k0_; exact DataW.trod_lt m _ _ _ hm
  obtain ⟨cs0, rfl, hsz0⟩ := okWide_struct Try.underlying27 (hval 0 27 v0 rfl rfl)
  obtain ⟨fu0, hf0⟩ := h0
  obtain ⟨x0, hK0, w0, b0⟩ := op27 fu0 _ _ hf0 (Open.each_get hsz (j := 0) (t := 27) rfl rfl)
  obtain ⟨A0_41, c0_41, A0_42, c0_42, hcs0, hc0_41, hr0_41, hc0_42, hr0_42⟩ := k27_open hK0
  obtain rfl := Array.toList_inj.1 (show cs0.toList = (#[.bool x0.f0, .bool x0.f1.f0, .int .u8 x0.f1.f1.f0, .int .u8 x0.f1.f1.f1, .int .u8 x0.f1.f1.f2, .int .u8 x0.f1.f1.f3, .int .u8 x0.f1.f1.f4, .int .u8 x0.f1.f1.f5, .int .u8 x0.f1.f1.f6, .int .u8 x0.f1.f1.f7, .int .u8 x0.f1.f1.f8, .int .u8 x0.f1.f1.f9, .int .u8 x0.f1.f1.f10, .int .u8 x0.f1.f1.f11, .int .u8 x0.f1.f1.f12, .int .u8 x0.f1.f1.f13, .int .u8 x0.f1.f1.f14, .int .u8 x0.f1.f1.f15, .bool x0.f2.f0, .int .u8 x0.f2.f1.f0, .int .u8 x0.f2.f1.f1, .int .u8 x0.f2.f1.f2, .int .u8 x0.f2.f1.f3, .int .u8 x0.f2.f1.f4, .int .u8 x0.f2.f1.f5, .int .u8 x0.f2.f1.f6, .int .u8 x0.f2.f1.f7, .int .u8 x0.f2.f1.f8, .int .u8 x0.f2.f1.f9, .int .u8 x0.f2.f1.f10, .int .u8 x0.f2.f1.f11, .int .u8 x0.f2.f1.f12, .int .u8 x0.f2.f1.f13, .int .u8 x0.f2.f1.f14, .int .u8 x0.f2.f1.f15, .int .i64 x0.f3, .int .i64 x0.f4, .int .i64 x0.f5, .int .i64 x0.f6, .bool x0.f7, .int .i64 x0.f8, .slice A0_41 x0.f9.length c0_41, .slice A0_42 x0.f10.length c0_42] : Array Value).toList from hcs0)
  clear hA0 hval0 hsz0 hsz hval
  have hf := Pure.HeaderPseudo x0 w0
  refine (steelyardlaw04_HeaderPseudo.calls x0.f0 x0.f1.f0 x0.f1.f1.f0 x0.f1.f1.f1 x0.f1.f1.f2 x0.f1.f1.f3 x0.f1.f1.f4 x0.f1.f1.f5 x0.f1.f1.f6 x0.f1.f1.f7 x0.f1.f1.f8 x0.f1.f1.f9 x0.f1.f1.f10 x0.f1.f1.f11 x0.f1.f1.f12 x0.f1.f1.f13 x0.f1.f1.f14 x0.f1.f1.f15 x0.f2.f0 x0.f2.f1.f0 x0.f2.f1.f1 x0.f2.f1.f2 x0.f2.f1.f3 x0.f2.f1.f4 x0.f2.f1.f5 x0.f2.f1.f6 x0.f2.f1.f7 x0.f2.f1.f8 x0.f2.f1.f9 x0.f2.f1.f10 x0.f2.f1.f11 x0.f2.f1.f12 x0.f2.f1.f13 x0.f2.f1.f14 x0.f2.f1.f15 x0.f3 x0.f4 x0.f5 x0.f6 x0.f7 x0.f8 _ _ x0.f9 _ _ x0.f10 true W hr0_41 hc0_41 hr0_42 hc0_42 hf).mono fun e W' ⟨he, bel0⟩ => ?_
  have bel : Below W.heap.size W W' := bel0
  subst he
  exact ⟨_, rfl, _, _, _, [], _, [], hW', trodAll_mk1 (shut_bool Try.underlying4 _), (trodAll_cons_mk (Below.trod laidOut (by kernel_rfl) (of_decide_eq_true (by kernel_rfl)) k0_ bel lt0) trodAll_mk0), rfl, bel.frame _, fun h => by cases h⟩
set_option maxRecDepth 100000 in
theorem lifted (os : Os) (started : os.Started) (H : Type) (enc : TypeId × Value → H) :
    ReturnsInHanded {} Try.checked os 6 .any (Rows.headerPseudoSpec.pre6 enc Try.prog Try.f6 Rows.headerPseudoRow.domain false) (Rows.headerPseudoSpec.post enc Try.prog Try.f6 false true false false) := by
  refine returnsInHanded_of_change_sized (C := Try.checked) own started (by kernel_rfl) Try.func6
    (ChangeSpec.witness6 (enc := enc) (C := Try.checked) false ⟨#[], #[.agg #[.bool false, .bool false, .int .u8 0, .int .u8 0, .int .u8 0, .int .u8 0, .int .u8 0, .int .u8 0, .int .u8 0, .int .u8 0, .int .u8 0, .int .u8 0, .int .u8 0, .int .u8 0, .int .u8 0, .int .u8 0, .int .u8 0, .int .u8 0, .bool false, .int .u8 0, .int .u8 0, .int .u8 0, .int .u8 0, .int .u8 0, .int .u8 0, .int .u8 0, .int .u8 0, .int .u8 0, .int .u8 0, .int .u8 0, .int .u8 0, .int .u8 0, .int .u8 0, .int .u8 0, .int .u8 0, .int .i64 0, .int .i64 0, .int .i64 0, .int .i64 0, .bool false, .int .i64 0, .slice none 0 0, .slice none 0 0]], []⟩ 8 (by kernel_rfl) (by kernel_rfl) (by kernel_rfl) (by kernel_rfl)) ?_
  intro W base args ds gs before hval0 hW hcnd hsz0 _
  exact contract H enc W base args ds gs before hval0 hW hsz0
theorem proved : Rows.HeaderPseudoSaid :=
  OpenClaim.holds_of_wide 6 Try.f6 rfl rfl rfl rfl rfl rfl rfl ⟨rfl, rfl, rfl, rfl, rfl⟩ rfl rfl rfl rfl rfl (by kernel_rfl) Try.func6 (by kernel_rfl)
    (of_decide_eq_true (by kernel_rfl)) (by unfold Func.isWrapper; first | (rw [if_pos (by decide +kernel)]; kernel_rfl) | (rw [if_neg (by decide +kernel)]; exact ⟨rfl, rfl⟩))
    (fun os started H enc _ => lifted os started H enc)
#print axioms proved
end Go.Proofs.Ytjidoedlmpjmnaa.headerPseudo
namespace Go.Proofs.Ytjidoedlmpjmnaa
/-- The row, under a short name, for the claim. -/
theorem headerPseudo_holds : Rows.HeaderPseudoSaid := headerPseudo.proved
end Go.Proofs.Ytjidoedlmpjmnaa
