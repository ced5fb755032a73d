-- laid by xprint (this session's program over the kit's print, patched); Lean checks it
import Derived.Test.YtfnpjfcfgilchaaRows
import Derived.Test.YtfnpjfcfgilchaaLawsXAddrTuples
import Derived.Test.YtfnpjfcfgilchaaAxo
import Derived.Test.YtfnpjfcfgilchaaPureAddrTuples
import Derived.WalkKit
import Derived.ProofKit
import Derived.OpenShut
import Derived.ShutString
import Derived.ChangeOld
import Derived.Below
import Derived.SizedLaws
import Derived.JoinedCond
import Derived.Deep.CondSized
namespace Go.Proofs.Ytfnpjfcfgilchaa.addrTuples
open Go.ChangeShapes Go.WideShapes Go.ChangeAt Go.RowKit Go.Proofs.Ytfnpjfcfgilchaa.A Go.Proofs.YtfnpjfcfgilchaaW.PrintWords Go.Proofs.YtfnpjfcfgilchaaW.PrintLast
set_option linter.unusedVariables false
set_option linter.unusedSimpArgs false
theorem own : ownKnob Try.prog.godebug = none := by kernel_rfl
theorem laidOut : laidOutB Try.prog = true := by kernel_rfl
theorem contract (H : Type) (enc : TypeId × Value → H) (W : World) (base : Nat) (args : Array Value) (ds gs : List (DataW H)) (before : List MemPlace)
    (hval0 : ∀ (j : Nat) t v, Try.f7.params[j]? = some t → args[j]? = some v → Value.okWide Try.prog W .any base t v)
    (hW : DataW.Whole enc Try.prog Try.f7.params.toList Rows.addrTuplesSpec.vars false W args.toList ds gs before)
    (hsz0 : (DataW.weightsEach Try.prog (Try.f7.params.toList ++ Rows.addrTuplesSpec.plain.varTypes Try.prog) (ds ++ gs)).all (· ≤ reachBytes) = true) :
    Calls Try.prog 7 args W fun e W' => ∃ v, e = .returned v ∧ Rows.addrTuplesSpec.post enc Try.prog Try.f7 false true false false W args v W' := by
  have hsz := hsz0
  have hval := hval0
  have hW' := hW
  obtain ⟨p, q, hA0, hV, rfl, hfz, hnd⟩ := hW
  have hA : DataW.TrodAll enc Try.prog W 0 (fun _ => true) true Try.f7.params.toList args.toList ds p := hA0
  rw [Try.params7] at hA hval hsz
  obtain ⟨v0, vs0, d0, ds0, p0, q0, hargs, rfl, rfl, h0, r0⟩ := trodAll_cons hA
  obtain ⟨v1, vs1, d1, ds1, p1, q1, rfl, rfl, rfl, h1, r1⟩ := trodAll_cons r0
  obtain ⟨v2, vs2, d2, ds2, p2, q2, rfl, rfl, rfl, h2, r2⟩ := trodAll_cons r1
  obtain ⟨rfl, rfl, rfl⟩ := trodAll_nil r2
  obtain rfl : args = #[v0, v1, v2] := by cases args; simp_all
  obtain ⟨rfl, rfl⟩ := trodVars_none hV
  have k0_ := h0
  have lt0 : ∀ x ∈ p0, x.block < W.heap.size := by obtain ⟨m, hm⟩ := k0_; exact DataW.trod_lt m _ _ _ hm
  obtain ⟨cs0, rfl, hsz0⟩ := okWide_struct Try.underlying44 (hval 0 44 v0 rfl rfl)
  obtain ⟨fu0, hf0⟩ := h0
  obtain ⟨x0, hK0, w0, b0⟩ := op44 fu0 _ _ hf0 (Open.each_get hsz (j := 0) (t := 44) rfl rfl)
  obtain hcs0 := k44_open hK0
  obtain rfl := Array.toList_inj.1 (show cs0.toList = (#[.bool x0.f0.f0, .int .u8 x0.f0.f1.f0, .int .u8 x0.f0.f1.f1, .int .u8 x0.f0.f1.f2, .int .u8 x0.f0.f1.f3, .int .u8 x0.f0.f1.f4, .int .u8 x0.f0.f1.f5, .int .u8 x0.f0.f1.f6, .int .u8 x0.f0.f1.f7, .int .u8 x0.f0.f1.f8, .int .u8 x0.f0.f1.f9, .int .u8 x0.f0.f1.f10, .int .u8 x0.f0.f1.f11, .int .u8 x0.f0.f1.f12, .int .u8 x0.f0.f1.f13, .int .u8 x0.f0.f1.f14, .int .u8 x0.f0.f1.f15, .bool x0.f1.f0, .int .u8 x0.f1.f1.f0, .int .u8 x0.f1.f1.f1, .int .u8 x0.f1.f1.f2, .int .u8 x0.f1.f1.f3, .int .u8 x0.f1.f1.f4, .int .u8 x0.f1.f1.f5, .int .u8 x0.f1.f1.f6, .int .u8 x0.f1.f1.f7, .int .u8 x0.f1.f1.f8, .int .u8 x0.f1.f1.f9, .int .u8 x0.f1.f1.f10, .int .u8 x0.f1.f1.f11, .int .u8 x0.f1.f1.f12, .int .u8 x0.f1.f1.f13, .int .u8 x0.f1.f1.f14, .int .u8 x0.f1.f1.f15, .int .i64 x0.f2, .int .i64 x0.f3, .int .i64 x0.f4] : Array Value).toList from hcs0)
  have k1_ := h1
  have lt1 : ∀ x ∈ p1, x.block < W.heap.size := by obtain ⟨m, hm⟩ := k1_; exact DataW.trod_lt m _ _ _ hm
  obtain ⟨cs1, rfl, hsz1⟩ := okWide_struct Try.underlying44 (hval 1 44 v1 rfl rfl)
  obtain ⟨fu1, hf1⟩ := h1
  obtain ⟨x1, hK1, w1, b1⟩ := op44 fu1 _ _ hf1 (Open.each_get hsz (j := 1) (t := 44) rfl rfl)
  obtain hcs1 := k44_open hK1
  obtain rfl := Array.toList_inj.1 (show cs1.toList = (#[.bool x1.f0.f0, .int .u8 x1.f0.f1.f0, .int .u8 x1.f0.f1.f1, .int .u8 x1.f0.f1.f2, .int .u8 x1.f0.f1.f3, .int .u8 x1.f0.f1.f4, .int .u8 x1.f0.f1.f5, .int .u8 x1.f0.f1.f6, .int .u8 x1.f0.f1.f7, .int .u8 x1.f0.f1.f8, .int .u8 x1.f0.f1.f9, .int .u8 x1.f0.f1.f10, .int .u8 x1.f0.f1.f11, .int .u8 x1.f0.f1.f12, .int .u8 x1.f0.f1.f13, .int .u8 x1.f0.f1.f14, .int .u8 x1.f0.f1.f15, .bool x1.f1.f0, .int .u8 x1.f1.f1.f0, .int .u8 x1.f1.f1.f1, .int .u8 x1.f1.f1.f2, .int .u8 x1.f1.f1.f3, .int .u8 x1.f1.f1.f4, .int .u8 x1.f1.f1.f5, .int .u8 x1.f1.f1.f6, .int .u8 x1.f1.f1.f7, .int .u8 x1.f1.f1.f8, .int .u8 x1.f1.f1.f9, .int .u8 x1.f1.f1.f10, .int .u8 x1.f1.f1.f11, .int .u8 x1.f1.f1.f12, .int .u8 x1.f1.f1.f13, .int .u8 x1.f1.f1.f14, .int .u8 x1.f1.f1.f15, .int .i64 x1.f2, .int .i64 x1.f3, .int .i64 x1.f4] : Array Value).toList from hcs1)
  have k2_ := h2
  have lt2 : ∀ x ∈ p2, x.block < W.heap.size := by obtain ⟨m, hm⟩ := k2_; exact DataW.trod_lt m _ _ _ hm
  obtain ⟨cs2, rfl, hsz2⟩ := okWide_struct Try.underlying44 (hval 2 44 v2 rfl rfl)
  obtain ⟨fu2, hf2⟩ := h2
  obtain ⟨x2, hK2, w2, b2⟩ := op44 fu2 _ _ hf2 (Open.each_get hsz (j := 2) (t := 44) rfl rfl)
  obtain hcs2 := k44_open hK2
  obtain rfl := Array.toList_inj.1 (show cs2.toList = (#[.bool x2.f0.f0, .int .u8 x2.f0.f1.f0, .int .u8 x2.f0.f1.f1, .int .u8 x2.f0.f1.f2, .int .u8 x2.f0.f1.f3, .int .u8 x2.f0.f1.f4, .int .u8 x2.f0.f1.f5, .int .u8 x2.f0.f1.f6, .int .u8 x2.f0.f1.f7, .int .u8 x2.f0.f1.f8, .int .u8 x2.f0.f1.f9, .int .u8 x2.f0.f1.f10, .int .u8 x2.f0.f1.f11, .int .u8 x2.f0.f1.f12, .int .u8 x2.f0.f1.f13, .int .u8 x2.f0.f1.f14, .int .u8 x2.f0.f1.f15, .bool x2.f1.f0, .int .u8 x2.f1.f1.f0, .int .u8 x2.f1.f1.f1, .int .u8 x2.f1.f1.f2, .int .u8 x2.f1.f1.f3, .int .u8 x2.f1.f1.f4, .int .u8 x2.f1.f1.f5, .int .u8 x2.f1.f1.f6, .int .u8 x2.f1.f1.f7, .int .u8 x2.f1.f1.f8, .int .u8 x2.f1.f1.f9, .int .u8 x2.f1.f1.f10, .int .u8 x2.f1.f1.f11, .int .u8 x2.f1.f1.f12, .int .u8 x2.f1.f1.f13, .int .u8 x2.f1.f1.f14, .int .u8 x2.f1.f1.f15, .int .i64 x2.f2, .int .i64 x2.f3, .int .i64 x2.f4] : Array Value).toList from hcs2)
  clear hA0 hval0 hsz0 hsz hval
  have hf := Pure.AddrTuples x0 x1 x2 w0 w1 w2
  refine (steelyardlaw03_AddrTuples.calls x0.f0.f0 x0.f0.f1.f0 x0.f0.f1.f1 x0.f0.f1.f2 x0.f0.f1.f3 x0.f0.f1.f4 x0.f0.f1.f5 x0.f0.f1.f6 x0.f0.f1.f7 x0.f0.f1.f8 x0.f0.f1.f9 x0.f0.f1.f10 x0.f0.f1.f11 x0.f0.f1.f12 x0.f0.f1.f13 x0.f0.f1.f14 x0.f0.f1.f15 x0.f1.f0 x0.f1.f1.f0 x0.f1.f1.f1 x0.f1.f1.f2 x0.f1.f1.f3 x0.f1.f1.f4 x0.f1.f1.f5 x0.f1.f1.f6 x0.f1.f1.f7 x0.f1.f1.f8 x0.f1.f1.f9 x0.f1.f1.f10 x0.f1.f1.f11 x0.f1.f1.f12 x0.f1.f1.f13 x0.f1.f1.f14 x0.f1.f1.f15 x0.f2 x0.f3 x0.f4 x1.f0.f0 x1.f0.f1.f0 x1.f0.f1.f1 x1.f0.f1.f2 x1.f0.f1.f3 x1.f0.f1.f4 x1.f0.f1.f5 x1.f0.f1.f6 x1.f0.f1.f7 x1.f0.f1.f8 x1.f0.f1.f9 x1.f0.f1.f10 x1.f0.f1.f11 x1.f0.f1.f12 x1.f0.f1.f13 x1.f0.f1.f14 x1.f0.f1.f15 x1.f1.f0 x1.f1.f1.f0 x1.f1.f1.f1 x1.f1.f1.f2 x1.f1.f1.f3 x1.f1.f1.f4 x1.f1.f1.f5 x1.f1.f1.f6 x1.f1.f1.f7 x1.f1.f1.f8 x1.f1.f1.f9 x1.f1.f1.f10 x1.f1.f1.f11 x1.f1.f1.f12 x1.f1.f1.f13 x1.f1.f1.f14 x1.f1.f1.f15 x1.f2 x1.f3 x1.f4 x2.f0.f0 x2.f0.f1.f0 x2.f0.f1.f1 x2.f0.f1.f2 x2.f0.f1.f3 x2.f0.f1.f4 x2.f0.f1.f5 x2.f0.f1.f6 x2.f0.f1.f7 x2.f0.f1.f8 x2.f0.f1.f9 x2.f0.f1.f10 x2.f0.f1.f11 x2.f0.f1.f12 x2.f0.f1.f13 x2.f0.f1.f14 x2.f0.f1.f15 x2.f1.f0 x2.f1.f1.f0 x2.f1.f1.f1 x2.f1.f1.f2 x2.f1.f1.f3 x2.f1.f1.f4 x2.f1.f1.f5 x2.f1.f1.f6 x2.f1.f1.f7 x2.f1.f1.f8 x2.f1.f1.f9 x2.f1.f1.f10 x2.f1.f1.f11 x2.f1.f1.f12 x2.f1.f1.f13 x2.f1.f1.f14 x2.f1.f1.f15 x2.f2 x2.f3 x2.f4 true W  hf).mono fun e W' ⟨he, bel0⟩ => ?_
  have bel : Below W.heap.size W W' := bel0
  subst he
  exact ⟨_, rfl, _, _, _, [], _, [], hW', trodAll_mk1 (shut_bool Try.underlying4 _), (trodAll_cons_mk (Below.trod laidOut (by kernel_rfl) (of_decide_eq_true (by kernel_rfl)) k0_ bel lt0) (trodAll_cons_mk (Below.trod laidOut (by kernel_rfl) (of_decide_eq_true (by kernel_rfl)) k1_ bel lt1) (trodAll_cons_mk (Below.trod laidOut (by kernel_rfl) (of_decide_eq_true (by kernel_rfl)) k2_ bel lt2) trodAll_mk0))), rfl, bel.frame _, fun h => by cases h⟩
set_option maxRecDepth 100000 in
theorem lifted (os : Os) (started : os.Started) (H : Type) (enc : TypeId × Value → H) :
    ReturnsInHanded {} Try.checked os 7 .any (Rows.addrTuplesSpec.pre6 enc Try.prog Try.f7 Rows.addrTuplesRow.domain false) (Rows.addrTuplesSpec.post enc Try.prog Try.f7 false true false false) := by
  refine returnsInHanded_of_change_sized (C := Try.checked) own started (by kernel_rfl) Try.func7
    (ChangeSpec.witness6 (enc := enc) (C := Try.checked) false ⟨#[], #[.agg #[.bool false, .int .u8 0, .int .u8 0, .int .u8 0, .int .u8 0, .int .u8 0, .int .u8 0, .int .u8 0, .int .u8 0, .int .u8 0, .int .u8 0, .int .u8 0, .int .u8 0, .int .u8 0, .int .u8 0, .int .u8 0, .int .u8 0, .bool false, .int .u8 0, .int .u8 0, .int .u8 0, .int .u8 0, .int .u8 0, .int .u8 0, .int .u8 0, .int .u8 0, .int .u8 0, .int .u8 0, .int .u8 0, .int .u8 0, .int .u8 0, .int .u8 0, .int .u8 0, .int .u8 0, .int .i64 0, .int .i64 0, .int .i64 0], .agg #[.bool false, .int .u8 0, .int .u8 0, .int .u8 0, .int .u8 0, .int .u8 0, .int .u8 0, .int .u8 0, .int .u8 0, .int .u8 0, .int .u8 0, .int .u8 0, .int .u8 0, .int .u8 0, .int .u8 0, .int .u8 0, .int .u8 0, .bool false, .int .u8 0, .int .u8 0, .int .u8 0, .int .u8 0, .int .u8 0, .int .u8 0, .int .u8 0, .int .u8 0, .int .u8 0, .int .u8 0, .int .u8 0, .int .u8 0, .int .u8 0, .int .u8 0, .int .u8 0, .int .u8 0, .int .i64 0, .int .i64 0, .int .i64 0], .agg #[.bool false, .int .u8 0, .int .u8 0, .int .u8 0, .int .u8 0, .int .u8 0, .int .u8 0, .int .u8 0, .int .u8 0, .int .u8 0, .int .u8 0, .int .u8 0, .int .u8 0, .int .u8 0, .int .u8 0, .int .u8 0, .int .u8 0, .bool false, .int .u8 0, .int .u8 0, .int .u8 0, .int .u8 0, .int .u8 0, .int .u8 0, .int .u8 0, .int .u8 0, .int .u8 0, .int .u8 0, .int .u8 0, .int .u8 0, .int .u8 0, .int .u8 0, .int .u8 0, .int .u8 0, .int .i64 0, .int .i64 0, .int .i64 0]], []⟩ 8 (by kernel_rfl) (by kernel_rfl) (by kernel_rfl) (by kernel_rfl)) ?_
  intro W base args ds gs before hval0 hW hcnd hsz0 _
  exact contract H enc W base args ds gs before hval0 hW hsz0
theorem proved : Rows.AddrTuplesSaid :=
  OpenClaim.holds_of_wide 7 Try.f7 rfl rfl rfl rfl rfl rfl rfl ⟨rfl, rfl, rfl, rfl, rfl⟩ rfl rfl rfl rfl rfl (by kernel_rfl) Try.func7 (by kernel_rfl)
    (of_decide_eq_true (by kernel_rfl)) (by unfold Func.isWrapper; first | (rw [if_pos (by decide +kernel)]; kernel_rfl) | (rw [if_neg (by decide +kernel)]; exact ⟨rfl, rfl⟩))
    (fun os started H enc _ => lifted os started H enc)
#print axioms proved
end Go.Proofs.Ytfnpjfcfgilchaa.addrTuples
namespace Go.Proofs.Ytfnpjfcfgilchaa
/-- The row, under a short name, for the claim. -/
theorem addrTuples_holds : Rows.AddrTuplesSaid := addrTuples.proved
end Go.Proofs.Ytfnpjfcfgilchaa
