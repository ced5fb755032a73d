-- laid by xprint (this session's program over the kit's print, patched); Lean checks it
import Derived.Test.YtfnpjfcfgilchaaRows
import Derived.Test.YtfnpjfcfgilchaaLawsXAddrBytes
import Derived.Test.YtfnpjfcfgilchaaAxo
import Derived.Test.YtfnpjfcfgilchaaPureAddrBytes
import Derived.WalkKit
import Derived.ProofKit
import Derived.OpenShut
import Derived.ShutString
import Derived.ChangeOld
import Derived.Below
import Derived.SizedLaws
import Derived.JoinedCond
import Derived.Deep.CondSized
namespace Go.Proofs.Ytfnpjfcfgilchaa.addrBytes
open Go.ChangeShapes Go.WideShapes Go.ChangeAt Go.RowKit Go.Proofs.Ytfnpjfcfgilchaa.A Go.Proofs.YtfnpjfcfgilchaaW.PrintWords Go.Proofs.YtfnpjfcfgilchaaW.PrintLast
set_option linter.unusedVariables false
set_option linter.unusedSimpArgs false
theorem own : ownKnob Try.prog.godebug = none := by kernel_rfl
theorem laidOut : laidOutB Try.prog = true := by kernel_rfl
theorem contract (H : Type) (enc : TypeId × Value → H) (W : World) (base : Nat) (args : Array Value) (ds gs : List (DataW H)) (before : List MemPlace)
    (hval0 : ∀ (j : Nat) t v, Try.f8.params[j]? = some t → args[j]? = some v → Value.okWide Try.prog W .any base t v)
    (hW : DataW.Whole enc Try.prog Try.f8.params.toList Rows.addrBytesSpec.vars false W args.toList ds gs before)
    (hsz0 : (DataW.weightsEach Try.prog (Try.f8.params.toList ++ Rows.addrBytesSpec.plain.varTypes Try.prog) (ds ++ gs)).all (· ≤ reachBytes) = true) :
    Calls Try.prog 8 args W fun e W' => ∃ v, e = .returned v ∧ Rows.addrBytesSpec.post enc Try.prog Try.f8 false true false false W args v W' := by
  have hsz := hsz0
  have hval := hval0
  have hW' := hW
  obtain ⟨p, q, hA0, hV, rfl, hfz, hnd⟩ := hW
  have hA : DataW.TrodAll enc Try.prog W 0 (fun _ => true) true Try.f8.params.toList args.toList ds p := hA0
  rw [Try.params8] at hA hval hsz
  obtain ⟨v0, vs0, d0, ds0, p0, q0, hargs, rfl, rfl, h0, r0⟩ := trodAll_cons hA
  obtain ⟨v1, vs1, d1, ds1, p1, q1, rfl, rfl, rfl, h1, r1⟩ := trodAll_cons r0
  obtain ⟨rfl, rfl, rfl⟩ := trodAll_nil r1
  obtain rfl : args = #[v0, v1] := by cases args; simp_all
  obtain ⟨rfl, rfl⟩ := trodVars_none hV
  have k0_ := h0
  have lt0 : ∀ x ∈ p0, x.block < W.heap.size := by obtain ⟨m, hm⟩ := k0_; exact DataW.trod_lt m _ _ _ hm
  obtain ⟨cs0, rfl, hsz0⟩ := okWide_struct Try.underlying44 (hval 0 44 v0 rfl rfl)
  obtain ⟨fu0, hf0⟩ := h0
  obtain ⟨x0, hK0, w0, b0⟩ := op44 fu0 _ _ hf0 (Open.each_get hsz (j := 0) (t := 44) rfl rfl)
  obtain hcs0 := k44_open hK0
  obtain rfl := Array.toList_inj.1 (show cs0.toList = (#[.bool x0.f0.f0, .int .u8 x0.f0.f1.f0, .int .u8 x0.f0.f1.f1, .int .u8 x0.f0.f1.f2, .int .u8 x0.f0.f1.f3, .int .u8 x0.f0.f1.f4, .int .u8 x0.f0.f1.f5, .int .u8 x0.f0.f1.f6, .int .u8 x0.f0.f1.f7, .int .u8 x0.f0.f1.f8, .int .u8 x0.f0.f1.f9, .int .u8 x0.f0.f1.f10, .int .u8 x0.f0.f1.f11, .int .u8 x0.f0.f1.f12, .int .u8 x0.f0.f1.f13, .int .u8 x0.f0.f1.f14, .int .u8 x0.f0.f1.f15, .bool x0.f1.f0, .int .u8 x0.f1.f1.f0, .int .u8 x0.f1.f1.f1, .int .u8 x0.f1.f1.f2, .int .u8 x0.f1.f1.f3, .int .u8 x0.f1.f1.f4, .int .u8 x0.f1.f1.f5, .int .u8 x0.f1.f1.f6, .int .u8 x0.f1.f1.f7, .int .u8 x0.f1.f1.f8, .int .u8 x0.f1.f1.f9, .int .u8 x0.f1.f1.f10, .int .u8 x0.f1.f1.f11, .int .u8 x0.f1.f1.f12, .int .u8 x0.f1.f1.f13, .int .u8 x0.f1.f1.f14, .int .u8 x0.f1.f1.f15, .int .i64 x0.f2, .int .i64 x0.f3, .int .i64 x0.f4] : Array Value).toList from hcs0)
  have k1_ := h1
  have lt1 : ∀ x ∈ p1, x.block < W.heap.size := by obtain ⟨m, hm⟩ := k1_; exact DataW.trod_lt m _ _ _ hm
  obtain ⟨a1, len1, cap1, rfl⟩ := okWide_slice Try.underlying22 (hval 1 22 v1 rfl rfl)
  obtain ⟨fu1, hf1⟩ := h1
  obtain ⟨x1, ⟨A1, c1, hcs1, hc1, hr1⟩, w1, b1⟩ := Open.opens_slice (B := 1) 0 Try.underlying22 (by kernel_rfl) (by kernel_rfl) (Open.opens_int Try.underlying5) fu1 _ _ hf1 (Open.each_get hsz (j := 1) (t := 22) rfl rfl)
  simp [Value.cells] at hcs1
  obtain ⟨rfl, rfl, rfl⟩ := hcs1
  clear hA0 hval0 hsz0 hsz hval
  have hf := Pure.AddrBytes x0 x1 w0 w1
  refine (steelyardlaw03_AddrBytes.calls x0.f0.f0 x0.f0.f1.f0 x0.f0.f1.f1 x0.f0.f1.f2 x0.f0.f1.f3 x0.f0.f1.f4 x0.f0.f1.f5 x0.f0.f1.f6 x0.f0.f1.f7 x0.f0.f1.f8 x0.f0.f1.f9 x0.f0.f1.f10 x0.f0.f1.f11 x0.f0.f1.f12 x0.f0.f1.f13 x0.f0.f1.f14 x0.f0.f1.f15 x0.f1.f0 x0.f1.f1.f0 x0.f1.f1.f1 x0.f1.f1.f2 x0.f1.f1.f3 x0.f1.f1.f4 x0.f1.f1.f5 x0.f1.f1.f6 x0.f1.f1.f7 x0.f1.f1.f8 x0.f1.f1.f9 x0.f1.f1.f10 x0.f1.f1.f11 x0.f1.f1.f12 x0.f1.f1.f13 x0.f1.f1.f14 x0.f1.f1.f15 x0.f2 x0.f3 x0.f4 _ _ x1 true W hr1 hc1 hf).mono fun e W' ⟨he, bel0⟩ => ?_
  have bel : Below W.heap.size W W' := bel0
  subst he
  exact ⟨_, rfl, _, _, _, [], _, [], hW', trodAll_mk1 (shut_bool Try.underlying4 _), (trodAll_cons_mk (Below.trod laidOut (by kernel_rfl) (of_decide_eq_true (by kernel_rfl)) k0_ bel lt0) (trodAll_cons_mk (Below.trod laidOut (by kernel_rfl) (of_decide_eq_true (by kernel_rfl)) k1_ bel lt1) trodAll_mk0)), rfl, bel.frame _, fun h => by cases h⟩
set_option maxRecDepth 100000 in
theorem lifted (os : Os) (started : os.Started) (H : Type) (enc : TypeId × Value → H) :
    ReturnsInHanded {} Try.checked os 8 .any (Rows.addrBytesSpec.pre6 enc Try.prog Try.f8 Rows.addrBytesRow.domain false) (Rows.addrBytesSpec.post enc Try.prog Try.f8 false true false false) := by
  refine returnsInHanded_of_change_sized (C := Try.checked) own started (by kernel_rfl) Try.func8
    (ChangeSpec.witness6 (enc := enc) (C := Try.checked) false ⟨#[], #[.agg #[.bool false, .int .u8 0, .int .u8 0, .int .u8 0, .int .u8 0, .int .u8 0, .int .u8 0, .int .u8 0, .int .u8 0, .int .u8 0, .int .u8 0, .int .u8 0, .int .u8 0, .int .u8 0, .int .u8 0, .int .u8 0, .int .u8 0, .bool false, .int .u8 0, .int .u8 0, .int .u8 0, .int .u8 0, .int .u8 0, .int .u8 0, .int .u8 0, .int .u8 0, .int .u8 0, .int .u8 0, .int .u8 0, .int .u8 0, .int .u8 0, .int .u8 0, .int .u8 0, .int .u8 0, .int .i64 0, .int .i64 0, .int .i64 0], .slice none 0 0], []⟩ 8 (by kernel_rfl) (by kernel_rfl) (by kernel_rfl) (by kernel_rfl)) ?_
  intro W base args ds gs before hval0 hW hcnd hsz0 _
  exact contract H enc W base args ds gs before hval0 hW hsz0
theorem proved : Rows.AddrBytesSaid :=
  OpenClaim.holds_of_wide 8 Try.f8 rfl rfl rfl rfl rfl rfl rfl ⟨rfl, rfl, rfl, rfl, rfl⟩ rfl rfl rfl rfl rfl (by kernel_rfl) Try.func8 (by kernel_rfl)
    (of_decide_eq_true (by kernel_rfl)) (by unfold Func.isWrapper; first | (rw [if_pos (by decide +kernel)]; kernel_rfl) | (rw [if_neg (by decide +kernel)]; exact ⟨rfl, rfl⟩))
    (fun os started H enc _ => lifted os started H enc)
#print axioms proved
end Go.Proofs.Ytfnpjfcfgilchaa.addrBytes
namespace Go.Proofs.Ytfnpjfcfgilchaa
/-- The row, under a short name, for the claim. -/
theorem addrBytes_holds : Rows.AddrBytesSaid := addrBytes.proved
end Go.Proofs.Ytfnpjfcfgilchaa
