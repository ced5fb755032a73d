/- The fixed calls of layer 14. -/
import Derived.Test.YtkdhccbgbkhnnaaMemLi
import Derived.Test.YtkdhccbgbkhnnaaMemV
namespace Go.Proofs.Ytkdhccbgbkhnnaa.Memb
open Go.RowKit Go.Proofs.Ytkdhccbgbkhnnaa.MapI Go.Proofs.Ytkdhccbgbkhnnaa.Mem Go.Proofs.Ytkdhccbgbkhnnaa.Help Go.Proofs.YtkdhccbgbkhnnaaW.PrintWords Go.Proofs.YtkdhccbgbkhnnaaW.PrintLast Go.Proofs.YtkdhccbgbkhnnaaW.PrintMore
set_option linter.unusedVariables false
set_option linter.unusedSimpArgs false
theorem row_two {W : World} {base : Nat} {e : TypeId} {v : Value} {n : Nat} {xs : List Value} (h : W.ownsRow base e 1 v (n + 1) xs) : ∃ g c, v = .slice (some ⟨g, 0, none⟩) (n + 1) c := Go.ownsRow_succ h
theorem field0 (w : World) (a c : Int) : (Instr.field 24 (.agg #[.int .i64 a, .int .i64 c]) 0).run Try.prog w = .ok (.int .i64 a) w := by kernel_rfl
theorem field1 (w : World) (a c : Int) : (Instr.field 24 (.agg #[.int .i64 a, .int .i64 c]) 1).run Try.prog w = .ok (.int .i64 c) w := by kernel_rfl
set_option maxRecDepth 20000 in
theorem known_any (w : World) : Calls Try.prog 14 #[] w fun e w' => e = .returned (.bool true) ∧ Below w.heap.size w w' := by
  have HN := Aside0.mk (New_yes 0 3 w (by decide))
  have HH := Aside0.mk (fun (g b : Nat) (xs : List (Int × Int)) (k : Int) (x : Int × Int) (W : World) (h1 : VW (0 : Nat) g b xs W) (h2 : 0 < xs.length) (h3 : xs.length < 1000) (h4 : (Lit.int .i64 k).wf = true) => Hear_any (me := 0) k x W h1 h2 h3 h4)
  have HG := Aside0.mk (fun (me : Int) (g b : Nat) (xs : List (Int × Int)) (k : Int) (W : World) (h1 : VW me g b xs W) (h4 : (Lit.int .i64 k).wf = true) => Get_any k W h1 h4)
  have e1 : hearX 0 (List.replicate 3 (0, 0)) 0 (1, 0) = ((true, 0), [(0, 1), (0, 0), (0, 0)]) := by decide
  have e2 : hearX 0 [(0, 1), (0, 0), (0, 0)] 1 (2, 0) = ((true, 0), [(0, 1), (2, 0), (0, 0)]) := by decide
  have e3 : hearX 0 [(0, 1), (2, 0), (0, 0)] 1 (0, 1) = ((true, 0), [(0, 1), (0, 1), (0, 0)]) := by decide
  have e4 : (liveP (upto (allS [(0, 1), (2, 0), (0, 0)]) 3)).length = 1 + 1 := by decide
  have E := Aside0.mk (And.intro e1 (And.intro e2 (And.intro e3 e4)))
  clear e1 e2 e3 e4
  unfold infV HearPost at *
  have hf0 := field0
  have hf1 := field1
  go_enter Try.func14, Try.ntmps14
  go_wp2_with fail
  refine HN.out.mono ?_
  rintro e w1 ⟨g, b, hg, hb, rfl, hV, hB⟩
  have HF := Aside0.mk (And.intro hV hB)
  have HGB := Aside0.mk (And.intro hg hb)
  clear hV hB hg hb HN
  go_wp2_with fail
  refine (HH.out g b _ 0 (1, 0) _ HF.out.1 (by simp) (by simp) (by decide)).mono ?_
  rw [E.out.1]
  rintro e w2 ⟨rfl, hV, hg⟩
  replace HF := Aside0.mk (And.intro hV (HF.out.2.grown hg HF.out.2.size (fun k e => by cases e; exact HGB.out.2)))
  clear hV hg
  go_wp2_with fail
  refine (HH.out g b _ 1 (2, 0) _ HF.out.1 (by simp) (by simp) (by decide)).mono ?_
  rw [E.out.2.1]
  rintro e w3 ⟨rfl, hV, hg⟩
  replace HF := Aside0.mk (And.intro hV (HF.out.2.grown hg HF.out.2.size (fun k e => by cases e; exact HGB.out.2)))
  clear hV hg
  go_wp2_with fail
  refine (Live_any (by simp) _ HF.out.1).mono ?_
  rintro e w4 ⟨v, rfl, hr, hB⟩
  replace hr : w4.ownsRow w3.heap.size 3 1 v (1 + 1) _ := E.out.2.2.2 ▸ hr
  obtain ⟨gv, cv, rfl⟩ := row_two hr
  replace HF := Aside0.mk (And.intro (HF.out.1.kept hB) (below_step HF.out.2 hB))
  clear hr hB
  go_wp2_with fail
  refine (HH.out g b _ 1 (0, 1) _ HF.out.1 (by simp) (by simp) (by decide)).mono ?_
  rw [E.out.2.2.1]
  rintro e w5 ⟨rfl, hV, hg⟩
  replace HF := Aside0.mk (And.intro hV (HF.out.2.grown hg HF.out.2.size (fun k e => by cases e; exact HGB.out.2)))
  clear hV hg
  go_wp2_with fail
  refine (HG.out _ g b _ 0 _ HF.out.1 (by decide)).mono ?_
  rw [show getI [(0, 1), (0, 1), (0, 0)] 0 = (0, 1) from rfl]
  rintro e w6 ⟨rfl, hB⟩
  replace HF := Aside0.mk (And.intro (HF.out.1.kept hB) (below_step HF.out.2 hB))
  clear hB
  go_wp2_with fail
  refine (HG.out _ g b _ 0 _ HF.out.1 (by decide)).mono ?_
  rw [show getI [(0, 1), (0, 1), (0, 0)] 0 = (0, 1) from rfl]
  rintro e w7 ⟨rfl, hB⟩
  replace HF := Aside0.mk (And.intro (HF.out.1.kept hB) (below_step HF.out.2 hB))
  clear hB
  go_wp2_with fail
  refine (HG.out _ g b _ 1 _ HF.out.1 (by decide)).mono ?_
  rw [show getI [(0, 1), (0, 1), (0, 0)] 1 = (0, 1) from rfl]
  rintro e w8 ⟨rfl, hB⟩
  replace HF := Aside0.mk (And.intro (HF.out.1.kept hB) (below_step HF.out.2 hB))
  clear hB
  go_wp2_with fail
  go_ret
  exact ⟨rfl, HF.out.2⟩
end Go.Proofs.Ytkdhccbgbkhnnaa.Memb
