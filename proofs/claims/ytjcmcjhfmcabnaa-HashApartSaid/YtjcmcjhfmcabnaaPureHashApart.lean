/- HashApart, plainly. -/
import Derived.Test.YtjcmcjhfmcabnaaKnownP
import Derived.Test.YtjcmcjhfmcabnaaAxo
import Derived.Test.YtjcmcjhfmcabnaaHashP
namespace Go.Proofs.Ytjcmcjhfmcabnaa.Pure
open Go.RowKit Go.Proofs.Ytjcmcjhfmcabnaa.Bits Go.Proofs.Ytjcmcjhfmcabnaa.Hash Go.Proofs.Ytjcmcjhfmcabnaa.A
set_option linter.unusedVariables false
set_option linter.unusedSimpArgs false
theorem aux2 (a b : Int) (f1 f2 f3 f4 : Option Int) (kn : Option Bool) (x y u v : Int) (h1 : f1 = some x) (h2 : f2 = some y) (h3 : f3 = some u) (h4 : f4 = some v) (hk : kn = some true) (e0 : a = b → x = y) (e1 : ¬ a = b → ¬ x = y) (e2 : ¬ a = b → ¬ u = v) :
   (if a = b then (f1.bind fun t119 => (f2.bind fun t120 => (if t119 = t120 then (kn.bind fun t121 => (some t121)) else (some false)))) else (f1.bind fun t122 => (f2.bind fun t123 => (if t122 = t123 then (some false) else (f3.bind fun t124 => (f4.bind fun t125 => (if t124 = t125 then (some false) else (kn.bind fun t126 => (some t126))))))))) = some true := by
  subst h1; subst h2; subst h3; subst h4; subst hk
  by_cases h : a = b
  · have e0 := e0 h
    simp only [Option.bind_some, if_true, h, e0]
  · simp only [Option.bind_some, if_true, h, e1 h, e2 h, ne_eq, not_false_eq_true, if_false]
theorem apart_f (a b s f : Int) (ha' : In64 a) (hb' : In64 b) (k : steelyardlaw09_known.f 17 = some true) : steelyardlaw09_HashApart.f 17 a b s f = some true := by
  unfold steelyardlaw09_HashApart.f
  exact aux2 a b _ _ _ _ _ (mixN a) (mixN b) (pairN s f a) (pairN s f b) (by unfold hash_Mix.f; rfl) (by unfold hash_Mix.f; rfl) (by unfold hash_Pair.f; rfl) (by unfold hash_Pair.f; rfl) k (fun h => congrArg mixN h) (fun h e => h (mixN_inj ha' hb' e)) (fun h e => h (pairN_inj ha' hb' e))
theorem HashApart : steelyardlaw09_HashApart.Pure := by
  intro a b s f ha hb hs hf
  exact ⟨17, apart_f a b s f ⟨(wf_u64.1 ha).1, by have := (wf_u64.1 ha).2; omega⟩ ⟨(wf_u64.1 hb).1, by have := (wf_u64.1 hb).2; omega⟩ known_yes⟩
end Go.Proofs.Ytjcmcjhfmcabnaa.Pure
