/- HashMix, plainly. -/
import Derived.Test.YtjcmcjhfmcabnaaKnownP
import Derived.Test.YtjcmcjhfmcabnaaAxo
import Derived.Test.YtjcmcjhfmcabnaaHashP
namespace Go.Proofs.Ytjcmcjhfmcabnaa.Pure
open Go.RowKit Go.Proofs.Ytjcmcjhfmcabnaa.Bits Go.Proofs.Ytjcmcjhfmcabnaa.Hash Go.Proofs.Ytjcmcjhfmcabnaa.A
set_option linter.unusedVariables false
set_option linter.unusedSimpArgs false
theorem aux (f1 f2 f3 f4 : Option Int) (kn : Option Bool) (x y : Int) (h1 : f1 = some x) (h2 : f2 = some x) (h3 : f3 = some y) (h4 : f4 = some y) (hk : kn = some true) :
   (f1.bind fun t114 => (f2.bind fun t115 => (if t114 = t115 then (f3.bind fun t116 => (f4.bind fun t117 => (if t116 = t117 then (kn.bind fun t118 => (some t118)) else (some false)))) else (some false)))) = some true := by
  subst h1; subst h2; subst h3; subst h4; subst hk
  simp only [Option.bind_some, if_true]
theorem mix_f (n s a b : Int) (k : steelyardlaw09_known.f 17 = some true) : steelyardlaw09_HashMix.f 17 n s a b = some true := by
  unfold steelyardlaw09_HashMix.f
  exact aux _ _ _ _ _ (mixN n) (pairN s a b) (by unfold hash_Mix.f; rfl) (by unfold steelyardref09_Mix.f; rfl) (by unfold hash_Pair.f; rfl) (by unfold steelyardref09_Pair.f; rfl) k
theorem HashMix : steelyardlaw09_HashMix.Pure := by
  intro n s a b hn hs ha hb
  exact ⟨17, mix_f n s a b known_yes⟩
end Go.Proofs.Ytjcmcjhfmcabnaa.Pure
