/- '==' of arrays, element by element, as one Bool. -/
import Derived.Test.YtjidoedlmpjmnaaWEqStruct
import Derived.ChangeKeysEq
namespace Go.Proofs.Ytjidoedlmpjmnaa.ArrEq
open Go.RowKit
section
variable {P : Program} {d c : Nat} {e : TypeId} {xs ys : Array Value} {i : Nat} {is : List Nat} {a b : Value} {r s : Bool} {w : World}
theorem eqi_cons (ha : (part e xs (i * c)).run P w = .ok a w) (hb : (part e ys (i * c)).run P w = .ok b w) (he : (Op.equalIn d e a b).run P w = .ok r w) (hr : (Op.eqItems d e c xs ys is).run P w = .ok s w) :
    (Op.eqItems d e c xs ys (i :: is)).run P w = .ok (r && s) w := by
  simp only [Op.eqItems, Sem.run_bind, ha, hb, he, Result.andThen_ok]
  cases r
  · simp
  · simpa using hr
theorem eqi_last (ha : (part e xs (i * c)).run P w = .ok a w) (hb : (part e ys (i * c)).run P w = .ok b w) (he : (Op.equalIn d e a b).run P w = .ok r w) :
    (Op.eqItems d e c xs ys [i]).run P w = .ok r w := by
  have h := eqi_cons ha hb he (is := []) (s := true) (by simp [Op.eqItems])
  rwa [Bool.and_true] at h
theorem eqArr_of {t : TypeId} {n : Nat} (is : List Nat) (hu : P.underlying t = some (.array n e)) (hi : (P.info? e).isSome = true) (hc : P.cellsOf e = c) (his : List.range n = is) (h : (Op.eqItems d e c xs ys is).run P w = .ok r w) :
    (Op.equalIn (d + 1) t (.agg xs) (.agg ys)).run P w = .ok r w := by
  obtain ⟨j, hj⟩ := Option.isSome_iff_exists.1 hi
  rw [run_equalIn_array w d xs ys hu hj, hc, his]
  exact h
end
end Go.Proofs.Ytjidoedlmpjmnaa.ArrEq
