/- The numbers of layer 9, said plainly. -/
import Derived.Test.YtjcmcjhfmcabnaaBits
namespace Go.Proofs.Ytjcmcjhfmcabnaa.Hash
open Go.RowKit Go.Proofs.Ytjcmcjhfmcabnaa.Bits
set_option linter.unusedVariables false
set_option linter.unusedSimpArgs false
/-- A number, turned by k. -/
def rot (x k : Int) : Int := Go.bits .or .u64 (IntKind.u64.wrap (x * 2 ^ k.toNat)) (x / 2 ^ (64 - k).toNat)
def add64 (x y : Int) : Int := IntKind.u64.wrap (x + y)
def xor64 (x y : Int) : Int := Go.bits .xor .u64 x y
structure S4 where
  a : Int
  b : Int
  c : Int
  d : Int
def S4.vals (v : S4) : List Value := [.int .u64 v.a, .int .u64 v.b, .int .u64 v.c, .int .u64 v.d]
/-- One round. -/
def rnd (v : S4) : S4 :=
  let a1 := add64 v.a v.b
  let c1 := add64 v.c v.d
  let b1 := xor64 (rot v.b 13) a1
  let d1 := xor64 (rot v.d 16) c1
  let a2 := rot a1 32
  let c2 := add64 c1 b1
  let a3 := add64 a2 d1
  ⟨a3, xor64 (rot b1 17) c2, rot c2 32, xor64 (rot d1 21) a3⟩
def rnds : Nat → S4 → S4
  | 0, v => v
  | n + 1, v => rnds n (rnd v)
/-- A word goes in. -/
def inn (v : S4) (m : Int) : S4 :=
  let u := rnds 2 { v with d := xor64 v.d m }
  { u with a := xor64 u.a m }
theorem rot_lt (x k : Int) : 0 ≤ rot x k ∧ rot x k < 18446744073709551616 := by
  simp only [rot, Go.bits, wrap_u64]; omega
theorem add64_lt (x y : Int) : 0 ≤ add64 x y ∧ add64 x y < 18446744073709551616 := by simp only [add64, wrap_u64]; omega
theorem xor64_lt (x y : Int) : 0 ≤ xor64 x y ∧ xor64 x y < 18446744073709551616 := by simp only [xor64, Go.bits, wrap_u64]; omega
end Go.Proofs.Ytjcmcjhfmcabnaa.Hash
