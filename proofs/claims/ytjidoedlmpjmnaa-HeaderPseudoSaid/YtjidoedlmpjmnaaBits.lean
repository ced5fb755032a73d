/- Bits: the machine's whole numbers of fixed widths, as remainders and as bit vectors. -/
import Derived.Laws.BitsLemmas
import Derived.RowKit
namespace Go.Proofs.Ytjidoedlmpjmnaa.Bits
open Go.RowKit

theorem wrap_u8 (n : Int) : IntKind.u8.wrap n = n % 256 := IntKind.wrap_u8 n
theorem wrap_u16 (n : Int) : IntKind.u16.wrap n = n % 65536 := by simp [IntKind.wrap, IntKind.bits, IntKind.signed]
theorem wrap_u32 (n : Int) : IntKind.u32.wrap n = n % 4294967296 := IntKind.wrap_u32 n
theorem wrap_u64 (n : Int) : IntKind.u64.wrap n = n % 18446744073709551616 := by simp [IntKind.wrap, IntKind.bits, IntKind.signed]
theorem wrap_uint (n : Int) : IntKind.u64.wrap n = n % 18446744073709551616 := wrap_u64 n
theorem wrap_i64 (n : Int) : IntKind.i64.wrap n = wrap64 n := by rw [IntKind.wrap_i64]; rfl
theorem wrap64_id {n : Int} (h0 : -9223372036854775808 ≤ n) (h1 : n ≤ 9223372036854775807) : wrap64 n = n := by unfold wrap64; omega
theorem wrap_u64_id {n : Int} (h0 : 0 ≤ n) (h1 : n < 18446744073709551616) : IntKind.u64.wrap n = n := by rw [wrap_u64]; omega
theorem wrap_u32_id {n : Int} (h0 : 0 ≤ n) (h1 : n < 4294967296) : IntKind.u32.wrap n = n := by rw [wrap_u32]; omega
theorem wrap_u16_id {n : Int} (h0 : 0 ≤ n) (h1 : n < 65536) : IntKind.u16.wrap n = n := by rw [wrap_u16]; omega
theorem wrap_u8_id {n : Int} (h0 : 0 ≤ n) (h1 : n < 256) : IntKind.u8.wrap n = n := by rw [wrap_u8]; omega

theorem wf_u8 {x : Int} : (Lit.int .u8 x).wf = true ↔ 0 ≤ x ∧ x ≤ 255 := by simp [Lit.wf, IntKind.min, IntKind.max, IntKind.signed, IntKind.bits]
theorem wf_u16 {x : Int} : (Lit.int .u16 x).wf = true ↔ 0 ≤ x ∧ x ≤ 65535 := by simp [Lit.wf, IntKind.min, IntKind.max, IntKind.signed, IntKind.bits]
theorem wf_u32 {x : Int} : (Lit.int .u32 x).wf = true ↔ 0 ≤ x ∧ x ≤ 4294967295 := by simp [Lit.wf, IntKind.min, IntKind.max, IntKind.signed, IntKind.bits]
theorem wf_u64 {x : Int} : (Lit.int .u64 x).wf = true ↔ 0 ≤ x ∧ x ≤ 18446744073709551615 := by simp [Lit.wf, IntKind.min, IntKind.max, IntKind.signed, IntKind.bits]
theorem wf_i64 {x : Int} : (Lit.int .i64 x).wf = true ↔ -9223372036854775808 ≤ x ∧ x ≤ 9223372036854775807 := by simp [Lit.wf, IntKind.min, IntKind.max, IntKind.signed, IntKind.bits]

/-! bit vectors -/
theorem ofInt_toNat {n : Nat} (a : BitVec n) : BitVec.ofInt n (a.toNat : Int) = a := by
  apply BitVec.eq_of_toNat_eq
  simp
/-- A kind without sign: what is wrapped is the remainder. -/
theorem wrap_nat (k : IntKind) (hk : k.signed = false) (m : Nat) (hm : m < 2 ^ k.bits) : k.wrap (m : Int) = m := by
  simp only [IntKind.wrap, hk, Bool.false_and, Bool.false_eq_true, if_false]
  have : ((m : Nat) : Int) < ((2 ^ k.bits : Nat) : Int) := by exact_mod_cast hm
  rw [Int.emod_eq_of_lt (by omega) (by simpa using this)]
section
variable {n : Nat} {k : IntKind} (hn : k.bits = n) (hk : k.signed = false) (a b : BitVec n)
include hn hk
theorem bits_xor : bits .xor k a.toNat b.toNat = ((a ^^^ b).toNat : Int) := by
  subst hn; simp only [bits, ofInt_toNat]; exact wrap_nat k hk _ (a ^^^ b).isLt
theorem bits_and : bits .and k a.toNat b.toNat = ((a &&& b).toNat : Int) := by
  subst hn; simp only [bits, ofInt_toNat]; exact wrap_nat k hk _ (a &&& b).isLt
theorem bits_or : bits .or k a.toNat b.toNat = ((a ||| b).toNat : Int) := by
  subst hn; simp only [bits, ofInt_toNat]; exact wrap_nat k hk _ (a ||| b).isLt
theorem bits_andNot : bits .andNot k a.toNat b.toNat = ((a &&& ~~~b).toNat : Int) := by
  subst hn; simp only [bits, ofInt_toNat]; exact wrap_nat k hk _ (a &&& ~~~b).isLt
end
/-- A number of n bits is a bit vector's. -/
theorem bv_of {n : Nat} {x : Int} (h0 : 0 ≤ x) (h1 : x < 2 ^ n) : ((BitVec.ofNat n x.toNat).toNat : Int) = x := by
  rw [BitVec.toNat_ofNat, Nat.mod_eq_of_lt]
  · omega
  · have : ((x.toNat : Nat) : Int) < ((2 ^ n : Nat) : Int) := by rw [Int.toNat_of_nonneg h0]; exact_mod_cast h1
    exact_mod_cast this
theorem xor_u8 {x y : Int} (hx0 : 0 ≤ x) (hx : x < 256) (hy0 : 0 ≤ y) (hy : y < 256) : bits .xor .u8 x y = ((BitVec.ofNat 8 x.toNat ^^^ BitVec.ofNat 8 y.toNat).toNat : Int) := by
  have h := bits_xor (n := 8) (k := .u8) rfl rfl (BitVec.ofNat 8 x.toNat) (BitVec.ofNat 8 y.toNat)
  rwa [bv_of hx0 (by omega), bv_of hy0 (by omega)] at h
/-- All ones but x. -/
theorem not_u16 {x : Int} (h0 : 0 ≤ x) (h1 : x ≤ 65535) : bits .xor .u16 65535 x = 65535 - x := by
  have h := bits_xor (n := 16) (k := .u16) rfl rfl (BitVec.allOnes 16) (BitVec.ofNat 16 x.toNat)
  have e1 : (((BitVec.allOnes 16).toNat : Nat) : Int) = 65535 := rfl
  have e2 : ((BitVec.ofNat 16 x.toNat).toNat : Int) = x := bv_of h0 (by omega)
  rw [e1, e2] at h
  rw [h, show (BitVec.allOnes 16 ^^^ BitVec.ofNat 16 x.toNat) = ~~~ (BitVec.ofNat 16 x.toNat) from BitVec.allOnes_xor, BitVec.toNat_not]
  omega
theorem and_mask_u64 (i : Nat) (hi : i ≤ 64) {x : Int} (h0 : 0 ≤ x) (h1 : x < 2 ^ 64) : bits .and .u64 x (2 ^ i - 1) = x % 2 ^ i :=
  bits_mask .u64 64 (by decide) (fun n a b => wrap_u64_id a (by omega)) i hi x h0 h1
theorem and_mask_u32 (i : Nat) (hi : i ≤ 32) {x : Int} (h0 : 0 ≤ x) (h1 : x < 2 ^ 32) : bits .and .u32 x (2 ^ i - 1) = x % 2 ^ i :=
  bits_mask .u32 32 (by decide) (fun n a b => wrap_u32_id a (by omega)) i hi x h0 h1
theorem or_join_u16 (i : Nat) {x y : Int} (hx0 : 0 ≤ x) (hx : x % 2 ^ i = 0) (hx1 : x < 65536) (hy0 : 0 ≤ y) (hy : y < 2 ^ i) (hy1 : y < 65536) : bits .or .u16 x y = x + y :=
  bits_join .u16 16 (by decide) (fun n a b => wrap_u16_id a (by omega)) i x y hx0 hx (by omega) hy0 hy (by omega)
theorem or_join_u64 (i : Nat) {x y : Int} (hx0 : 0 ≤ x) (hx : x % 2 ^ i = 0) (hx1 : x < 18446744073709551616) (hy0 : 0 ≤ y) (hy : y < 2 ^ i) (hy1 : y < 18446744073709551616) : bits .or .u64 x y = x + y :=
  bits_join .u64 64 (by decide) (fun n a b => wrap_u64_id a (by omega)) i x y hx0 hx (by omega) hy0 hy (by omega)
end Go.Proofs.Ytjidoedlmpjmnaa.Bits
