/- Numbers mixed: no two come out the same. -/
import Derived.Test.YtjcmcjhfmcabnaaHashW7
namespace Go.Proofs.Ytjcmcjhfmcabnaa.Hash
open Go.RowKit Go.Proofs.Ytjcmcjhfmcabnaa.Bits
set_option linter.unusedVariables false
set_option linter.unusedSimpArgs false
def In64 (x : Int) : Prop := 0 ≤ x ∧ x < 18446744073709551616
def bv (x : Int) : BitVec 64 := BitVec.ofNat 64 x.toNat
theorem bv_eq {x : Int} (h : In64 x) : ((bv x).toNat : Int) = x := bv_of h.1 (by have := h.2; omega)
theorem bv_inj {x y : Int} (hx : In64 x) (hy : In64 y) (h : bv x = bv y) : x = y := by rw [← bv_eq hx, ← bv_eq hy, h]
theorem xor64_bv {x y : Int} (hx : In64 x) (hy : In64 y) : xor64 x y = ((bv x ^^^ bv y).toNat : Int) := by
  have h := bits_xor (n := 64) (k := .u64) rfl rfl (bv x) (bv y)
  rwa [bv_eq hx, bv_eq hy] at h
theorem toNat_inj64 {a b : BitVec 64} (h : (a.toNat : Int) = (b.toNat : Int)) : a = b := BitVec.eq_of_toNat_eq (by omega)
theorem xor64_inj {c x y : Int} (hc : In64 c) (hx : In64 x) (hy : In64 y) (h : xor64 c x = xor64 c y) : x = y := by
  rw [xor64_bv hc hx, xor64_bv hc hy] at h
  have h := toNat_inj64 h
  exact bv_inj hx hy ((BitVec.xor_right_inj _).1 h)
theorem xsh_bv {k : Nat} (hk : 0 < k) {x y : BitVec 64} (h : x ^^^ (x >>> k) = y ^^^ (y >>> k)) : x = y := by
  have hz : (x ^^^ y) = (x ^^^ y) >>> k := by
    rw [BitVec.ushiftRight_xor_distrib]
    have h2 : (x ^^^ (x >>> k)) ^^^ (y ^^^ (y >>> k)) = 0#64 := by rw [h, BitVec.xor_self]
    have h3 : (x ^^^ (x >>> k)) ^^^ (y ^^^ (y >>> k)) = (x ^^^ y) ^^^ (x >>> k ^^^ y >>> k) := by
      simp only [BitVec.xor_assoc]
      congr 1
      rw [← BitVec.xor_assoc, BitVec.xor_comm (x >>> k) y, BitVec.xor_assoc]
    rw [h3] at h2
    exact BitVec.xor_eq_zero_iff.1 h2
  have h0 : (x ^^^ y).toNat = 0 := by
    have h1 := congrArg BitVec.toNat hz
    rw [BitVec.toNat_ushiftRight, Nat.shiftRight_eq_div_pow] at h1
    rcases Nat.eq_zero_or_pos (x ^^^ y).toNat with h | h
    · exact h
    · have h2 : (x ^^^ y).toNat / 2 ^ k < (x ^^^ y).toNat := Nat.div_lt_self h (Nat.one_lt_two_pow (by omega))
      omega
  exact BitVec.xor_eq_zero_iff.1 (BitVec.eq_of_toNat_eq (by rw [h0]; rfl))
theorem shr_bv {x : Int} (hx : In64 x) (k : Nat) : bv (x / 2 ^ k) = bv x >>> k := by
  apply BitVec.eq_of_toNat_eq
  have h0 : (x / 2 ^ k).toNat = x.toNat / 2 ^ k := by
    obtain ⟨n, rfl⟩ := Int.eq_ofNat_of_zero_le hx.1
    rfl
  have h1 : x.toNat < 2 ^ 64 := by have := hx.1; have := hx.2; omega
  rw [BitVec.toNat_ushiftRight, Nat.shiftRight_eq_div_pow, bv, bv, BitVec.toNat_ofNat, BitVec.toNat_ofNat, h0, Nat.mod_eq_of_lt h1, Nat.mod_eq_of_lt (Nat.lt_of_le_of_lt (Nat.div_le_self _ _) h1)]
theorem in64_shr {x : Int} (hx : In64 x) (k : Nat) : In64 (x / 2 ^ k) := by
  obtain ⟨n, rfl⟩ := Int.eq_ofNat_of_zero_le hx.1
  have h : n / 2 ^ k ≤ n := Nat.div_le_self _ _
  have e : ((n : Int) / 2 ^ k) = ((n / 2 ^ k : Nat) : Int) := rfl
  rw [e]
  exact ⟨Int.natCast_nonneg _, Int.lt_of_le_of_lt (Int.ofNat_le.2 h) hx.2⟩
theorem xsh_inj {k : Nat} (hk : 0 < k) {x y : Int} (hx : In64 x) (hy : In64 y) (h : xor64 x (x / 2 ^ k) = xor64 y (y / 2 ^ k)) : x = y := by
  rw [xor64_bv hx (in64_shr hx k), xor64_bv hy (in64_shr hy k), shr_bv hx, shr_bv hy] at h
  exact bv_inj hx hy (xsh_bv hk (toNat_inj64 h))
theorem mul_inj {c d q : Int} (hq : c * d = 1 + 18446744073709551616 * q) {x y : Int} (hx : In64 x) (hy : In64 y) (h : IntKind.u64.wrap (x * c) = IntKind.u64.wrap (y * c)) : x = y := by
  rw [wrap_u64, wrap_u64] at h
  have key : ∀ z : Int, In64 z → (z * c % 18446744073709551616 * d) % 18446744073709551616 = z := by
    intro z hz
    rw [Int.mul_emod, Int.emod_emod_of_dvd _ (Int.dvd_refl _), ← Int.mul_emod, Int.mul_assoc, hq, Int.mul_add, Int.mul_one, Int.mul_left_comm, Int.add_mul_emod_self_left]
    exact Int.emod_eq_of_lt hz.1 hz.2
  rw [← key x hx, ← key y hy, h]
theorem mix1_in (n : Int) : In64 (mix1 n) := add64_lt _ _
theorem wrap_in (n : Int) : In64 (IntKind.u64.wrap n) := by rw [wrap_u64]; exact ⟨by omega, by omega⟩
theorem mix1_inj {x y : Int} (hx : In64 x) (hy : In64 y) (h : mix1 x = mix1 y) : x = y := by
  have := hx.1; have := hx.2; have := hy.1; have := hy.2
  simp only [mix1, add64, wrap_u64] at h
  omega
theorem mix2_inj {x y : Int} (hx : In64 x) (hy : In64 y) (h : mix2 x = mix2 y) : x = y :=
  xsh_inj (k := 30) (by decide) hx hy (mul_inj (c := 13787848793156543929) (d := 10871156337175269513) (q := 8125545580553827436) (by decide) (xor64_lt _ _) (xor64_lt _ _) h)
theorem mix3_inj {x y : Int} (hx : In64 x) (hy : In64 y) (h : mix3 x = mix3 y) : x = y :=
  xsh_inj (k := 27) (by decide) hx hy (mul_inj (c := 10723151780598845931) (d := 3573116690164977347) (q := 2077064247507883091) (by decide) (xor64_lt _ _) (xor64_lt _ _) h)
theorem mix4_inj {x y : Int} (hx : In64 x) (hy : In64 y) (h : mix4 x = mix4 y) : x = y := xsh_inj (k := 31) (by decide) hx hy h
theorem mixN_inj {x y : Int} (hx : In64 x) (hy : In64 y) (h : mixN x = mixN y) : x = y :=
  mix1_inj hx hy (mix2_inj (mix1_in _) (mix1_in _) (mix3_inj (wrap_in _) (wrap_in _) (mix4_inj (wrap_in _) (wrap_in _) h)))
theorem pairN_inj {s f x y : Int} (hx : In64 x) (hy : In64 y) (h : pairN s f x = pairN s f y) : x = y :=
  xor64_inj (xor64_lt _ _) hx hy (mixN_inj (xor64_lt _ _) (xor64_lt _ _) h)
end Go.Proofs.Ytjcmcjhfmcabnaa.Hash
