/- Bits of bytes that are turned. -/
import Derived.Test.YtcgahbbdgcekeaaSumsP
import Derived.Test.YtcgahbbdgcekeaaEvP
namespace Go.Proofs.Ytcgahbbdgcekeaa.TurnP
open Go.RowKit Go.Proofs.Ytcgahbbdgcekeaa.Bits Go.Proofs.Ytcgahbbdgcekeaa.SumsP Go.Proofs.Ytcgahbbdgcekeaa.EvP Go.Proofs.YtcgahbbdgcekeaaW.PrintWords Go.Proofs.YtcgahbbdgcekeaaW.PrintLast Go.Proofs.YtcgahbbdgcekeaaW.PrintMore
set_option linter.unusedVariables false

/-- A number's bit. -/
def tb (n : Int) (i : Nat) : Bool := n.toNat.testBit i
/-- One bit of a byte turned. -/
def flip (x : Int) (t : Nat) : Int := ((x.toNat ^^^ 2 ^ t : Nat) : Int)
theorem flip_bd {x : Int} (h : 0 ≤ x ∧ x ≤ 255) {t : Nat} (ht : t < 8) : 0 ≤ flip x t ∧ flip x t ≤ 255 := by
  have h1 : x.toNat < 2 ^ 8 := by omega
  have h2 : 2 ^ t < 2 ^ 8 := Nat.pow_lt_pow_right (by decide) ht
  have := Nat.xor_lt_two_pow h1 h2
  unfold flip
  omega
theorem shl_one {t : Nat} (ht : t < 8) : shl .u8 1 (t : Int) = ((2 ^ t : Nat) : Int) := by
  unfold shl
  rw [show min (t : Int).toNat IntKind.u8.bits = t by simp [IntKind.bits]; omega]
  have h2 : 2 ^ t < 2 ^ 8 := Nat.pow_lt_pow_right (by decide) ht
  have e : (1 : Int) * 2 ^ t = ((2 ^ t : Nat) : Int) := by simp
  rw [e]
  generalize 2 ^ t = p at h2
  exact wrap_u8_id (by omega) (by omega)
theorem xor_flip {x : Int} (h : 0 ≤ x ∧ x ≤ 255) {t : Nat} (ht : t < 8) : Go.bits .xor .u8 x (shl .u8 1 (t : Int)) = flip x t := by
  have h2 : 2 ^ t < 2 ^ 8 := Nat.pow_lt_pow_right (by decide) ht
  rw [shl_one ht]
  have hb := bits_xor (n := 8) (k := .u8) rfl rfl (BitVec.ofNat 8 x.toNat) (BitVec.ofNat 8 (2 ^ t))
  rw [bv_of h.1 (by omega)] at hb
  rw [show (((BitVec.ofNat 8 (2 ^ t)).toNat : Nat) : Int) = ((2 ^ t : Nat) : Int) by rw [BitVec.toNat_ofNat, Nat.mod_eq_of_lt h2]] at hb
  rw [hb, BitVec.toNat_xor, BitVec.toNat_ofNat, BitVec.toNat_ofNat, Nat.mod_eq_of_lt (by omega), Nat.mod_eq_of_lt h2]
  rfl
theorem bv_bit {x : Int} (h : 0 ≤ x ∧ x ≤ 255) (i : Nat) : (bv x).getLsbD i = x.toNat.testBit i := by
  unfold bv
  rw [BitVec.getLsbD_ofNat]
  rcases Nat.lt_or_ge i 32 with hi | hi
  · simp [hi]
  · have : x.toNat < 2 ^ i := Nat.lt_of_lt_of_le (show x.toNat < 2 ^ 32 by omega) (Nat.pow_le_pow_right (by decide) hi)
    rw [Nat.testBit_lt_two_pow this]; simp
theorem flip_bit {x : Int} (h : 0 ≤ x ∧ x ≤ 255) {t : Nat} (ht : t < 8) (i : Nat) : (bv (flip x t)).getLsbD i = ((bv x).getLsbD i ^^ decide (i = t)) := by
  rw [bv_bit (flip_bd h ht), bv_bit h]
  unfold flip
  rw [Int.toNat_natCast, Nat.testBit_xor, Nat.testBit_two_pow]
  congr 1
  simp [eq_comm]
theorem flip_diff {x : Int} (h : 0 ≤ x ∧ x ≤ 255) {t : Nat} (ht : t < 8) : flip x t = x + 2 ^ t ∨ flip x t = x - 2 ^ t := by
  have key : ∀ a : Fin 256, ∀ b : Fin 8, (a.val ^^^ 2 ^ b.val) = a.val + 2 ^ b.val ∨ (a.val ^^^ 2 ^ b.val) + 2 ^ b.val = a.val := by decide +kernel
  have := key ⟨x.toNat, by omega⟩ ⟨t, ht⟩
  have e : ((2 ^ t : Nat) : Int) = 2 ^ t := by simp
  unfold flip
  simp only at this
  rcases this with h1 | h1
  · left; rw [← e]; omega
  · right; rw [← e]; omega
/-- Bytes, one bit of which is turned. -/
def turn (l : List Int) (j : Nat) : List Int := l.set (j / 8) (flip (l.getD (j / 8) 0) (j % 8))
theorem turn_length (l : List Int) (j : Nat) : (turn l j).length = l.length := by simp [turn]
theorem set_bytes {l : List Int} (h : Bytes l) {x : Int} (hx : 0 ≤ x ∧ x ≤ 255) (i : Nat) : Bytes (l.set i x) := fun y hy => by
  rcases List.mem_or_eq_of_mem_set hy with h1 | rfl
  · exact h y h1
  · exact hx
theorem turn_bytes {l : List Int} (h : Bytes l) (j : Nat) : Bytes (turn l j) := set_bytes h (flip_bd (h.get _) (Nat.mod_lt _ (by decide))) _
theorem turn_bit {l : List Int} (h : Bytes l) {j : Nat} (hj : j < 8 * l.length) (i : Nat) : bitOf (turn l j) i = (bitOf l i ^^ decide (i = j)) := by
  unfold bitOf turn
  rw [List.getD_eq_getElem?_getD, List.getElem?_set]
  by_cases c : j / 8 = i / 8
  · rw [if_pos c, if_pos (by omega)]
    simp only [Option.getD_some]
    rw [flip_bit (h.get _) (Nat.mod_lt _ (by decide)), c]
    congr 1
    exact decide_eq_decide.2 ⟨fun h => by omega, fun h => by omega⟩
  · rw [if_neg c, ← List.getD_eq_getElem?_getD, decide_eq_false (show ¬ i = j from fun h => c (by rw [h])), Bool.xor_false]
theorem two_pow_list {t : Nat} (ht : t < 8) : (2 : Int) ^ t = 1 ∨ (2 : Int) ^ t = 2 ∨ (2 : Int) ^ t = 4 ∨ (2 : Int) ^ t = 8 ∨ (2 : Int) ^ t = 16 ∨ (2 : Int) ^ t = 32 ∨ (2 : Int) ^ t = 64 ∨ (2 : Int) ^ t = 128 := by
  have : t = 0 ∨ t = 1 ∨ t = 2 ∨ t = 3 ∨ t = 4 ∨ t = 5 ∨ t = 6 ∨ t = 7 := by omega
  rcases this with rfl | rfl | rfl | rfl | rfl | rfl | rfl | rfl <;> decide
/-- One bit turned turns the words' sum, going round. -/
theorem turn_ws {l : List Int} (h : Bytes l) {j : Nat} (hj : j < 8 * l.length) (b : Bool) : ws b (turn l j) % 65535 ≠ ws b l % 65535 := by
  unfold turn
  rw [ws_set l b (j / 8) _ (by omega)]
  have hd := flip_diff (h.get (j / 8)) (t := j % 8) (Nat.mod_lt _ (by decide))
  have h2 := two_pow_list (t := j % 8) (Nat.mod_lt _ (by decide))
  generalize flip (l.getD (j / 8) 0) (j % 8) = y at hd
  generalize l.getD (j / 8) 0 = x at hd
  generalize ws b l = W
  generalize (2 : Int) ^ (j % 8) = p at hd h2
  have e : y - x = p ∨ y - x = -p := by omega
  generalize y - x = d at e
  by_cases c : (j / 8 % 2 = 0) = (b = true)
  · rw [if_pos c]; omega
  · rw [if_neg c]; omega
theorem turn_inet {l : List Int} (h : Bytes l) {j : Nat} (hj : j < 8 * l.length) : InetS (turn l j) ≠ InetS l := by
  intro he
  have h1 := (ws_bd _ (turn_bytes h j) true).1
  have h2 := (ws_bd l h true).1
  refine turn_ws h hj true (fs_eq_mod h1 h2 ?_)
  unfold InetS AddS at he
  rw [Int.zero_add, Int.zero_add] at he
  omega
theorem turn_add {s : Int} {l : List Int} (hs : 0 ≤ s) (h : Bytes l) {j : Nat} (hj : j < 8 * l.length) : AddS s (turn l j) ≠ AddS s l := by
  intro he
  have h1 := (ws_bd _ (turn_bytes h j) true).1
  have h2 := (ws_bd l h true).1
  have := fs_eq_mod (by omega) (by omega) he
  refine turn_ws h hj true ?_
  omega
theorem turn_crc {l : List Int} (h : Bytes l) {j : Nat} (hj : j < 8 * l.length) (s : BitVec 32) : MoreS s (turn l j) ≠ MoreS s l := by
  refine MoreS_burst s _ l (turn_bytes h j) h (turn_length l j) j (fun i hi => ?_) ⟨j, by rw [turn_length]; exact hj, ?_⟩
  · rw [turn_bit h hj, decide_eq_false (by omega), Bool.xor_false]
  · rw [turn_bit h hj]; cases bitOf l j <;> simp
/-- A number's bit, as the code asks for it. -/
theorem bit_asked {n : Int} (h0 : 0 ≤ n) (h1 : n ≤ 4294967295) (i : Nat) (hi : i < 32) : (Go.bits .and .u32 (shr .u32 n (IntKind.u64.wrap (i : Int))) 1 = 1) ↔ tb n i = true := by
  rw [wrap_u64_id (by omega) (by omega)]
  unfold shr
  rw [show min (i : Int).toNat IntKind.u32.bits = i by simp [IntKind.bits]; omega]
  have e : n / 2 ^ i = ((n.toNat / 2 ^ i : Nat) : Int) := by
    obtain ⟨m, rfl⟩ := Int.eq_ofNat_of_zero_le h0
    simp
  have hle : n.toNat / 2 ^ i ≤ n.toNat := Nat.div_le_self _ _
  unfold tb
  rw [e, Nat.testBit_eq_decide_div_mod_eq]
  generalize n.toNat / 2 ^ i = q at hle
  have := and_mask_u32 1 (by decide) (x := (q : Int)) (by omega) (by omega)
  rw [show ((2 : Int) ^ 1 - 1) = 1 from rfl, show ((2 : Int) ^ 1) = 2 from rfl] at this
  rw [this, decide_eq_true_iff]
  omega
end Go.Proofs.Ytcgahbbdgcekeaa.TurnP
