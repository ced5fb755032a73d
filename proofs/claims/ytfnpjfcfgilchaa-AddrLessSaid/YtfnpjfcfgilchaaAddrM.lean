/- The first bits of sixteen bytes, plain. -/
import Derived.Test.YtfnpjfcfgilchaaBits
import Derived.Test.YtfnpjfcfgilchaaProg
namespace Go.Proofs.Ytfnpjfcfgilchaa.AddrM
open Go.RowKit Go.Proofs.Ytfnpjfcfgilchaa.Bits
set_option linter.unusedVariables false
set_option linter.unusedSimpArgs false
def bitN (b : Int) (r : Nat) : Int := bits .and .u8 (b / 2 ^ (7 - r)) 1
/-- The first k bits of a byte. -/
def bm (b : Int) (k : Nat) : Int := b - b % 2 ^ (8 - k)
def AllB (bs : List Int) : Prop := ∀ x ∈ bs, 0 ≤ x ∧ x < 256
instance (bs : List Int) : Decidable (AllB bs) := by unfold AllB; infer_instance
def maskL (bs : List Int) (n : Nat) : List Int := (List.range 16).map fun j => bm (bs.getD j 0) (n - 8 * j)
theorem getD_b {bs : List Int} (h : AllB bs) (j : Nat) : 0 ≤ bs.getD j 0 ∧ bs.getD j 0 < 256 := by
  rw [List.getD_eq_getElem?_getD]
  rcases Nat.lt_or_ge j bs.length with hj | hj
  · rw [List.getElem?_eq_getElem hj]; exact h _ (List.getElem_mem hj)
  · rw [List.getElem?_eq_none hj]; exact ⟨Int.le_refl _, by decide⟩
theorem byte_of {b : Int} (h : 0 ≤ b ∧ b < 256) : ∃ x : Fin 256, b = (x.val : Int) := ⟨⟨b.toNat, by omega⟩, by simp; omega⟩
theorem bm_zero {b : Int} (h : 0 ≤ b ∧ b < 256) : bm b 0 = 0 := by unfold bm; omega
theorem bm_full (b : Int) {k : Nat} (hk : 8 ≤ k) : bm b k = b - 0 := by unfold bm; rw [show 8 - k = 0 by omega]; simp
theorem bm_all (b : Int) {k : Nat} (hk : 8 ≤ k) : bm b k = b := by rw [bm_full b hk]; omega
theorem bm_cap (b : Int) (k : Nat) : bm b k = bm b (min k 8) := by
  rcases Nat.lt_or_ge k 8 with h | h
  · rw [Nat.min_eq_left (by omega)]
  · rw [Nat.min_eq_right h, bm_all b h, bm_all b (Nat.le_refl _)]
theorem bm_in0 : ∀ b : Fin 256, ∀ r : Fin 9, 0 ≤ bm (b.val : Int) r.val ∧ bm (b.val : Int) r.val < 256 := by decide +kernel
theorem bm_in {b : Int} (h : 0 ≤ b ∧ b < 256) (k : Nat) : 0 ≤ bm b k ∧ bm b k < 256 := by
  obtain ⟨x, rfl⟩ := byte_of h
  rw [bm_cap]
  exact bm_in0 x ⟨min k 8, by omega⟩
theorem or_step : ∀ b : Fin 256, ∀ r : Fin 8, bits .or .u8 (bm (b.val : Int) r.val) (IntKind.u8.wrap (bitN (b.val : Int) r.val * 2 ^ (7 - r.val))) = bm (b.val : Int) (r.val + 1) := by decide +kernel
theorem not_step : ∀ b : Fin 256, ∀ r : Fin 8, bits .andNot .u8 (b.val : Int) (255 / 2 ^ r.val) = bm (b.val : Int) r.val := by decide +kernel
theorem bm_bm0 : ∀ b : Fin 256, ∀ r : Fin 9, ∀ s : Fin 9, bm (bm (b.val : Int) r.val) s.val = bm (b.val : Int) (min r.val s.val) := by decide +kernel
theorem bm_bm {b : Int} (h : 0 ≤ b ∧ b < 256) (r s : Nat) : bm (bm b r) s = bm b (min r s) := by
  obtain ⟨x, rfl⟩ := byte_of h
  rw [bm_cap _ r, bm_cap _ s, bm_cap _ (min r s)]
  have := bm_bm0 x ⟨min r 8, by omega⟩ ⟨min s 8, by omega⟩
  simp only at this
  rw [this]
  congr 1
  omega
theorem mask_len (bs : List Int) (n : Nat) : (maskL bs n).length = 16 := by simp [maskL]
theorem mask_getD (bs : List Int) (n : Nat) {j : Nat} (hj : j < 16) : (maskL bs n).getD j 0 = bm (bs.getD j 0) (n - 8 * j) := by
  simp [maskL, List.getD_eq_getElem?_getD, hj]
theorem list_ext {xs ys : List Int} (hx : xs.length = 16) (hy : ys.length = 16) (h : ∀ j, j < 16 → xs.getD j 0 = ys.getD j 0) : xs = ys := by
  apply List.ext_getElem (by omega)
  intro i h1 h2
  have := h i (by omega)
  simpa [List.getD_eq_getElem?_getD, List.getElem?_eq_getElem h1, List.getElem?_eq_getElem h2] using this
theorem mask_all {bs : List Int} (h : AllB bs) (n : Nat) : AllB (maskL bs n) := by
  intro x hx
  simp only [maskL, List.mem_map, List.mem_range] at hx
  obtain ⟨j, _, rfl⟩ := hx
  exact bm_in (getD_b h j) _
theorem mask_zero {bs : List Int} (h : AllB bs) : maskL bs 0 = List.replicate 16 0 := by
  refine list_ext (mask_len _ _) (by simp) fun j hj => ?_
  rw [mask_getD _ _ hj, Nat.zero_sub, bm_zero (getD_b h j)]
  rw [List.getD_eq_getElem?_getD, List.getElem?_replicate]
  split <;> rfl
theorem mask_full {bs : List Int} (hl : bs.length = 16) {n : Nat} (hn : 128 ≤ n) : maskL bs n = bs := by
  refine list_ext (mask_len _ _) hl fun j hj => ?_
  rw [mask_getD _ _ hj, bm_all _ (by omega)]
theorem mask_mask {bs : List Int} (h : AllB bs) (n m : Nat) : maskL (maskL bs n) m = maskL bs (min n m) := by
  refine list_ext (mask_len _ _) (mask_len _ _) fun j hj => ?_
  rw [mask_getD _ _ hj, mask_getD _ _ hj, mask_getD _ _ hj, bm_bm (getD_b h j)]
  congr 1
  omega
theorem getD_set (xs : List Int) (i : Nat) (x : Int) (j : Nat) : (xs.set i x).getD j 0 = if i = j ∧ i < xs.length then x else xs.getD j 0 := by
  simp only [List.getD_eq_getElem?_getD, List.getElem?_set]
  by_cases h : i = j
  · subst h
    by_cases hi : i < xs.length
    · simp [hi]
    · simp [hi]
  · simp [h]
theorem mask_succ {bs : List Int} (h : AllB bs) (i : Nat) (hi : i < 128) : (maskL bs i).set (i / 8) (bm (bs.getD (i / 8) 0) (i % 8 + 1)) = maskL bs (i + 1) := by
  refine list_ext (by simp [maskL]) (mask_len _ _) fun j hj => ?_
  rw [getD_set, mask_len, mask_getD _ _ hj, mask_getD _ _ hj]
  by_cases e : i / 8 = j
  · rw [if_pos ⟨e, by omega⟩, ← e]; congr 1; omega
  · rw [if_neg (by omega)]
    rcases Nat.lt_or_ge j (i / 8) with h1 | h1
    · rw [bm_all _ (by omega), bm_all _ (by omega)]
    · congr 1; omega
/-- The whole bytes, and one more. -/
theorem mask_whole {bs : List Int} (h : AllB bs) (hl : bs.length = 16) (q : Nat) (hq : q ≤ 16) : maskL bs (8 * q) = bs.take q ++ List.replicate (16 - q) 0 := by
  refine list_ext (mask_len _ _) (by simp [hl]; omega) fun j hj => ?_
  rw [mask_getD _ _ hj]
  simp only [List.getD_eq_getElem?_getD, List.getElem?_append, List.length_take, hl, Nat.min_eq_left hq]
  by_cases e : j < q
  · rw [if_pos e, bm_all _ (by omega), List.getElem?_take, if_pos e]
  · have hb := getD_b h j
    rw [List.getD_eq_getElem?_getD] at hb
    rw [if_neg e, show 8 * q - 8 * j = 0 by omega, bm_zero hb]
    rw [List.getElem?_replicate]
    split <;> rfl
theorem mask_rest {bs : List Int} (h : AllB bs) (n : Nat) (hn : n < 128) (hr : 0 < n % 8) : (maskL bs (8 * (n / 8))).set (n / 8) (bm (bs.getD (n / 8) 0) (n % 8)) = maskL bs n := by
  refine list_ext (by simp [maskL]) (mask_len _ _) fun j hj => ?_
  rw [getD_set, mask_len, mask_getD _ _ hj, mask_getD _ _ hj]
  by_cases e : n / 8 = j
  · rw [if_pos ⟨e, by omega⟩, ← e]; congr 1; omega
  · rw [if_neg (by omega)]
    rcases Nat.lt_or_ge j (n / 8) with h1 | h1
    · rw [bm_all _ (by omega), bm_all _ (by omega)]
    · congr 1; omega
end Go.Proofs.Ytfnpjfcfgilchaa.AddrM
