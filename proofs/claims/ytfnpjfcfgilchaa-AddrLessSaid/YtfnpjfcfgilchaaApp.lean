/- append of whole numbers onto a row of one's own, whatever room there is. -/
import Derived.Test.YtfnpjfcfgilchaaHelp
namespace Go.Proofs.Ytfnpjfcfgilchaa.Help
open Go.RowKit Go.Proofs.YtfnpjfcfgilchaaW.PrintWords Go.Proofs.YtfnpjfcfgilchaaW.PrintLast Go.Proofs.YtfnpjfcfgilchaaW.PrintMore
set_option linter.unusedSimpArgs false
set_option linter.unusedVariables false
theorem append_ints {P : Program} {W : World} {t ty e base : Nat} {i : TypeInfo} {k : IntKind} {v : Value} {xs ys : List Int} {A : Option Addr} {c : Nat} (ht : P.underlying t = some (.slice e)) (hi : P.info? e = some i)
    (hz0 : i.zero = some (.int k 0)) (hz1 : i.size = 1) (HO : W.ownsRow base e 1 v xs.length (nums k xs)) (hr : Kd.C (Kd.int k) W A ys.length ys) (hl : (xs.length + ys.length) * i.bytes ≤ 140737488355328) (h63 : xs.length + ys.length ≤ 140737488355328) (hbase : base ≤ W.heap.size) :
    ∃ v1 w1, (Builtin.append_ #[t, t] ty #[v, .slice A ys.length c]).run P W = .ok v1 w1 ∧ w1.ownsRow base e 1 v1 (xs ++ ys).length (nums k (xs ++ ys)) ∧ W.grownBy w1 v.ownBlock ∧ (v1.ownBlock = v.ownBlock ∨ v1.ownBlock = some W.heap.size) := by
  have HR := Kd.reads_of_C (d := (0 : Int)) hr
  rcases A with _ | ad
  · have h0 : ys.length = 0 := by
      rcases Nat.eq_zero_or_pos ys.length with h0 | h0
      · exact h0
      · obtain ⟨ad, h, _⟩ := HR.2.2 h0
        cases h
    obtain rfl : ys = [] := List.eq_nil_of_length_eq_zero h0
    refine ⟨v, W, ?_, by simpa using HO, World.grownBy.refl W _, .inl rfl⟩
    rcases HO.2 with ⟨rfl, hn⟩ | ⟨g, cap, cur, rfl, _, _, hnc, _⟩
    · simp [Builtin.append_, run_underlying ht, sizeOf, typeInfo, hi, Builtin.lenOf, Builtin.firstCells]
    · simp [Builtin.append_, run_underlying ht, sizeOf, typeInfo, hi, Builtin.lenOf, Builtin.firstCells, hnc, storeCells]
  · have hcells : ∀ j u, (nums k ys)[j]? = some u → W.cell? (ad.add j) = some u := by
      intro j u hu
      have hj : j < ys.length := by
        rcases Nat.lt_or_ge j ys.length with h | h
        · exact h
        · simp [nums, List.getElem?_eq_none h] at hu
      obtain ⟨ad', h', hc⟩ := HR.2.2 (by omega)
      injection h' with h'
      subst h'
      have := hc j (by omega)
      simp [nums, List.getElem?_eq_getElem hj] at hu
      subst hu
      rw [this]
      simp [List.getD_eq_getElem?_getD, List.getElem?_eq_getElem hj]
    obtain ⟨v1, w1, hr, h2, h3, _, h5⟩ := run_append_own_at (P := P) W base t ty e i (.int k 0) 1 i.bytes ht hi hz0 hz1 rfl rfl (by omega) v xs.length (nums k xs) HO ad ys.length c (nums k ys) (by simp [nums]) hcells
      (by intro u hu; simp only [nums, List.mem_map] at hu; obtain ⟨q, _, rfl⟩ := hu; rfl) (by simp only [maxLen]; omega) hl hbase
    exact ⟨v1, w1, hr, by simpa [nums] using h2, h3, h5⟩
/-- A row of one's own is read. -/
theorem owned_reads {W : World} {e base : Nat} {k : IntKind} {v : Value} {xs : List Int} (HO : W.ownsRow base e 1 v xs.length (nums k xs)) (hl : xs.length ≤ 9223372036854775807) :
    ∃ A c, v = .slice A xs.length c ∧ xs.length ≤ c ∧ Kd.C (Kd.int k) W A xs.length xs := by
  rcases HO.2 with ⟨rfl, hn⟩ | ⟨g, cap, cur, rfl, _, hg, hnc, _, _, ht⟩
  · obtain rfl : xs = [] := List.eq_nil_of_length_eq_zero hn
    exact ⟨none, 0, rfl, Nat.le_refl _, Kd.C_nil _ _⟩
  · refine ⟨some ⟨g, 0, none⟩, cap, rfl, hnc, C_of_block hg hl fun j hj => ?_⟩
    rw [Nat.zero_add, ← Array.getElem?_toList]
    have h1 : (cur.toList.take (xs.length * 1))[j]? = (nums k xs)[j]? := by rw [ht]
    rw [List.getElem?_take] at h1
    have h2 : j < xs.length * 1 := by omega
    rw [if_pos h2] at h1
    rw [h1]
    simp [nums, List.getElem?_eq_getElem hj, List.getD_eq_getElem?_getD]
theorem owned_nil (W : World) (base e : Nat) (k : IntKind) : W.ownsRow base e 1 (.slice none 0 0) ([] : List Int).length (nums k []) := World.ownsRow_nil W base e 1
/-- What grows by a row of one's own keeps all below. -/
theorem below_owned {w W w1 : World} {e : Nat} {v : Value} {n : Nat} {xs : List Value} (hB : Below w.heap.size w W) (HO : W.ownsRow w.heap.size e 1 v n xs) (hg : W.grownBy w1 v.ownBlock) : Below w.heap.size w w1 := by
  refine hB.grown hg hB.size ?_
  intro k hk
  rcases HO.2 with ⟨rfl, hn⟩ | ⟨g, cap, cur, rfl, hbg, _⟩
  · simp [Value.ownBlock] at hk
  · simp [Value.ownBlock] at hk; omega
theorem owned_below {w w1 : World} {e base n : Nat} {v : Value} {xs : List Value} (HO : w.ownsRow base e 1 v n xs) (hB : Below w.heap.size w w1) : w1.ownsRow base e 1 v n xs := by
  refine ⟨HO.1, ?_⟩
  rcases HO.2 with ⟨rfl, hn⟩ | ⟨g, cap, cur, rfl, hbg, hg, hrest⟩
  · exact .inl ⟨rfl, hn⟩
  · exact .inr ⟨g, cap, cur, rfl, hbg, blk_below hg hB, hrest⟩
end Go.Proofs.Ytfnpjfcfgilchaa.Help
