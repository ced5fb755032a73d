/- known: fixed calls. -/
import Derived.Test.YtcmibbhfocfccaaCurW11
namespace Go.Proofs.Ytcmibbhfocfccaa.Cur
open Go.RowKit Go.Proofs.Ytcmibbhfocfccaa.Segs Go.Proofs.Ytcmibbhfocfccaa.Own Go.Proofs.Ytcmibbhfocfccaa.CurP Go.Proofs.Ytcmibbhfocfccaa.Mem Go.Proofs.Ytcmibbhfocfccaa.Bits Go.Proofs.Ytcmibbhfocfccaa.Help Go.Proofs.YtcmibbhfocfccaaW.PrintWords Go.Proofs.YtcmibbhfocfccaaW.PrintLast Go.Proofs.YtcmibbhfocfccaaW.PrintMore
set_option linter.unusedVariables false
set_option linter.unusedSimpArgs false
theorem known1 : runL [1, 2, 3, 0] 0 [(0, 2), (2, 1), (3, 1)] = ([(258, []), (0, []), (0, [])], 4, 0) := by decide
theorem known2 : runL [1] 0 [(0, 2), (2, 1), (3, 1)] = ([], 0, 10) := by decide
theorem ops3 {w : World} {g : Nat} (h : w.heap[g]? = some (.cells #[.int .i64 0, .int .i64 2, .int .i64 2, .int .i64 1, .int .i64 3, .int .i64 1] 53 (0, 0))) : dO.C w (some ⟨g, 0, none⟩) 3 [(0, 2), (2, 1), (3, 1)] := by
  refine ⟨rfl, by decide, fun _ => ⟨_, rfl, fun j p hj => ?_⟩⟩
  have hcell : ∀ q, w.cell? ((⟨g, 0, none⟩ : Addr).add q) = #[.int .i64 0, .int .i64 2, .int .i64 2, .int .i64 1, .int .i64 3, .int .i64 1][q]? := fun q => by
    have : (⟨g, 0, none⟩ : Addr).add q = ⟨g, q, none⟩ := by unfold Addr.add; split <;> simp_all
    rw [this]; exact blk_cell h q
  match j with
  | 0 =>
    obtain rfl : (0, 2) = p := by simpa using hj
    exact ⟨[.int .i64 0, .int .i64 2], rfl, ⟨[_], [_], rfl, rfl, rfl⟩, fun i u hu => by
      rw [hcell, show dO.sz = 2 from rfl]
      match i with
      | 0 => simpa using hu
      | 1 => simpa using hu
      | i + 2 => simp at hu⟩
  | 1 =>
    obtain rfl : (2, 1) = p := by simpa using hj
    exact ⟨[.int .i64 2, .int .i64 1], rfl, ⟨[_], [_], rfl, rfl, rfl⟩, fun i u hu => by
      rw [hcell, show dO.sz = 2 from rfl]
      match i with
      | 0 => simpa using hu
      | 1 => simpa using hu
      | i + 2 => simp at hu⟩
  | 2 =>
    obtain rfl : (3, 1) = p := by simpa using hj
    exact ⟨[.int .i64 3, .int .i64 1], rfl, ⟨[_], [_], rfl, rfl, rfl⟩, fun i u hu => by
      rw [hcell, show dO.sz = 2 from rfl]
      match i with
      | 0 => simpa using hu
      | 1 => simpa using hu
      | i + 2 => simp at hu⟩
  | j + 3 => simp at hj
theorem ops3_small : ∀ o ∈ [((0 : Int), (2 : Int)), (2, 1), (3, 1)], -9223372036854775808 ≤ o.2 ∧ o.2 ≤ 9223372036854775807 := by decide
set_option maxHeartbeats 8000000 in
theorem known_any (w : World) : Calls Try.prog 16 #[] w fun e w' => e = .returned (.bool true) ∧ Below w.heap.size w w' := by
  go_enter Try.func16, Try.ntmps16
  go_wp2_with fail
  have b0 := blk_alloc (blk_new w (.cells #[.int .i64 0, .int .i64 2, .int .i64 2, .int .i64 1, .int .i64 3, .int .i64 1] 53)) (.cells #[.int .u8 1, .int .u8 2, .int .u8 3, .int .u8 0] 5)
  have b1 := blk_new_at (w := w.alloc (.cells #[.int .i64 0, .int .i64 2, .int .i64 2, .int .i64 1, .int .i64 3, .int .i64 1] 53)) (o := .cells #[.int .u8 1, .int .u8 2, .int .u8 3, .int .u8 0] 5) (alloc_size w _).symm
  have hB := below_alloc (below_alloc (Below.refl w.heap.size w) (.cells #[.int .i64 0, .int .i64 2, .int .i64 2, .int .i64 1, .int .i64 3, .int .i64 1] 53)) (.cells #[.int .u8 1, .int .u8 2, .int .u8 3, .int .u8 0] 5)
  generalize (w.alloc (.cells #[.int .i64 0, .int .i64 2, .int .i64 2, .int .i64 1, .int .i64 3, .int .i64 1] 53)).alloc (.cells #[.int .u8 1, .int .u8 2, .int .u8 3, .int .u8 0] 5) = W at *
  have hO := ops3 b0
  have hr : Kd.C (Kd.int .u8) W (some ⟨w.heap.size + 1, 0, none⟩) [1, 2, 3, 0].length [1, 2, 3, 0] := C_of_block0 (more := []) b1 (by decide)
  have hrun := Run_any W _ _ 4 3 [1, 2, 3, 0] [(0, 2), (2, 1), (3, 1)] hr (by decide) (by decide) hO (by decide) ops3_small (by unfold AllB; decide) (by decide) (by decide)
  have HO := Aside0.mk hO
  have HB := Aside0.mk hB
  clear b0 b1 hO hr hB
  refine hrun.mono ?_
  rintro e w1 ⟨v, he, hS, hB1⟩
  rw [known1] at he hS
  subst he
  obtain ⟨va, vc, rfl, hvc, hrd⟩ := Kd.S_reads hS
  replace HB := Aside0.mk (below_step HB.out hB1)
  replace HO := Aside0.mk (Kd.C_below HO.out hB1)
  have HRD := Aside0.mk hrd
  clear hS hrd hrun hB1
  go_wp2_with fail
  have b1 := blk_new w1 (.cells #[.int .u8 1] 5)
  have hB1 := below_alloc (Below.refl w1.heap.size w1) (.cells #[.int .u8 1] 5)
  generalize w1.alloc (.cells #[.int .u8 1] 5) = W1 at *
  have hO := Kd.C_below HO.out hB1
  have hr : Kd.C (Kd.int .u8) W1 (some ⟨w1.heap.size, 0, none⟩) [1].length [1] := C_of_block0 (more := []) b1 (by decide)
  have hrun := Run_any W1 _ _ 1 3 [1] [(0, 2), (2, 1), (3, 1)] hr (by decide) (by decide) hO (by decide) ops3_small (by unfold AllB; decide) (by decide) (by decide)
  replace HB := Aside0.mk (below_step HB.out hB1)
  replace HRD := Aside0.mk (Kd.C_below HRD.out hB1)
  clear b1 hO hr hB1 HO
  refine hrun.mono ?_
  rintro e w2 ⟨v2, he, hS, hB2⟩
  rw [known2] at he hS
  subst he
  obtain ⟨vb, vd, rfl, hvd, -⟩ := Kd.S_reads hS
  replace HB := Aside0.mk (below_step HB.out hB2)
  obtain ⟨ad, B, bc, rfl, hc0, -, -, -⟩ := val_cells (l := [(258, []), (0, []), (0, [])]) (Kd.C_below HRD.out hB2) 0 (by decide)
  have hc0' : w2.cell? (ad.add 0) = some (.int .u64 258) := hc0
  have hc0'' : w2.cell? ad = some (.int .u64 258) := hc0
  clear hS hrun hB2 HRD hc0
  go_wp2_with fail
  go_ret
  exact ⟨rfl, HB.out⟩
end Go.Proofs.Ytcmibbhfocfccaa.Cur
