/- Lent: bytes in new memory with eight places of 0xa5 behind them. Kept: they are as they were. -/
import Derived.Test.YtjidoedlmpjmnaaProg
import Derived.Test.YtjidoedlmpjmnaaBase
namespace Go.Proofs.Ytjidoedlmpjmnaa.A
open Go.RowKit Go.Proofs.YtjidoedlmpjmnaaW.PrintWords Go.Proofs.YtjidoedlmpjmnaaW.PrintLast Go.Proofs.YtjidoedlmpjmnaaW.PrintMore Go.Proofs.Ytjidoedlmpjmnaa.Help
set_option linter.unusedVariables false
set_option linter.unusedSimpArgs false
set_option maxRecDepth 20000

/-- A row with eight places behind it. -/
def tail8 : List Int := List.replicate 8 165
/-- v is lent: block g holds xs, and eight times 165 behind them. -/
def LentAt (w : World) (g : Nat) (xs : List Int) : Prop := w.heap[g]? = some (.cells (nums .u8 (xs ++ tail8)).toArray 5 (0, 0))
theorem madeCells_u8 (n : Nat) : (madeCells #[Value.int .u8 0] n).toList = nums .u8 (List.replicate n 0) := by
  apply List.ext_getElem
  · simp [nums, madeCells]
  · intro i h1 h2
    simp [nums, madeCells, Nat.mod_one]
theorem nums_arr (k : IntKind) (xs : List Int) : (nums k xs).toArray.size = xs.length := by simp [nums]
theorem nums_splice (k : IntKind) (xs ys : List Int) (n : Nat) : splice (nums k xs) n (nums k ys) = nums k (splice xs n ys) := by
  simp [splice, nums]
theorem lent_step (l0 : List Int) {j : Nat} (hj : j < 8) : (nums .u8 (l0 ++ List.replicate j 165 ++ List.replicate (8 - j) 0)).toArray.setIfInBounds (l0.length + j) (Value.int .u8 165) = (nums .u8 (l0 ++ List.replicate (j + 1) 165 ++ List.replicate (8 - (j + 1)) 0)).toArray := by
  apply Array.toList_inj.1
  rw [Array.toList_setIfInBounds]
  have e1 : l0 ++ List.replicate j 165 ++ List.replicate (8 - j) (0 : Int) = (l0 ++ List.replicate j 165) ++ 0 :: List.replicate (8 - (j + 1)) 0 := by
    rw [show 8 - j = (8 - (j + 1)) + 1 by omega]; rfl
  have e2 : l0 ++ List.replicate (j + 1) 165 ++ List.replicate (8 - (j + 1)) (0 : Int) = (l0 ++ List.replicate j 165) ++ 165 :: List.replicate (8 - (j + 1)) 0 := by
    rw [List.replicate_succ']; simp
  rw [e1, e2]
  simp [nums]
theorem pw_below_setCell {w W : World} {i : Nat} {v : Value} (h : Below w.heap.size w W) : Below w.heap.size w (W.setCell ⟨w.heap.size, i, none⟩ v) :=
  ⟨h.os, h.tape, h.output, by simpa [World.setCell] using h.size, fun k hk => (Below.heap_setCell W ⟨w.heap.size, i, none⟩ v k (by simp; omega)).trans (h.block k hk)⟩
theorem below_alloc_lt {w W : World} (h : Below w.heap.size w W) (o : Obj) : Below w.heap.size w (W.alloc o) := below_alloc h o
def steelyardref01_Lent.f (l0 : List Int) : Option (List Int) := if l0.length ≤ 140737488351232 then some l0 else none
set_option maxHeartbeats 1000000 in
theorem Lent_calls (A0 : Option Addr) (c0 : Nat) (l0 : List Int) (w : World) (hr0 : Kd.C (Kd.int .u8) w A0 l0.length l0) (hb : l0.length ≤ 140737488351232) :
    Calls Try.prog 21 #[.slice A0 l0.length c0] w fun e w' => ∃ g, e = .returned (.slice (some ⟨g, 0, none⟩) l0.length (l0.length + 8)) ∧ w.heap.size ≤ g ∧ LentAt w' g l0 ∧ Below w.heap.size w w' := by
  have hinfo : (Try.prog.info? 5).map (fun i => (i.zero, i.size, i.bytes)) = some (some (.int .u8 0), 1, 1) := by kernel_rfl
  have hinf1 : (Try.prog.info? 5).map (·.size) = some 1 := by kernel_rfl
  obtain ⟨i0, hi, hz0, hz1, hz2⟩ := info_parts hinfo
  have hu := Try.underlying25
  have hmk : (Instr.makeSlice 25 (.int .i64 (l0.length : Int)) (.int .i64 ((l0.length : Int) + 8))).run Try.prog w = .ok (.slice (some ⟨w.heap.size, 0, none⟩) l0.length (l0.length + 8)) (w.alloc (.cells (madeCells #[.int .u8 0] (l0.length + 8)) 5)) := by
    have h := run_make (P := Try.prog) w 25 5 i0 (.int .u8 0) hu hi hz0 .i64 .i64 (l0.length : Int) ((l0.length : Int) + 8) (by omega) (by omega) (by rw [hz2]; omega) (by omega)
    have e1 : ((l0.length : Int)).toNat = l0.length := by omega
    have e2 : ((l0.length : Int) + 8).toNat = l0.length + 8 := by omega
    rw [e1, e2] at h
    simpa [hz1, Value.cells] using h
  have hblk : (w.alloc (.cells (madeCells #[.int .u8 0] (l0.length + 8)) 5)).heap[w.heap.size]? = some (.cells (madeCells #[.int .u8 0] (l0.length + 8)) 5 (0, 0)) := blk_new w _
  obtain ⟨w1, hcp, ⟨cs1, hb1, hl1⟩, hg1⟩ := copy_reads (P := Try.prog) (dT := 25) (sT := 25) (ty := 3) (dLen := l0.length) (dCap := l0.length + 8) (o := 0) hu hinf1 hblk (Kd.C_alloc hr0 _) (c := c0) (m := l0.length) (by simp) (by simp [madeCells])
  have hcs1 : cs1 = (nums .u8 (l0 ++ List.replicate 8 0)).toArray := by
    apply Array.toList_inj.1
    rw [hl1, madeCells_u8, List.take_length, nums_splice]
    simp [splice]
  subst hcs1
  have HB := Aside0.mk (show Below w.heap.size w w1 from pw_below_grown (below_alloc (Below.refl _ _) _) (some w.heap.size) (by simp) hg1 (by simp))
  have HL := Aside0.mk hb1
  have HMK := Aside0.mk hmk
  have HCP := Aside0.mk hcp
  have hbig : (l0.length : Int) ≤ 140737488351232 := by omega
  clear hr0 hb hinfo hinf1 hmk hcp hb1 hg1 hl1 hblk
  go_enter Try.func21, Try.ntmps21
  go_wp2_with (first | ((with_reducible refine gate_dst (N := 10) rfl ?_); refine Kd.event_run rfl (exec_make rfl rfl rfl HMK.out) ?_) | ((with_reducible refine gate_dst (N := 13) rfl ?_); refine Kd.event_run rfl (exec_copy rfl rfl rfl HCP.out) ?_))
  go_loopg [3, 4] 8 (fun kq v3 v4 w' => ∃ j : Nat, Aside0 (kq + j = 8) ∧ v3 = .slice (some ⟨w.heap.size, 0, none⟩) (l0.length + j) (l0.length + 8) ∧ v4 = .int .i64 ((l0.length + j : Nat) : Int) ∧ Aside0 (w'.heap[w.heap.size]? = some (.cells (nums .u8 (l0 ++ List.replicate j 165 ++ List.replicate (8 - j) 0)).toArray 5 (0, 0))) ∧ Aside0 (Below w.heap.size w w'))
  case atStart => exact ⟨0, ⟨rfl⟩, rfl, rfl, ⟨by simpa using HL.out⟩, HB⟩
  case round =>
    clear HL HB HMK HCP
    obtain ⟨j, HJ, rfl, rfl, HL, HB⟩ := hrel
    cases gk with
    | zero =>
      have hj : j = 8 := by have := HJ.out; omega
      subst hj
      have hlt : decide (((l0.length + 8 : Nat) : Int) < (l0.length : Int) + 8) = false := decide_eq_false (by omega)
      go_wp2
      go_ret
      refine ⟨w.heap.size, by first | rfl | simp, Nat.le_refl _, ?_, HB.out⟩
      have h := HL.out
      simpa [LentAt, tail8] using h
    | succ kq =>
      have hj : j < 8 := by have := HJ.out; omega
      have hlt : decide (((l0.length + j : Nat) : Int) < (l0.length : Int) + 8) = true := decide_eq_true (by omega)
      have hblt : w.heap.size < wr.heap.size := blk_lt HL.out
      have hc : wr.cell? ⟨w.heap.size, l0.length + j, none⟩ = some (.int .u8 0) := by
        rw [blk_cell HL.out, List.getElem?_toArray]
        simp only [nums, List.getElem?_map]
        rw [List.getElem?_append_right (by simp), List.getElem?_replicate]
        simp
        omega
      have hf : wr.frozen? ⟨w.heap.size, l0.length + j, none⟩ = false := blk_frozen HL.out _
      go_wp2
      go_roundg kq
      case measure => omega
      case rel => exact ⟨j + 1, ⟨by have := HJ.out; omega⟩, rfl, by first | rfl | (congr 1; omega), ⟨by rw [blk_alloc (blk_set HL.out (l0.length + j) _), lent_step l0 hj]⟩, ⟨below_alloc_lt (pw_below_setCell HB.out) _⟩⟩
theorem LentAt.below {w w' : World} {g : Nat} {xs : List Int} (h : LentAt w g xs) (hb : Below w.heap.size w w') : LentAt w' g xs := blk_below h hb
theorem LentAt.drew {w : World} {g : Nat} {xs : List Int} (h : LentAt w g xs) (n : Nat) : LentAt (w.drewN n) g xs := blk_drewN h n
theorem LentAt.reads {w : World} {g : Nat} {xs : List Int} (h : LentAt w g xs) (hl : xs.length ≤ 9223372036854775807) : Kd.C (Kd.int .u8) w (some ⟨g, 0, none⟩) xs.length xs := by
  have h' : w.heap[g]? = some (.cells (nums .u8 xs ++ nums .u8 tail8).toArray 5 (0, 0)) := by rw [← nums_append]; exact h
  exact C_of_block0 h' hl
theorem LentAt.reads8 {w : World} {g : Nat} {xs : List Int} (h : LentAt w g xs) (hl : xs.length + 8 ≤ 9223372036854775807) : Kd.C (Kd.int .u8) w (some ⟨g, 0, none⟩) (xs ++ tail8).length (xs ++ tail8) := by
  have h' : w.heap[g]? = some (.cells (nums .u8 (xs ++ tail8) ++ []).toArray 5 (0, 0)) := by rw [List.append_nil]; exact h
  exact C_of_block0 h' (by simp [tail8]; omega)
theorem LentAt.owns {w : World} {g base : Nat} {xs : List Int} (h : LentAt w g xs) (hb : base ≤ g) (hl : xs.length + 8 ≤ 9223372036854775807) :
    Kd.R (Kd.int .u8) 5 w base (fun _ => True) (.slice (some ⟨g, 0, none⟩) xs.length (xs.length + 8)) xs := by
  refine Kd.R_of_own (h1 := fun _ => rfl) ⟨by simp [encs], .inr ⟨g, xs.length + 8, _, rfl, hb, h, by omega, by simpa [maxLen] using hl, by simp [nums, tail8], ?_⟩⟩ (fun _ _ => trivial)
  simp [nums, encs, List.take_append_of_le_length]
theorem steelyardref01_Lent.calls (A0 : Option Addr) (c0 : Nat) (l0 : List Int) (r : List Int) (w : World) (hr0 : Kd.C (Kd.int .u8) w A0 l0.length l0) (hc0 : l0.length ≤ c0) (h : steelyardref01_Lent.f l0 = some r) :
    Calls Try.prog 21 #[.slice A0 l0.length c0] w fun e w' => ∃ v0_ : Value, e = .returned (v0_) ∧ Kd.R (Kd.int .u8) 5 w' w.heap.size (fun _ => True) v0_ r ∧ Below w.heap.size w w' := by
  unfold steelyardref01_Lent.f at h
  split at h
  case isFalse => cases h
  case isTrue hb =>
    obtain rfl := Option.some.inj h
    refine (Lent_calls A0 c0 l0 w hr0 hb).mono ?_
    rintro e w' ⟨g, rfl, hg, hL, hB⟩
    exact ⟨_, rfl, hL.owns hg (by omega), hB⟩
end Go.Proofs.Ytjidoedlmpjmnaa.A
