/- Addresses: Of. -/
import Derived.Test.YtfnpjfcfgilchaaAddrW2
import Derived.Laws.ResultCell
import Derived.Deep.CutRange
namespace Go.Proofs.Ytfnpjfcfgilchaa.AddrW
open Go.RowKit Go.Proofs.Ytfnpjfcfgilchaa.Bits Go.Proofs.Ytfnpjfcfgilchaa.Help Go.Proofs.YtfnpjfcfgilchaaW.PrintWords Go.Proofs.YtfnpjfcfgilchaaW.PrintLast Go.Proofs.YtfnpjfcfgilchaaW.PrintMore
set_option linter.unusedVariables false
set_option linter.unusedSimpArgs false
def zs (n : Nat) : List Int := List.replicate n 0
/-- An address of bytes; errno. -/
def ofV (xs : List Int) : Bool := decide (xs.length = 16)
def ofB (xs : List Int) : List Int := if xs.length = 4 ∨ xs.length = 16 then xs ++ zs (16 - xs.length) else zs 16
def ofE (xs : List Int) : Int := if xs.length = 4 ∨ xs.length = 16 then 0 else 3
theorem av_splice (v : Bool) (xs : List Int) (h : xs.length ≤ 16) : splice (av v (zs 16)).toList 1 (nums .u8 xs) = (av v (xs ++ zs (16 - xs.length))).toList := by
  have e : List.drop (1 + xs.length) (Value.bool v :: nums .u8 (zs 16)) = nums .u8 (zs (16 - xs.length)) := by
    rw [Nat.add_comm, List.drop_succ_cons]
    rw [nums, nums, zs, zs, ← List.map_drop, List.drop_replicate]
  simp only [av, splice, List.take_succ_cons, List.take_zero]
  rw [show (nums .u8 xs).length = xs.length by simp [nums], e]
  simp [nums]
theorem info_b : (Try.prog.info? 5).map (·.size) = some 1 := by kernel_rfl
/-- Bytes copied into an address of noughts. -/
theorem copy_in {W : World} {A : Option Addr} {c g : Nat} {v : Bool} {xs : List Int} (hg : W.heap[g]? = some (.cells (av v (zs 16)) 25 (0, 0))) (hr : Kd.C (Kd.int .u8) W A xs.length xs) (hl : xs.length ≤ 16) :
    ∃ w1, (Builtin.copy_ #[22, 22] 3 #[.slice (some ⟨g, 1, none⟩) 16 16, .slice A xs.length c]).run Try.prog W = .ok (.int .i64 (xs.length : Int)) w1 ∧ w1.heap[g]? = some (.cells (av v (xs ++ zs (16 - xs.length))) 25 (0, 0)) ∧ W.grownBy w1 (some g) := by
  obtain ⟨w1, h, ⟨cs', h1, h2⟩, h3⟩ := copy_reads (P := Try.prog) (dT := 22) (sT := 22) (ty := 3) (dLen := 16) (dCap := 16) (c := c) (o := 1) Try.underlying22 info_b hg hr (m := xs.length) (by exact (Nat.min_eq_left hl).symm) (by simp [av, nums, zs]; omega)
  refine ⟨w1, h, ?_, h3⟩
  rw [h1, show cs' = av v (xs ++ zs (16 - xs.length)) from Array.ext' (by rw [h2, List.take_of_length_le (Nat.le_refl _), av_splice v xs hl])]
end Go.Proofs.Ytfnpjfcfgilchaa.AddrW
