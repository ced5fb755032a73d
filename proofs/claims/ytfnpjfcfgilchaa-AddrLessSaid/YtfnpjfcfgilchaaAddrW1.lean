/- Addresses: how many bytes count; can it be. -/
import Derived.Test.YtfnpjfcfgilchaaProg
import Derived.Test.YtfnpjfcfgilchaaWMore
import Derived.Test.YtfnpjfcfgilchaaHelp
import Derived.Test.YtfnpjfcfgilchaaBits
import Derived.Deep.RegionHeld3
import Derived.Deep.CutRange
namespace Go.Proofs.Ytfnpjfcfgilchaa.AddrW
open Go.RowKit Go.Proofs.Ytfnpjfcfgilchaa.Bits Go.Proofs.Ytfnpjfcfgilchaa.Help Go.Proofs.YtfnpjfcfgilchaaW.PrintWords Go.Proofs.YtfnpjfcfgilchaaW.PrintLast Go.Proofs.YtfnpjfcfgilchaaW.PrintMore
set_option linter.unusedVariables false
set_option linter.unusedSimpArgs false
/-- An address' cells. -/
def av (v : Bool) (bs : List Int) : Array Value := (Value.bool v :: nums .u8 bs).toArray
def sz (v : Bool) : Nat := if v then 16 else 4
theorem av_at0 (v : Bool) (bs : List Int) : (av v bs)[0]? = some (.bool v) := rfl
theorem av_at (v : Bool) {bs : List Int} {i : Nat} (h : i < bs.length) : (av v bs)[1 + i]? = some (.int .u8 (bs.getD i 0)) := by
  rw [av, List.getElem?_toArray, Nat.add_comm, List.getElem?_cons_succ]
  simp [nums, List.getElem?_eq_getElem h, List.getD_eq_getElem?_getD]
theorem size_any (v : Bool) (bs : List Int) (w : World) : Calls Try.prog 36 #[.agg (av v bs)] w fun e w' => e = .returned (.int .i64 (sz v : Nat)) ∧ Below w.heap.size w w' := by
  have hc : (w.alloc (.cells (av v bs) 25)).cell? ⟨w.heap.size, 0, none⟩ = some (.bool v) := (blk_cell (blk_new w _) 0).trans (av_at0 v bs)
  go_enter Try.func36, Try.ntmps36
  cases v with
  | true =>
    go_wp2_with fail
    go_ret
    exact ⟨rfl, below_alloc (Below.refl _ _) _⟩
  | false =>
    go_wp2_with fail
    go_ret
    exact ⟨rfl, below_alloc (Below.refl _ _) _⟩
theorem refsize_any (v : Bool) (bs : List Int) (w : World) : Calls Try.prog 37 #[.agg (av v bs)] w fun e w' => e = .returned (.int .i64 (sz v : Nat)) ∧ Below w.heap.size w w' := by
  have hc : (w.alloc (.cells (av v bs) 25)).cell? ⟨w.heap.size, 0, none⟩ = some (.bool v) := (blk_cell (blk_new w _) 0).trans (av_at0 v bs)
  go_enter Try.func37, Try.ntmps37
  cases v with
  | true =>
    go_wp2_with fail
    go_ret
    exact ⟨rfl, below_alloc (Below.refl _ _) _⟩
  | false =>
    go_wp2_with fail
    go_ret
    exact ⟨rfl, below_alloc (Below.refl _ _) _⟩
end Go.Proofs.Ytfnpjfcfgilchaa.AddrW
