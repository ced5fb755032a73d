/- Addresses: a bit; the first bits alone. -/
import Derived.Test.YtfnpjfcfgilchaaAddrW10
import Derived.Test.YtfnpjfcfgilchaaAddrM
namespace Go.Proofs.Ytfnpjfcfgilchaa.AddrW
open Go.RowKit Go.Proofs.Ytfnpjfcfgilchaa.AddrM Go.Proofs.Ytfnpjfcfgilchaa.Bits Go.Proofs.Ytfnpjfcfgilchaa.Help Go.Proofs.YtfnpjfcfgilchaaW.PrintWords Go.Proofs.YtfnpjfcfgilchaaW.PrintLast Go.Proofs.YtfnpjfcfgilchaaW.PrintMore
set_option linter.unusedVariables false
set_option linter.unusedSimpArgs false
theorem Bit_any (v : Bool) (bs : List Int) (i : Nat) (w : World) (hl : bs.length = 16) (hi : i < 128) :
    Calls Try.prog 39 #[.agg (av v bs), .int .i64 (i : Int)] w fun e w' => e = .returned (.int .u8 (bitN (bs.getD (i / 8) 0) (i % 8))) ∧ Below w.heap.size w w' := by
  have hb := blk_new w (.cells (av v bs) 25)
  have hc : (w.alloc (.cells (av v bs) 25)).cell? ⟨w.heap.size, 1 + i / 8, none⟩ = some (.int .u8 (bs.getD (i / 8) 0)) := (blk_cell hb _).trans (av_at v (by omega))
  have h16 : ((i / 8 : Nat) : Int) < 16 := by omega
  generalize hx : bs.getD (i / 8) 0 = x at *
  clear hb hx
  go_enter Try.func39, Try.ntmps39
  go_wp2_with fail
  go_ret
  exact ⟨rfl, below_alloc (Below.refl _ _) _⟩
end Go.Proofs.Ytfnpjfcfgilchaa.AddrW
