/- bytes.Compare, of two slices that are read. -/
import Derived.Test.YtfnpjfcfgilchaaProg
import Derived.Test.YtfnpjfcfgilchaaHelp
import Derived.Lib.Bytealg
import Derived.Lib.BytesEntry
import Derived.Laws.Externs
namespace Go.Proofs.Ytfnpjfcfgilchaa.AddrCmp
open Go.RowKit Go.Proofs.Ytfnpjfcfgilchaa.Help Go.Proofs.YtfnpjfcfgilchaaW.PrintWords Go.Proofs.YtfnpjfcfgilchaaW.PrintLast Go.Proofs.YtfnpjfcfgilchaaW.PrintMore
set_option linter.unusedVariables false
set_option linter.unusedSimpArgs false
theorem loads (P : Program) {A : Addr} {xs : List Int} {w : World} {n : Nat} (hn : n = xs.length) (hr : Kd.C (Kd.int .u8) w (some A) xs.length xs) : (Extern.Bytes.loadBytes A n .empty).run P w = .ok ⟨(Lib.bytesOf xs).toArray⟩ w := by
  subst hn
  have h := Lib.run_loadBytesX (P := P) (w := w) xs A .empty (fun j x hx => by
    have hj : j < xs.length := (List.getElem?_eq_some_iff.1 hx).1
    obtain ⟨ad, ha, hc⟩ := (Kd.reads_of_C (d := (0 : Int)) hr).2.2 (by omega)
    cases ha
    rw [hc j hj, List.getD_eq_getElem?_getD, hx]; rfl)
  rw [h]
  simp
theorem cmp_any {A B : Addr} {xs ys : List Int} {n m c d : Nat} (w : World) (hn : n = xs.length) (hm : m = ys.length) (hx : Kd.C (Kd.int .u8) w (some A) xs.length xs) (hy : Kd.C (Kd.int .u8) w (some B) ys.length ys) :
    Calls Try.prog 46 #[.slice (some A) n c, .slice (some B) m d] w fun e w' => e = .returned (.int .i64 (Lib.compareBytes (Lib.bytesOf xs) (Lib.bytesOf ys))) ∧ w' = w := by
  have HX := Aside0.mk (loads Try.prog hn hx)
  have HY := Aside0.mk (loads Try.prog hm hy)
  clear hn hm hx hy
  go_enter Try.func46, Try.ntmps46
  go_wp2
  have hrun : (Extern.BytealgCompare.compare #[.slice (some A) n c, .slice (some B) m d]).run Try.prog w = .ok (.int .i64 (Lib.compareBytes (Lib.bytesOf xs) (Lib.bytesOf ys))) w := by
    change Sem.run _ (do pure (goInt (Extern.BytealgCompare.cmp (← Extern.Bytes.bytesOf (.slice (some A) n c)) (← Extern.Bytes.bytesOf (.slice (some B) m d))))) w = _
    simp only [Extern.Bytes.bytesOf, Sem.run_bind, HX.out, HY.out, Result.andThen_ok, Sem.run_pure, goInt, Lib.cmp_eq]
  rw [run_callFunc_extern Try.func55 (by kernel_rfl) (by kernel_rfl) (by kernel_rfl) (e := Extern.BytealgCompare.compare) (by kernel_rfl), hrun]
  simp only [Result.andThen]
  rw [Oper.upon_value]
  clear hrun
  go_wp2
  go_ret
  exact ⟨rfl, rfl⟩
end Go.Proofs.Ytfnpjfcfgilchaa.AddrCmp
