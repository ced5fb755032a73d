/- Addresses: can it be. -/
import Derived.Test.YtfnpjfcfgilchaaAddrW1
namespace Go.Proofs.Ytfnpjfcfgilchaa.AddrW
open Go.RowKit Go.Proofs.Ytfnpjfcfgilchaa.Bits Go.Proofs.Ytfnpjfcfgilchaa.Help Go.Proofs.YtfnpjfcfgilchaaW.PrintWords Go.Proofs.YtfnpjfcfgilchaaW.PrintLast Go.Proofs.YtfnpjfcfgilchaaW.PrintMore
set_option linter.unusedVariables false
set_option linter.unusedSimpArgs false
def rightB (v : Bool) (bs : List Int) : Bool := (bs.drop (sz v)).all (· == 0)
theorem sz_le (v : Bool) : sz v ≤ 16 := by cases v <;> decide
theorem info_addr : (Try.prog.info? 25).map (·.size) = some 17 := by kernel_rfl
theorem av_size (v : Bool) {bs : List Int} (h : bs.length = 16) : (av v bs).size = 17 := by simp [av, nums, h]
/-- A load of an address out of its block. -/
theorem load_addr {w : World} {g : Nat} {v : Bool} {bs : List Int} (hl : bs.length = 16) {t : TypeId} (hb : w.heap[g]? = some (.cells (av v bs) t (0, 0))) : (loadVar 25 ⟨g, 0, none⟩).run Try.prog w = .ok (.agg (av v bs)) w :=
  run_loadVar_row w g t 25 (av v bs) (0, 0) _ hb Try.underlying25 rfl (by rw [info_addr, av_size v hl])
theorem refRight_any (v : Bool) (bs : List Int) (w : World) (hl : bs.length = 16) : Calls Try.prog 16 #[.agg (av v bs)] w fun e w' => e = .returned (.bool (rightB v bs)) ∧ Below w.heap.size w w' := by
  have hb := blk_new w (.cells (av v bs) 25)
  have HB := Aside0.mk hb
  have HL := Aside0.mk hl
  have HLD := Aside0.mk (load_addr hl hb)
  clear hl hb
  go_enter Try.func16, Try.ntmps16
  go_wp2_with ((with_reducible refine gate_dst (N := 4) rfl ?_); refine Kd.event_run rfl (exec_load rfl rfl HLD.out) ?_)
  refine (refsize_any v bs _).mono ?_
  rintro e w1 ⟨rfl, hB⟩
  have HB1 := Aside0.mk (blk_below HB.out hB)
  have HW := Aside0.mk (below_step (below_alloc (Below.refl w.heap.size w) _) hB)
  clear HB HLD hB
  go_wp2_with fail
  go_loop [3] (fun v3 => ∃ i : Nat, i ≤ 16 ∧ sz v ≤ i ∧ v3 = .int .i64 (i : Int) ∧ Aside0 (rightB v bs = (bs.drop i).all (· == 0))) (fun v3 => 16 - (intOf v3).toNat)
  case atStart => exact ⟨sz v, sz_le v, Nat.le_refl _, rfl, ⟨rfl⟩⟩
  case round =>
    obtain ⟨i, hi, hs, rfl, HR⟩ := hrel
    by_cases hlt : i < 16
    · have hlen := HL.out
      have hc : w1.cell? ⟨w.heap.size, 1 + i, none⟩ = some (.int .u8 (bs.getD i 0)) := (blk_cell HB1.out _).trans (av_at v (by omega))
      have hd : bs.drop i = bs.getD i 0 :: bs.drop (i + 1) := by
        rw [List.drop_eq_getElem_cons (by omega), List.getD_eq_getElem?_getD, List.getElem?_eq_getElem (by omega)]; rfl
      have HD := Aside0.mk hd
      clear hd hlen
      generalize bs.getD i 0 = x at *
      by_cases hx : x = 0
      · subst hx
        go_wp2_with fail
        go_round
        case rel =>
          refine ⟨i + 1, by omega, by omega, rfl, ⟨?_⟩⟩
          rw [HR.out, HD.out]; rfl
        case measure => simp [intOf]; omega
      · have hx0 : (x == 0) = false := by simpa using hx
        go_wp2_with fail
        go_ret
        refine ⟨?_, HW.out⟩
        rw [HR.out, HD.out, List.all_cons, hx0]
        rfl
    · obtain rfl : i = 16 := by omega
      go_wp2_with fail
      go_ret
      refine ⟨?_, HW.out⟩
      rw [HR.out, List.drop_of_length_le (by rw [HL.out]; exact Nat.le_refl _)]
      rfl
end Go.Proofs.Ytfnpjfcfgilchaa.AddrW
