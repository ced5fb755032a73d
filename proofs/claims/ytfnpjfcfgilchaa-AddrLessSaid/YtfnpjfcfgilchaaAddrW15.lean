/- Addresses: known. -/
import Derived.Test.YtfnpjfcfgilchaaAddrW14
import Derived.Test.YtfnpjfcfgilchaaAddrW5
namespace Go.Proofs.Ytfnpjfcfgilchaa.AddrW
open Go.RowKit Go.Proofs.Ytfnpjfcfgilchaa.AddrEq Go.Proofs.Ytfnpjfcfgilchaa.AddrM Go.Proofs.Ytfnpjfcfgilchaa.Bits Go.Proofs.Ytfnpjfcfgilchaa.Help Go.Proofs.YtfnpjfcfgilchaaW.PrintWords Go.Proofs.YtfnpjfcfgilchaaW.PrintLast Go.Proofs.YtfnpjfcfgilchaaW.PrintMore
set_option linter.unusedVariables false
set_option linter.unusedSimpArgs false
def kA : List Int := [10, 1, 2, 3, 0, 0, 0, 0, 0, 0, 0, 0, 0, 0, 0, 0]
def kM : List Int := [10, 0, 0, 0, 0, 0, 0, 0, 0, 0, 0, 0, 0, 0, 0, 0]
theorem kA_all : AllB kA := by unfold AllB kA; decide
theorem kM_all : AllB kM := by unfold AllB kM; decide
theorem k_of : ofV [10, 1, 2, 3] = false ∧ ofB [10, 1, 2, 3] = kA ∧ ofE [10, 1, 2, 3] = 0 := by decide
theorem k_mask : mV false kA 12 = false ∧ mB false kA 12 = kM ∧ mE false kA 12 = 0 := by decide
theorem k_bytes : byR false kM = [10, 0, 0, 0] ∧ byE false kM = 0 := by decide
theorem k_wi : wiB false kA false kM 12 = true := by decide
theorem k_less : decide (ordS false kM false kA < 0) = true := by decide
set_option maxHeartbeats 4000000 in
theorem known_any (w : World) : Calls Try.prog 17 #[] w fun e w' => e = .returned (.bool true) ∧ Below w.heap.size w w' := by
  have OF : Aside0 (∀ W : World, Calls Try.prog 10 #[.slice (some ⟨W.heap.size, 0, none⟩) 4 4] (W.alloc (.cells (nums .u8 [10, 1, 2, 3]).toArray 5)) fun e w' => e = .returned (.tuple #[.agg (av false kA), .int .i64 0]) ∧ Below (W.alloc (.cells (nums .u8 [10, 1, 2, 3]).toArray 5)).heap.size (W.alloc (.cells (nums .u8 [10, 1, 2, 3]).toArray 5)) w') := ⟨fun W => by
    have h := Of_any (some ⟨W.heap.size, 0, none⟩) 4 [10, 1, 2, 3] _ (C_of_block0 (more := []) (t := 5) (k := .u8) (blk_new W (.cells (nums .u8 [10, 1, 2, 3] ++ []).toArray 5)) (by decide))
    rw [k_of.1, k_of.2.1, k_of.2.2] at h
    exact h⟩
  go_enter Try.func17, Try.ntmps17
  go_wp2_with fail
  refine (OF.out _).mono ?_
  rintro e w1 ⟨rfl, hB⟩
  have HA := Aside0.mk (blk_new w1 (.cells (av false kA) 25))
  have HW := Aside0.mk (below_alloc (below_step (below_alloc (Below.refl w.heap.size w) _) hB) (.cells (av false kA) 25))
  have HST := Aside0.mk (store_new w1 rfl (v := false) (u := false) (bs := kA) rfl zs16)
  have HLD := Aside0.mk (load_addr (bs := kA) rfl HA.out)
  clear hB OF
  go_wp2_with (first | ((with_reducible refine gate_store (t := 25) (p := 1) (v := .tmp 10) rfl ?_); refine event_skip rfl (exec_store rfl rfl rfl HST.out) ?_) | ((with_reducible refine gate_dst (N := 13) rfl ?_); refine Kd.event_run rfl (exec_load rfl rfl HLD.out) ?_))
  refine (Mask_any false kA 12 _ rfl kA_all (by decide) (by decide)).mono ?_
  rw [k_mask.1, k_mask.2.1, k_mask.2.2]
  rintro e w2 ⟨rfl, hB⟩
  replace HA := Aside0.mk (blk_alloc (blk_below HA.out hB) (.cells (av false kM) 25))
  have HM := Aside0.mk (blk_new w2 (.cells (av false kM) 25))
  replace HW := Aside0.mk (below_alloc (below_step HW.out hB) (.cells (av false kM) 25))
  replace HST := Aside0.mk (store_new w2 rfl (v := false) (u := false) (bs := kM) rfl zs16)
  replace HLD := Aside0.mk (load_addr (bs := kM) rfl HM.out)
  clear hB
  go_wp2_with (first | ((with_reducible refine gate_store (t := 25) (p := 3) (v := .tmp 15) rfl ?_); refine event_skip rfl (exec_store rfl rfl rfl HST.out) ?_) | ((with_reducible refine gate_dst (N := 18) rfl ?_); refine Kd.event_run rfl (exec_load rfl rfl HLD.out) ?_))
  refine (Bytes_any false kM _ rfl).mono ?_
  rw [k_bytes.1, k_bytes.2]
  rintro e w3 ⟨r, rfl, hO, hB⟩
  replace HA := Aside0.mk (blk_below HA.out hB)
  replace HM := Aside0.mk (blk_below HM.out hB)
  replace HW := Aside0.mk (below_step HW.out hB)
  obtain ⟨A, c, rfl, _, hr⟩ := hO.reads (by decide)
  have k0 := Kd.C_string (P := Try.prog) Try.underlying22 Try.underlying5 Try.underlying9 (c := c) hr
  have k1 : (convert 22 9 (.slice A 4 c)).run Try.prog w3 = .ok (.string ⟨#[10, 0, 0, 0]⟩) w3 := k0
  have HLA := Aside0.mk (load_addr (bs := kA) rfl HA.out)
  have HLM := Aside0.mk (load_addr (bs := kM) rfl HM.out)
  clear hB hO hr HST HLD k0
  go_wp2_with (first | ((with_reducible refine gate_dst (N := 38) rfl ?_); refine gate_guard (by rfl) ?_; refine Kd.event_run rfl (exec_load rfl rfl HLA.out) ?_) | ((with_reducible refine gate_dst (N := 39) rfl ?_); refine gate_guard (by rfl) ?_; refine Kd.event_run rfl (exec_load rfl rfl HLM.out) ?_))
  refine (Within_any false kA false kM 12 _ rfl kA_all rfl kM_all (by decide) (by decide)).mono ?_
  rw [k_wi]
  rintro e w4 ⟨rfl, hB⟩
  replace HLA := Aside0.mk (load_addr (bs := kA) rfl (blk_below HA.out hB))
  replace HLM := Aside0.mk (load_addr (bs := kM) rfl (blk_below HM.out hB))
  replace HW := Aside0.mk (below_step HW.out hB)
  clear hB k1
  go_wp2_with (first | ((with_reducible refine gate_dst (N := 43) rfl ?_); refine gate_guard (by rfl) ?_; refine Kd.event_run rfl (exec_load rfl rfl HLM.out) ?_) | ((with_reducible refine gate_dst (N := 44) rfl ?_); refine gate_guard (by rfl) ?_; refine Kd.event_run rfl (exec_load rfl rfl HLA.out) ?_))
  refine (Less_any false kM false kA _ rfl rfl).mono ?_
  rw [k_less]
  rintro e w5 ⟨rfl, hB⟩
  replace HW := Aside0.mk (below_step HW.out hB)
  clear hB
  go_wp2_with fail
  go_ret
  exact ⟨rfl, HW.out⟩
end Go.Proofs.Ytfnpjfcfgilchaa.AddrW
