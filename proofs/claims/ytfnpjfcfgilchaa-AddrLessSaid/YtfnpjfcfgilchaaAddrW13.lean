/- Addresses: the first bits alone (the reference's). -/
import Derived.Test.YtfnpjfcfgilchaaAddrW12
import Derived.IntWalk
import Derived.Test.YtfnpjfcfgilchaaRegionF
namespace Go.Proofs.Ytfnpjfcfgilchaa.AddrW
open Go.RowKit Go.Proofs.Ytfnpjfcfgilchaa.AddrM Go.Proofs.Ytfnpjfcfgilchaa.Bits Go.Proofs.Ytfnpjfcfgilchaa.Help Go.Proofs.YtfnpjfcfgilchaaW.PrintWords Go.Proofs.YtfnpjfcfgilchaaW.PrintLast Go.Proofs.YtfnpjfcfgilchaaW.PrintMore
set_option linter.unusedVariables false
set_option linter.unusedSimpArgs false
theorem MF.below {w W W1 : World} {g : Nat} {v : Bool} {bs ms : List Int} (h : MF w W g v bs ms) (hB : Below W.heap.size W W1) : MF w W1 g v bs ms := ⟨blk_below h.a hB, blk_below h.z hB, blk_below h.m hB, below_step h.b hB, h.g⟩
set_option maxHeartbeats 20000000 in
theorem RefMask_any (v : Bool) (bs : List Int) (n : Int) (w : World) (hl : bs.length = 16) (ha : AllB bs) (hn0 : -9223372036854775808 ≤ n) (hn1 : n ≤ 9223372036854775807) :
    Calls Try.prog 21 #[.agg (av v bs), .int .i64 n] w fun e w' => e = .returned (.tuple #[.agg (av (mV v bs n) (mB v bs n)), .int .i64 (mE v bs n)]) ∧ Below w.heap.size w w' := by
  have hb : ((w.alloc (.cells (av v bs) 25)).alloc (.cells (av false (zs 16)) 25)).heap[w.heap.size]? = some (.cells (av v bs) 25 (0, 0)) := blk_alloc (blk_new w _) _
  have hz : ((w.alloc (.cells (av v bs) 25)).alloc (.cells (av false (zs 16)) 25)).heap[w.heap.size + 1]? = some (.cells (av false (zs 16)) 25 (0, 0)) := blk_new_at (Array.size_push _).symm
  have HW := Aside0.mk (show Below w.heap.size w ((w.alloc (.cells (av v bs) 25)).alloc (.cells (av false (zs 16)) 25)) from below_alloc (below_alloc (Below.refl _ _) _) _)
  have HB := Aside0.mk hb
  have HZ := Aside0.mk hz
  have HL := Aside0.mk hl
  have HA := Aside0.mk ha
  have HLD := Aside0.mk (load_addr hl hb)
  clear hb hz hl ha
  go_enter Try.func21, Try.ntmps21
  go_wp2_with ((with_reducible refine gate_dst (N := 8) rfl ?_); refine Kd.event_run rfl (exec_load rfl rfl HLD.out) ?_)
  refine (refRight_any v bs _ HL.out).mono ?_
  rintro e w1 ⟨rfl, hB⟩
  replace HB := Aside0.mk (blk_below HB.out hB)
  replace HZ := Aside0.mk (blk_below HZ.out hB)
  replace HW := Aside0.mk (below_step HW.out hB)
  clear HLD hB
  obtain ⟨W1, hst, hz1, hW1, -⟩ := stored (v := false) (bs := zs 16) zs16 zs16 (Nat.le_succ _) HW.out HZ.out
  have HST := Aside0.mk hst
  have HZ1 := Aside0.mk hz1
  have HW1 := Aside0.mk hW1
  clear hst hz1 hW1
  by_cases hr : rightB v bs = true
  · by_cases h0 : n < 0
    · have EN : Aside0 (¬ okM v bs n) := ⟨fun h => by have := h.2.1; omega⟩
      have d0 : decide (n < 0) = true := by simpa using h0
      rw [hr]
      clear hr h0
      go_wp2_with ((with_reducible refine gate_store (t := 25) (p := 4) (v := .tmp 22) rfl ?_); refine event_skip rfl (exec_store rfl rfl rfl HST.out) ?_)
      refine bodyPost_ret (results_addr (v := false) (bs := zs 16) rfl _ _ (w.heap.size + 1) zs16 rfl HZ1.out) rfl ?_
      exact ⟨by rw [mV, mB, mE, if_neg EN.out, if_neg EN.out, if_neg EN.out]; rfl, HW1.out⟩
    · have d0 : decide (n < 0) = false := by simpa using h0
      have HLD := Aside0.mk (load_addr HL.out HB.out)
      rw [hr]
      go_wp2_with ((with_reducible refine gate_dst (N := 17) rfl ?_); refine gate_guard (by rfl) ?_; refine Kd.event_run rfl (exec_load rfl rfl HLD.out) ?_)
      refine (refsize_any v bs _).mono ?_
      rintro e w2 ⟨rfl, hB⟩
      replace HB := Aside0.mk (blk_below HB.out hB)
      replace HZ := Aside0.mk (blk_below HZ.out hB)
      replace HW := Aside0.mk (below_step HW.out hB)
      clear HLD hB HST HZ1 HW1 W1
      have hs := sz_int v
      by_cases h1 : n > 8 * (sz v : Int)
      · have EN : Aside0 (¬ okM v bs n) := ⟨fun h => by have := h.2.2; omega⟩
        have d1 : decide (8 * (sz v : Int) < n) = true := by simpa using h1
        obtain ⟨W1, hst, hz1, hW1, -⟩ := stored (v := false) (bs := zs 16) zs16 zs16 (Nat.le_succ _) HW.out HZ.out
        have HST := Aside0.mk hst
        have HZ1 := Aside0.mk hz1
        have HW1 := Aside0.mk hW1
        clear hst hz1 hW1 hr h0 h1
        go_wp2_with ((with_reducible refine gate_store (t := 25) (p := 4) (v := .tmp 22) rfl ?_); refine event_skip rfl (exec_store rfl rfl rfl HST.out) ?_)
        refine bodyPost_ret (results_addr (v := false) (bs := zs 16) rfl _ _ (w.heap.size + 1) zs16 rfl HZ1.out) rfl ?_
        exact ⟨by rw [mV, mB, mE, if_neg EN.out, if_neg EN.out, if_neg EN.out]; rfl, HW1.out⟩
      · have EN : Aside0 (okM v bs n) := ⟨hr, by omega, by omega⟩
        have d1 : decide (8 * (sz v : Int) < n) = false := by simpa using h1
        obtain ⟨k, rfl⟩ : ∃ k : Nat, n = k := ⟨n.toNat, by omega⟩
        have hk : k ≤ 128 := by omega
        have hg2 : w.heap.size + 2 ≤ w2.heap.size := blk_lt HZ.out
        have hc := (blk_cell HB.out 0).trans (av_at0 v bs)
        have HST := Aside0.mk (store_new w2 rfl (v := v) (u := false) zs16 zs16)
        have HM : Aside0 (MF w (w2.alloc (.cells (av v (zs 16)) 25)) w2.heap.size v bs (zs 16)) := ⟨⟨blk_alloc HB.out _, blk_alloc HZ.out _, blk_new w2 _, below_alloc HW.out _, hg2⟩⟩
        clear HB HZ HW h1 h0 hr hg2
        replace HM : Aside0 (MF w (w2.alloc (.cells (av v (zs 16)) 25)) w2.heap.size v bs (maskL bs 0)) := by rw [mask_zero HA.out]; exact HM
        go_wp2_with ((with_reducible refine gate_store (t := 25) (p := 6) (v := .tmp 25) rfl ?_); refine event_skip rfl (exec_store rfl rfl rfl HST.out) ?_)
        have HK8 := Aside0.mk hs
        clear hs
        generalize hgg : w2.heap.size = g at *
        go_loopg [7] k (fun kq v7 w' => ∃ i : Nat, Aside0 (kq + i = k) ∧ v7 = .int .i64 (i : Int) ∧ Aside0 (MF w w' g v bs (maskL bs i)))
        case atStart => exact ⟨0, ⟨by simp⟩, rfl, HM⟩
        case round =>
          clear HM HST hgg hc w2
          obtain ⟨i, HK, rfl, HM⟩ := hrel
          cases gk with
          | zero =>
            have hi : i = k := by have := HK.out; omega
            subst hi
            have hlt : decide ((i : Int) < (i : Int)) = false := by simp
            have HLD := Aside0.mk (load_addr (mask_len _ _) HM.out.m)
            obtain ⟨W2, hst, hz2, hW2, -⟩ := stored (v := v) (bs := maskL bs i) (mask_len _ _) zs16 (Nat.le_succ _) HM.out.b HM.out.z
            have HST := Aside0.mk hst
            have HZ2 := Aside0.mk hz2
            have HW2 := Aside0.mk hW2
            clear hst hz2 hW2 HM
            go_wp2_with (first | ((with_reducible refine gate_dst (N := 49) rfl ?_); refine Kd.event_run rfl (exec_load rfl rfl HLD.out) ?_) | ((with_reducible refine gate_store (t := 25) (p := 4) (v := .tmp 49) rfl ?_); refine event_skip rfl (exec_store rfl rfl rfl HST.out) ?_))
            refine bodyPost_ret (results_addr (v := v) (bs := maskL bs i) rfl _ _ (w.heap.size + 1) (mask_len _ _) rfl HZ2.out) rfl ?_
            exact ⟨by rw [mV, mB, mE, if_pos EN.out, if_pos EN.out, if_pos EN.out]; rfl, HW2.out⟩
          | succ kq =>
            have hi : i < k := by have := HK.out; omega
            have hlt : decide ((i : Int) < (k : Int)) = true := by simp; omega
            have h16 : (i : Int) / 8 < 16 := by omega
            have h160 : (0 : Int) ≤ (i : Int) / 8 := by omega
            have h8a : (0 : Int) ≤ (i : Int) % 8 := by omega
            have h8b : (i : Int) % 8 < 8 := by omega
            have hw1 : IntKind.i64.wrap ((i : Int) / 8) = (i : Int) / 8 := IntWalk.i64_in _ (by omega)
            have hw2 : (i : Int).tmod 8 = (i : Int) % 8 := Int.tmod_eq_emod_of_nonneg (by omega)
            have hw4 : IntKind.u64.wrap (7 - (i : Int) % 8) = 7 - (i : Int) % 8 := wrap_u64_id (by omega) (by omega)
            have hn2 : (7 - (i : Int) % 8).toNat = 7 - i % 8 := by omega
            have hw3 : IntKind.i64.wrap (7 - (i : Int) % 8) = 7 - (i : Int) % 8 := IntWalk.i64_in _ (by omega)
            have hn1 : ((i : Int) / 8).toNat = i / 8 := by omega
            have HM1 := Aside0.mk HM.out.drew
            clear HM
            go_upto_region 7 with fail
            have hB8 : i < 128 := by have := HK8.out; omega
            obtain ⟨y, hy⟩ : ∃ y, (maskL bs i).getD (i / 8) 0 = y := ⟨_, rfl⟩
            obtain ⟨z, hz⟩ : ∃ z, bitN (bs.getD (i / 8) 0) (i % 8) = z := ⟨_, rfl⟩
            have HC : Aside0 (∀ W : World, MF w W g v bs (maskL bs i) → W.cell? ⟨g, 1 + i / 8, none⟩ = some (.int .u8 y)) := ⟨fun W hW => by rw [← hy]; exact (blk_cell hW.m _).trans (av_at v (by rw [mask_len]; omega))⟩
            have HBit : Aside0 (∀ W : World, Calls Try.prog 39 #[.agg (av v bs), .int .i64 (i : Int)] W fun e w' => e = .returned (.int .u8 z) ∧ Below W.heap.size W w') := ⟨fun W => hz ▸ Bit_any v bs i W HL.out hB8⟩
            obtain ⟨x, hx⟩ := byte_of (getD_b HA.out (i / 8))
            have hor : bits .or .u8 y (IntKind.u8.wrap (z * 2 ^ (7 - i % 8))) = bm (bs.getD (i / 8) 0) (i % 8 + 1) := by
              rw [← hy, ← hz, mask_getD _ _ (by omega), show i - 8 * (i / 8) = i % 8 by omega, hx]
              exact or_step x ⟨i % 8, by omega⟩
            have HS : Aside0 ((maskL bs i).set (i / 8) (bm (bs.getD (i / 8) 0) (i % 8 + 1)) = maskL bs (i + 1)) := ⟨mask_succ HA.out i hB8⟩
            clear hy hz hx x
            generalize bm (bs.getD (i / 8) 0) (i % 8 + 1) = x at *
            refine RegionF.region_F (F := (fun W => MF w W g v bs (maskL bs i))) 18 (by kernel_rfl) (by kernel_rfl) HM1.out ?_
            simp only [List.take_succ_cons, List.take_zero, List.drop_succ_cons, List.drop_zero]
            clear HM1
            apply RegionF.wpF_step
            · rfl
            · (intro W hW; go_simp; exact RegionF.GivesF.value rfl hW)
            refine RegionF.wpF_put (fun K' hK' => ?_)
            go_simp
            refine hK' _ ?_
            clear hK' K'
            apply RegionF.wpF_step
            · rfl
            · (intro W hW; go_simp; exact RegionF.GivesF.value rfl hW)
            refine RegionF.wpF_put (fun K' hK' => ?_)
            go_simp
            refine hK' _ ?_
            clear hK' K'
            apply RegionF.wpF_step
            · rfl
            · (intro W hW; go_simp; exact RegionF.GivesF.value rfl hW)
            refine RegionF.wpF_put (fun K' hK' => ?_)
            go_simp
            refine hK' _ ?_
            clear hK' K'
            apply RegionF.wpF_step
            · rfl
            · (intro W hW; go_simp; exact RegionF.GivesF.value rfl hW)
            refine RegionF.wpF_put (fun K' hK' => ?_)
            go_simp
            refine hK' _ ?_
            clear hK' K'
            apply RegionF.wpF_step
            · rfl
            · (intro W hW; go_simp; exact RegionF.GivesF.value rfl hW)
            refine RegionF.wpF_put (fun K' hK' => ?_)
            go_simp
            refine hK' _ ?_
            clear hK' K'
            apply RegionF.wpF_step
            · rfl
            · (intro W hW; go_simp; exact RegionF.GivesF.value rfl hW)
            refine RegionF.wpF_put (fun K' hK' => ?_)
            go_simp
            refine hK' _ ?_
            clear hK' K'
            apply RegionF.wpF_step
            · rfl
            · (intro W hW; have hc := HC.out W hW; go_simp; exact RegionF.GivesF.value rfl hW)
            refine RegionF.wpF_put (fun K' hK' => ?_)
            go_simp
            refine hK' _ ?_
            clear hK' K'
            apply RegionF.wpF_step
            · rfl
            · (intro W hW; rw [exec_load rfl rfl (load_addr HL.out hW.a)]; exact RegionF.GivesF.value rfl hW)
            refine RegionF.wpF_put (fun K' hK' => ?_)
            go_simp
            refine hK' _ ?_
            clear hK' K'
            apply RegionF.wpF_step
            · rfl
            · (intro W hW; go_simp; exact RegionF.GivesF.value rfl hW)
            refine RegionF.wpF_put (fun K' hK' => ?_)
            go_simp
            refine hK' _ ?_
            clear hK' K'
            apply RegionF.wpF_step
            · rfl
            · (intro W hW; go_simp; exact RegionF.GivesF.enter ((HBit.out W).mono fun e w1 h => ⟨h.1, hW.below h.2⟩))
            refine RegionF.wpF_put (fun K' hK' => ?_)
            go_simp
            refine hK' _ ?_
            clear hK' K'
            apply RegionF.wpF_step
            · rfl
            · (intro W hW; go_simp; exact RegionF.GivesF.value rfl hW)
            refine RegionF.wpF_put (fun K' hK' => ?_)
            go_simp
            refine hK' _ ?_
            clear hK' K'
            apply RegionF.wpF_step
            · rfl
            · (intro W hW; go_simp; exact RegionF.GivesF.value rfl hW)
            refine RegionF.wpF_put (fun K' hK' => ?_)
            go_simp
            refine hK' _ ?_
            clear hK' K'
            apply RegionF.wpF_step
            · rfl
            · (intro W hW; go_simp; exact RegionF.GivesF.value rfl hW)
            refine RegionF.wpF_put (fun K' hK' => ?_)
            go_simp
            refine hK' _ ?_
            clear hK' K'
            apply RegionF.wpF_step
            · rfl
            · (intro W hW; go_simp; exact RegionF.GivesF.value rfl hW)
            refine RegionF.wpF_put (fun K' hK' => ?_)
            go_simp
            refine hK' _ ?_
            clear hK' K'
            apply RegionF.wpF_step
            · rfl
            · (intro W hW; go_simp; exact RegionF.GivesF.value rfl hW)
            refine RegionF.wpF_put (fun K' hK' => ?_)
            go_simp
            refine hK' _ ?_
            clear hK' K'
            apply RegionF.wpF_step
            · rfl
            · (intro W hW; go_simp; exact RegionF.GivesF.value rfl hW)
            refine RegionF.wpF_put (fun K' hK' => ?_)
            go_simp
            refine hK' _ ?_
            clear hK' K'
            apply RegionF.wpF_step
            · rfl
            · (intro W hW; go_simp; exact RegionF.GivesF.value rfl hW)
            refine RegionF.wpF_put (fun K' hK' => ?_)
            go_simp
            refine hK' _ ?_
            clear hK' K'
            apply RegionF.wpF_step
            · rfl
            · (intro W hW; go_simp; exact RegionF.GivesF.value rfl hW)
            refine RegionF.wpF_put (fun K' hK' => ?_)
            go_simp
            refine hK' _ ?_
            clear hK' K'
            refine RegionF.wpF_nil (fun W hW => ?_)
            have cm := HC.out W hW
            have fm : W.frozen? ⟨g, 1 + i / 8, none⟩ = false := blk_frozen hW.m _
            have hm := mask_store hW (i / 8) x
            rw [HS.out] at hm
            have HM3 := Aside0.mk hm
            clear hm hW HC HBit HS hor
            go_wp2_with fail
            go_roundg kq
            case measure => omega
            case rel => exact ⟨i + 1, ⟨by have := HK.out; omega⟩, rfl, HM3⟩
  · have EN : Aside0 (¬ okM v bs n) := ⟨fun h => hr h.1⟩
    have hr' : rightB v bs = false := by simpa using hr
    rw [hr']
    clear hr hr'
    go_wp2_with ((with_reducible refine gate_store (t := 25) (p := 4) (v := .tmp 22) rfl ?_); refine event_skip rfl (exec_store rfl rfl rfl HST.out) ?_)
    refine bodyPost_ret (results_addr (v := false) (bs := zs 16) rfl _ _ (w.heap.size + 1) zs16 rfl HZ1.out) rfl ?_
    exact ⟨by rw [mV, mB, mE, if_neg EN.out, if_neg EN.out, if_neg EN.out]; rfl, HW1.out⟩
end Go.Proofs.Ytfnpjfcfgilchaa.AddrW
