/- Addresses: the first bits alone. -/
import Derived.Test.YtfnpjfcfgilchaaAddrW11
import Derived.Test.YtfnpjfcfgilchaaWGuard
import Derived.StillTailTactics
namespace Go.Proofs.Ytfnpjfcfgilchaa.AddrW
open Go.RowKit Go.Proofs.Ytfnpjfcfgilchaa.AddrM Go.Proofs.Ytfnpjfcfgilchaa.Bits Go.Proofs.Ytfnpjfcfgilchaa.Help Go.Proofs.YtfnpjfcfgilchaaW.PrintWords Go.Proofs.YtfnpjfcfgilchaaW.PrintLast Go.Proofs.YtfnpjfcfgilchaaW.PrintMore
set_option linter.unusedVariables false
set_option linter.unusedSimpArgs false
def okM (v : Bool) (bs : List Int) (n : Int) : Prop := rightB v bs = true ∧ 0 ≤ n ∧ n ≤ 8 * (sz v : Int)
instance (v : Bool) (bs : List Int) (n : Int) : Decidable (okM v bs n) := by unfold okM; infer_instance
def mV (v : Bool) (bs : List Int) (n : Int) : Bool := if okM v bs n then v else false
def mB (v : Bool) (bs : List Int) (n : Int) : List Int := if okM v bs n then maskL bs n.toNat else zs 16
def mE (v : Bool) (bs : List Int) (n : Int) : Int := if okM v bs n then 0 else 1
theorem sz_int (v : Bool) : 8 * (sz v : Int) ≤ 128 := by cases v <;> decide
theorem mB_len (v : Bool) (bs : List Int) (n : Int) : (mB v bs n).length = 16 := by unfold mB; split; exact mask_len _ _; exact zs16
theorem mB_all (v : Bool) {bs : List Int} (h : AllB bs) (n : Int) : AllB (mB v bs n) := by
  unfold mB; split
  · exact mask_all h _
  · intro x hx; simp [zs] at hx; omega
/-- An address stored over another one: the block, and what else stays. -/
theorem stored {w W : World} {g : Nat} {v u : Bool} {bs cs : List Int} (hl : bs.length = 16) (hm : cs.length = 16) (hg : w.heap.size ≤ g) (hB : Below w.heap.size w W) (hb : W.heap[g]? = some (.cells (av u cs) 25 (0, 0))) :
    ∃ W1, (storeVar 25 ⟨g, 0, none⟩ (.agg (av v bs))).run Try.prog W = .ok () W1 ∧ W1.heap[g]? = some (.cells (av v bs) 25 (0, 0)) ∧ Below w.heap.size w W1 ∧ W.grownBy W1 (some g) :=
  ⟨_, store_addr hl hm hb, setRow_heap _ _ _ _ _ _ hb, hB.grown (World.grownBy_setRow' _ _ _) hB.size (fun k hk => by cases hk; exact hg), World.grownBy_setRow' _ _ _⟩
section
variable {P : Program} {Q : Exit → Act → World → Prop} {a : Act} {w : World} {l : List Oper}
/-- A drawn region whose last operations wait for all the others: in a world of which F is known. -/
theorem region_tail {id : Nat} (F : World → Prop) (n : Nat) (hm : P.follows .mixedOrders = true) (hB : Region.lexTailB .any l.toArray n = true) (hF : F w.drew)
    (h : ∀ W, F W → wpStill P l.toArray W (fun a' => wpList P l.toArray Q (l.drop n) a' W) (l.take n) a) : (Code.region id l.toArray true).wp P Q a w :=
  wp_region_still_tail n hm hB (h _ hF)
end
/-- What Mask has in memory. -/
structure MF (w W : World) (g : Nat) (v : Bool) (bs ms : List Int) : Prop where
  a : W.heap[w.heap.size]? = some (.cells (av v bs) 25 (0, 0))
  z : W.heap[w.heap.size + 1]? = some (.cells (av false (zs 16)) 25 (0, 0))
  m : W.heap[g]? = some (.cells (av v ms) 25 (0, 0))
  b : Below w.heap.size w W
  g : w.heap.size + 2 ≤ g
theorem MF.drew {w W : World} {g : Nat} {v : Bool} {bs ms : List Int} (h : MF w W g v bs ms) : MF w W.drew g v bs ms := ⟨h.a, h.z, h.m, Below.drew h.b, h.g⟩
theorem MF.turn {w W W1 : World} {g : Nat} {v : Bool} {bs ms ms1 : List Int} (h : MF w W g v bs ms) (hm : W1.heap[g]? = some (.cells (av v ms1) 25 (0, 0))) (hg : W.grownBy W1 (some g)) : MF w W1 g v bs ms1 :=
  have := h.g
  ⟨blk_grown h.a hg (by simp; omega), blk_grown h.z hg (by simp; omega), hm, h.b.grown hg h.b.size (fun k hk => by cases hk; omega), h.g⟩
/-- The first q bytes copied. -/
theorem copy_head {w W : World} {g : Nat} {v : Bool} {bs : List Int} (hl : bs.length = 16) (ha : AllB bs) (h : MF w W g v bs (zs 16)) (q : Nat) (hq : q ≤ 16) :
    ∃ W1, (Builtin.copy_ #[22, 22] 3 #[.slice (some ⟨g, 1, none⟩) q 16, .slice (some ⟨w.heap.size, 1, none⟩) q 16]).run Try.prog W = .ok (.int .i64 (q : Int)) W1 ∧ MF w W1 g v bs (maskL bs (8 * q)) := by
  have hlt : (bs.take q).length = q := by rw [List.length_take, hl]; exact Nat.min_eq_left hq
  obtain ⟨w1, h1, ⟨cs', h2, h3⟩, h4⟩ := copy_reads (P := Try.prog) (dT := 22) (sT := 22) (ty := 3) (dLen := q) (dCap := 16) (c := 16) (o := 1) Try.underlying22 info_b h.m (reads_head hl h.a q hq) (m := q) (by rw [hlt]; exact (Nat.min_self q).symm) (by simp [av, nums, zs]; omega)
  rw [hlt] at h1
  refine ⟨w1, h1, h.turn ?_ h4⟩
  have e : cs' = av v (maskL bs (8 * q)) := Array.ext' (by
    have := av_splice v (bs.take q) (by omega)
    rw [hlt] at this
    rw [h3, List.take_of_length_le (by omega), this, mask_whole ha hl q hq]; rfl)
  rw [h2, e]
theorem mask_store {w W : World} {g : Nat} {v : Bool} {bs ms : List Int} (h : MF w W g v bs ms) (j : Nat) (x : Int) : MF w (W.setCell ⟨g, 1 + j, none⟩ (.int .u8 x)) g v bs (ms.set j x) :=
  h.turn (by rw [blk_set h.m, av_set]) (setCells_grown W g [Value.int .u8 x] (1 + j))
set_option maxHeartbeats 2000000 in
theorem Mask_any (v : Bool) (bs : List Int) (n : Int) (w : World) (hl : bs.length = 16) (ha : AllB bs) (hn0 : -9223372036854775808 ≤ n) (hn1 : n ≤ 9223372036854775807) :
    Calls Try.prog 20 #[.agg (av v bs), .int .i64 n] w fun e w' => e = .returned (.tuple #[.agg (av (mV v bs n) (mB v bs n)), .int .i64 (mE v bs n)]) ∧ Below w.heap.size w w' := by
  have hb : ((w.alloc (.cells (av v bs) 25)).alloc (.cells (av false (zs 16)) 25)).heap[w.heap.size]? = some (.cells (av v bs) 25 (0, 0)) := blk_alloc (blk_new w _) _
  have hz : ((w.alloc (.cells (av v bs) 25)).alloc (.cells (av false (zs 16)) 25)).heap[w.heap.size + 1]? = some (.cells (av false (zs 16)) 25 (0, 0)) := blk_new_at (Array.size_push _).symm
  have HW := Aside0.mk (show Below w.heap.size w ((w.alloc (.cells (av v bs) 25)).alloc (.cells (av false (zs 16)) 25)) from below_alloc (below_alloc (Below.refl _ _) _) _)
  have HB := Aside0.mk hb
  have HZ := Aside0.mk hz
  have HL := Aside0.mk hl
  have HA := Aside0.mk ha
  have HLD := Aside0.mk (load_addr hl hb)
  clear hb hz hl ha
  go_enter Try.func20, Try.ntmps20
  go_wp2_with ((with_reducible refine gate_dst (N := 9) rfl ?_); refine Kd.event_run rfl (exec_load rfl rfl HLD.out) ?_)
  refine (Right_any v bs _ HL.out).mono ?_
  rintro e w1 ⟨rfl, hB⟩
  replace HB := Aside0.mk (blk_below HB.out hB)
  replace HZ := Aside0.mk (blk_below HZ.out hB)
  replace HW := Aside0.mk (below_step HW.out hB)
  clear HLD hB
  obtain ⟨W1, hst, hz1, hW1, -⟩ := stored (v := false) (bs := zs 16) zs16 zs16 (Nat.le_succ _) HW.out HZ.out
  have HST := Aside0.mk hst
  have HZ1 := Aside0.mk hz1
  have HW1 := Aside0.mk hW1
  clear hst hz1 hW1
  by_cases hr : rightB v bs = true
  · by_cases h0 : n < 0
    · have EN : Aside0 (¬ okM v bs n) := ⟨fun h => by have := h.2.1; omega⟩
      have d0 : decide (n < 0) = true := by simpa using h0
      rw [hr]
      clear hr h0
      go_wp2_with ((with_reducible refine gate_store (t := 25) (p := 4) (v := .tmp 23) rfl ?_); refine event_skip rfl (exec_store rfl rfl rfl HST.out) ?_)
      refine bodyPost_ret (results_addr (v := false) (bs := zs 16) rfl _ _ (w.heap.size + 1) zs16 rfl HZ1.out) rfl ?_
      exact ⟨by rw [mV, mB, mE, if_neg EN.out, if_neg EN.out, if_neg EN.out]; rfl, HW1.out⟩
    · have d0 : decide (n < 0) = false := by simpa using h0
      have HLD := Aside0.mk (load_addr HL.out HB.out)
      rw [hr]
      go_wp2_with ((with_reducible refine gate_dst (N := 18) rfl ?_); refine gate_guard (by rfl) ?_; refine Kd.event_run rfl (exec_load rfl rfl HLD.out) ?_)
      refine (size_any v bs _).mono ?_
      rintro e w2 ⟨rfl, hB⟩
      replace HB := Aside0.mk (blk_below HB.out hB)
      replace HZ := Aside0.mk (blk_below HZ.out hB)
      replace HW := Aside0.mk (below_step HW.out hB)
      clear HLD hB HST HZ1 HW1 W1
      have hs := sz_int v
      by_cases h1 : n > 8 * (sz v : Int)
      · have EN : Aside0 (¬ okM v bs n) := ⟨fun h => by have := h.2.2; omega⟩
        have d1 : decide (8 * (sz v : Int) < n) = true := by simpa using h1
        obtain ⟨W1, hst, hz1, hW1, -⟩ := stored (v := false) (bs := zs 16) zs16 zs16 (Nat.le_succ _) HW.out HZ.out
        have HST := Aside0.mk hst
        have HZ1 := Aside0.mk hz1
        have HW1 := Aside0.mk hW1
        clear hst hz1 hW1 hr h0 h1
        go_wp2_with ((with_reducible refine gate_store (t := 25) (p := 4) (v := .tmp 23) rfl ?_); refine event_skip rfl (exec_store rfl rfl rfl HST.out) ?_)
        refine bodyPost_ret (results_addr (v := false) (bs := zs 16) rfl _ _ (w.heap.size + 1) zs16 rfl HZ1.out) rfl ?_
        exact ⟨by rw [mV, mB, mE, if_neg EN.out, if_neg EN.out, if_neg EN.out]; rfl, HW1.out⟩
      · have EN : Aside0 (okM v bs n) := ⟨hr, by omega, by omega⟩
        have d1 : decide (8 * (sz v : Int) < n) = false := by simpa using h1
        obtain ⟨k, rfl⟩ : ∃ k : Nat, n = k := ⟨n.toNat, by omega⟩
        have hk : k ≤ 128 := by omega
        have hg2 : w.heap.size + 2 ≤ w2.heap.size := blk_lt HZ.out
        have hc := (blk_cell HB.out 0).trans (av_at0 v bs)
        have HST := Aside0.mk (store_new w2 rfl (v := v) (u := false) zs16 zs16)
        have HM : Aside0 (MF w (w2.alloc (.cells (av v (zs 16)) 25)) w2.heap.size v bs (zs 16)) := ⟨⟨blk_alloc HB.out _, blk_alloc HZ.out _, blk_new w2 _, below_alloc HW.out _, hg2⟩⟩
        clear HB HZ HW h1 h0 hr hg2
        go_upto_region 5 with ((with_reducible refine gate_store (t := 25) (p := 6) (v := .tmp 26) rfl ?_); refine event_skip rfl (exec_store rfl rfl rfl HST.out) ?_)
        have hq8 : ((k : Int) / 8) ≤ 16 := by omega
        have hq0 : (0 : Int) ≤ ((k : Int) / 8) := by omega
        have hqn : ((k : Int) / 8).toNat = k / 8 := by omega
        generalize hgg : w2.heap.size = g at *
        refine region_tail (fun W => MF w W g v bs (zs 16)) 6 (by kernel_rfl) (by kernel_rfl) HM.out.drew ?_
        clear HM HST hgg w2 hc
        intro W hM
        obtain ⟨W1, hcp, hM1⟩ := copy_head HL.out HA.out hM (k / 8) (by omega)
        have HCP := Aside0.mk hcp
        have HM1 := Aside0.mk hM1
        clear hM hcp hM1
        simp only [List.take_succ_cons, List.take_zero, List.drop_succ_cons, List.drop_zero]
        repeat still_step
        refine wpStill_nil ?_
        by_cases h8 : k % 8 = 0
        · have e8 : decide (0 < (k : Int) % 8) = false := by simp; omega
          have hfin : maskL bs (8 * (k / 8)) = maskL bs ((k : Int)).toNat := by congr 1; omega
          have hm := HM1.out
          rw [hfin] at hm
          have HLD := Aside0.mk (load_addr (mask_len _ _) hm.m)
          obtain ⟨W2, hst, hz2, hW2, -⟩ := stored (v := v) (bs := maskL bs ((k : Int)).toNat) (mask_len _ _) zs16 (Nat.le_succ _) hm.b hm.z
          have HST := Aside0.mk hst
          have HZ2 := Aside0.mk hz2
          have HW2 := Aside0.mk hW2
          clear hm hst hz2 hW2 hfin h8 HM1
          go_wp2_with (first | ((with_reducible refine gate_dst (N := 35) rfl ?_); refine Kd.event_run rfl (exec_copy rfl rfl rfl HCP.out) ?_) | ((with_reducible refine gate_dst (N := 50) rfl ?_); refine Kd.event_run rfl (exec_load rfl rfl HLD.out) ?_) | ((with_reducible refine gate_store (t := 25) (p := 4) (v := .tmp 50) rfl ?_); refine event_skip rfl (exec_store rfl rfl rfl HST.out) ?_))
          refine bodyPost_ret (results_addr (v := v) (bs := maskL bs ((k : Int)).toNat) rfl _ _ (w.heap.size + 1) (mask_len _ _) rfl HZ2.out) rfl ?_
          exact ⟨by rw [mV, mB, mE, if_pos EN.out, if_pos EN.out, if_pos EN.out]; rfl, HW2.out⟩
        · have e8 : decide (0 < (k : Int) % 8) = true := by simp; omega
          go_upto_region 8 with ((with_reducible refine gate_dst (N := 35) rfl ?_); refine Kd.event_run rfl (exec_copy rfl rfl rfl HCP.out) ?_)
          refine region_tail (fun W => MF w W g v bs (maskL bs (8 * (k / 8)))) 10 (by kernel_rfl) (by kernel_rfl) HM1.out.drew ?_
          clear HM1 HCP W1 W
          intro W hM
          have hk2 : k < 128 := by omega
          have hq16 : ((k : Int) / 8) < 16 := by omega
          have ca : W.cell? ⟨w.heap.size, 1 + k / 8, none⟩ = some (.int .u8 (bs.getD (k / 8) 0)) := (blk_cell hM.a _).trans (av_at v (by have := HL.out; omega))
          have cm : W.cell? ⟨g, 1 + k / 8, none⟩ = some (.int .u8 ((maskL bs (8 * (k / 8))).getD (k / 8) 0)) := (blk_cell hM.m _).trans (av_at v (by rw [mask_len]; omega))
          have fm : W.frozen? ⟨g, 1 + k / 8, none⟩ = false := blk_frozen hM.m _
          obtain ⟨x, hx⟩ := byte_of (getD_b HA.out (k / 8))
          have hnot : bits .andNot .u8 (bs.getD (k / 8) 0) (255 / 2 ^ ((k : Int) % 8).toNat) = bm (bs.getD (k / 8) 0) (k % 8) := by rw [show ((k : Int) % 8).toNat = k % 8 by omega, hx]; exact not_step x ⟨k % 8, by omega⟩
          have hset := mask_rest HA.out k hk2 (by omega)
          have hm := mask_store hM (k / 8) (bm (bs.getD (k / 8) 0) (k % 8))
          rw [hset] at hm
          have HM1 := Aside0.mk hm
          clear hm hM hset h8 hk2 hx x
          generalize (maskL bs (8 * (k / 8))).getD (k / 8) 0 = y at *
          generalize bm (bs.getD (k / 8) 0) (k % 8) = z at *
          generalize bs.getD (k / 8) 0 = x at *
          simp only [List.take_succ_cons, List.take_zero, List.drop_succ_cons, List.drop_zero]
          repeat still_step
          refine wpStill_nil ?_
          have HLD := Aside0.mk (load_addr (mask_len _ _) HM1.out.m)
          obtain ⟨W2, hst, hz2, hW2, -⟩ := stored (v := v) (bs := maskL bs k) (mask_len _ _) zs16 (Nat.le_succ _) HM1.out.b HM1.out.z
          have HST := Aside0.mk hst
          have HZ2 := Aside0.mk hz2
          have HW2 := Aside0.mk hW2
          clear hst hz2 hW2 HM1
          go_wp2_with (first | ((with_reducible refine gate_dst (N := 50) rfl ?_); refine Kd.event_run rfl (exec_load rfl rfl HLD.out) ?_) | ((with_reducible refine gate_store (t := 25) (p := 4) (v := .tmp 50) rfl ?_); refine event_skip rfl (exec_store rfl rfl rfl HST.out) ?_))
          refine bodyPost_ret (results_addr (v := v) (bs := maskL bs k) rfl _ _ (w.heap.size + 1) (mask_len _ _) rfl HZ2.out) rfl ?_
          exact ⟨by rw [mV, mB, mE, if_pos EN.out, if_pos EN.out, if_pos EN.out]; rfl, HW2.out⟩
  · have EN : Aside0 (¬ okM v bs n) := ⟨fun h => hr h.1⟩
    have hr' : rightB v bs = false := by simpa using hr
    rw [hr']
    clear hr hr'
    go_wp2_with ((with_reducible refine gate_store (t := 25) (p := 4) (v := .tmp 23) rfl ?_); refine event_skip rfl (exec_store rfl rfl rfl HST.out) ?_)
    refine bodyPost_ret (results_addr (v := false) (bs := zs 16) rfl _ _ (w.heap.size + 1) zs16 rfl HZ1.out) rfl ?_
    exact ⟨by rw [mV, mB, mE, if_neg EN.out, if_neg EN.out, if_neg EN.out]; rfl, HW1.out⟩
end Go.Proofs.Ytfnpjfcfgilchaa.AddrW
