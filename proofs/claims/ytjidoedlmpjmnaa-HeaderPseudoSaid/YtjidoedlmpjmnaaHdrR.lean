/- Layer 4's fixed calls. -/
import Derived.Test.YtjidoedlmpjmnaaHdrY
import Derived.Test.YtjidoedlmpjmnaaHdrZ
import Derived.Test.YtjidoedlmpjmnaaAddrA
namespace Go.Proofs.Ytjidoedlmpjmnaa.Hdr
open Go.RowKit Go.Proofs.Ytjidoedlmpjmnaa.SumsP Go.Proofs.Ytjidoedlmpjmnaa.SumW Go.Proofs.Ytjidoedlmpjmnaa.Cur Go.Proofs.Ytjidoedlmpjmnaa.Own Go.Proofs.Ytjidoedlmpjmnaa.StepX Go.Proofs.Ytjidoedlmpjmnaa.AddrW Go.Proofs.Ytjidoedlmpjmnaa.Segs Go.Proofs.Ytjidoedlmpjmnaa.Mem Go.Proofs.Ytjidoedlmpjmnaa.AddrEq Go.Proofs.Ytjidoedlmpjmnaa.Bits Go.Proofs.Ytjidoedlmpjmnaa.Help Go.Proofs.YtjidoedlmpjmnaaW.PrintWords Go.Proofs.YtjidoedlmpjmnaaW.PrintLast Go.Proofs.YtjidoedlmpjmnaaW.PrintMore
set_option linter.unusedVariables false
set_option linter.unusedSimpArgs false
set_option maxRecDepth 20000
def kS : List Int := [10, 0, 0, 1, 0, 0, 0, 0, 0, 0, 0, 0, 0, 0, 0, 0]
def kD : List Int := [10, 0, 0, 2, 0, 0, 0, 0, 0, 0, 0, 0, 0, 0, 0, 0]
def kP0 : Pk := ⟨false, nA, nA, 17, 64, 0, 0, false, 0, [], []⟩
def kP1 : Pk := ⟨false, ⟨false, kS⟩, nA, 17, 64, 0, 0, false, 0, [], []⟩
def kP2 : Pk := ⟨false, ⟨false, kS⟩, ⟨false, kD⟩, 17, 64, 0, 0, false, 0, [], []⟩
def kB : List Int := [69, 0, 0, 20, 0, 0, 0, 0, 64, 17, 102, 215, 10, 0, 0, 1, 10, 0, 0, 2]
theorem kS_ok : AddrM.OkA kS := ⟨rfl, by unfold AddrM.AllB kS; decide⟩
theorem kD_ok : AddrM.OkA kD := ⟨rfl, by unfold AddrM.AllB kD; decide⟩
theorem kin (a : Int) (h : decide (-9223372036854775808 ≤ a ∧ a ≤ 9223372036854775807) = true) : In64 a := (of_decide_eq_true h : -9223372036854775808 ≤ a ∧ a ≤ 9223372036854775807)
theorem kP0_ok : OkP kP0 := ⟨nA_ok, nA_ok, kin _ rfl, kin _ rfl, kin _ rfl, kin _ rfl, kin _ rfl, fun x hx => (by cases hx), fun x hx => (by cases hx), by decide, by decide⟩
theorem kP1_ok : OkP kP1 := ⟨kS_ok, nA_ok, kin _ rfl, kin _ rfl, kin _ rfl, kin _ rfl, kin _ rfl, fun x hx => (by cases hx), fun x hx => (by cases hx), by decide, by decide⟩
theorem kP2_ok : OkP kP2 := ⟨kS_ok, kD_ok, kin _ rfl, kin _ rfl, kin _ rfl, kin _ rfl, kin _ rfl, fun x hx => (by cases hx), fun x hx => (by cases hx), by decide, by decide⟩
theorem k_put : putE kP2 = 0 ∧ putH kP2 = kB := by decide +kernel
theorem k_parse : parseH kB = (0, kP2) := by decide +kernel
theorem k_built : Try.prog.built 28 [(3, .int .i64 17), (4, .int .i64 64)] = some (flat (hseg kP0 zL)) := by rw [built_hh]; rfl
theorem info16 : (Try.prog.info? 22).map (·.size) = some 16 := by kernel_rfl
theorem k_b1 : Try.prog.built 22 [(0, .int .u8 10), (1, .int .u8 0), (2, .int .u8 0), (3, .int .u8 1)] = some (nums .u8 kS).toArray := by kernel_rfl
theorem k_b2 : Try.prog.built 22 [(0, .int .u8 10), (1, .int .u8 0), (2, .int .u8 0), (3, .int .u8 2)] = some (nums .u8 kD).toArray := by kernel_rfl
/-- Sixteen bytes stored within a packet. -/
theorem store16 {W : World} {g o : Nat} {cs cs' : List Value} (bs : List Int) (hl : bs.length = 16) (hb : W.heap[g]? = some (.cells cs.toArray 28 (0, 0))) (ho : o + 16 ≤ cs.length) (he : splice cs o (nums .u8 bs) = cs') :
    ∃ W1, (storeVar 22 ⟨g, o, none⟩ (.agg (nums .u8 bs).toArray)).run Try.prog W = .ok () W1 ∧ W1.heap[g]? = some (.cells cs'.toArray 28 (0, 0)) ∧ W.grownBy W1 (some g) := by
  have hn : (nums .u8 bs).length = 16 := by simp [nums, hl]
  refine ⟨_, run_storeVar_mid W g o 22 (nums .u8 bs).toArray ?_ (by rw [info16]; simp [hn]) (all_oneCell_toArray (fun v hv => by simp [nums] at hv; obtain ⟨a, _, rfl⟩ := hv; rfl)), ?_, setCells_grown W g _ o⟩
  · intro j hj
    have hj' : o + j < cs.length := by simp [hn] at hj; omega
    exact ⟨by rw [blk_cell hb]; simp [hj'], blk_frozen hb _⟩
  · obtain ⟨c2, h1, h2⟩ := setCells_heap (nums .u8 bs) o cs.toArray hb (by simp [hn]; omega)
    have : c2 = cs'.toArray := Array.ext' (by rw [h2, ← he])
    rw [← this]
    exact h1
theorem k_s1 : splice (hseg kP0 zL).flatten 2 (nums .u8 kS) = (hseg kP1 zL).flatten := by kernel_rfl
theorem k_s2 : splice (hseg kP1 zL).flatten 19 (nums .u8 kD) = (hseg kP2 zL).flatten := by kernel_rfl
set_option maxHeartbeats 8000000 in
theorem known_any (w : World) : Calls Try.prog 14 #[] w fun e w' => e = .returned (.bool true) ∧ Below w.heap.size w w' := by
  have hb0 := blk_new w (.cells (flat (hseg kP0 zL)) 28)
  have HB0 := Aside0.mk (And.intro hb0 (below_alloc (Below.refl w.heap.size w) (.cells (flat (hseg kP0 zL)) 28)))
  obtain ⟨W1, hst1, hb1, hg1⟩ := store16 (o := 2) kS rfl hb0 (by rw [hlen kP0_ok]; decide) k_s1
  obtain ⟨W2, hst2, hb2, hg2⟩ := store16 (o := 19) kD rfl hb1 (by rw [hlen kP1_ok]; decide) k_s2
  have HST0 := Aside0.mk (h_new w rfl kP0_ok zP_ok zL zL)
  have HST1 := Aside0.mk hst1
  have HST2 := Aside0.mk hst2
  have HM : Aside0 (BH 28 w.heap.size kP2 zL W2 ∧ Below w.heap.size w W2) := ⟨hb2, (HB0.out.2.grown hg1 HB0.out.2.size (fun k e => by cases e; exact Nat.le_refl _)).grown hg2 (HB0.out.2.grown hg1 HB0.out.2.size (fun k e => by cases e; exact Nat.le_refl _)).size (fun k e => by cases e; exact Nat.le_refl _)⟩
  have HPUT := Aside0.mk (Put_any kP2 zL W2 kP2_ok ⟨C_zero _ _, Nat.le_refl _, C_zero _ _, Nat.le_refl _⟩)
  have HBU := Aside0.mk k_built
  have HK1 := Aside0.mk k_b1
  have HK2 := Aside0.mk k_b2
  have HLD := Aside0.mk (load_h kP2_ok HM.out.1)
  clear hb0 hst1 hb1 hg1 hst2 hb2 hg2
  go_enter Try.func14, Try.ntmps14
  go_upto_region 2 with (first | ((with_reducible refine gate_dst (N := 6) rfl ?_); refine Kd.event_run rfl (exec_build rfl (by go_simp) HBU.out) ?_) | ((with_reducible refine gate_store (t := 28) rfl ?_); refine event_skip rfl (exec_store rfl rfl rfl HST0.out) ?_))
  go_upto_region 4 with (first | ((with_reducible refine gate_dst (N := 7) rfl ?_); refine Kd.event_run rfl (exec_build rfl (by go_simp) HK1.out) ?_) | ((with_reducible refine gate_dst (N := 10) rfl ?_); refine Kd.event_run rfl (exec_build rfl (by go_simp) HK2.out) ?_) | ((with_reducible refine gate_store (t := 22) rfl ?_); first | (refine event_skip rfl (exec_store rfl rfl rfl HST1.out) ?_) | (refine event_skip rfl (exec_store rfl rfl rfl HST2.out) ?_)))
  go_wp2_with ((with_reducible refine gate_dst (N := 14) rfl ?_); refine Kd.event_run rfl (exec_load rfl rfl HLD.out) ?_)
  refine HPUT.out.mono ?_
  rintro e W3 ⟨v, rfl, hO, hB⟩
  rw [k_put.1]
  rw [k_put.2] at hO
  obtain ⟨A, c, rfl, hc, hC⟩ := hO.reads hO.len63
  have hM3 := And.intro (blk_below HM.out.1 hB) (below_step HM.out.2 hB)
  have HPAR := Aside0.mk (Parse_any A c kB W3 hC hc (by unfold CurP.AllB kB; decide) (by decide))
  have hk0 := Kd.C_string (P := Try.prog) Try.underlying25 Try.underlying5 Try.underlying9 (c := c) hC
  have HC := Aside0.mk hC
  have HM3 := Aside0.mk hM3
  clear hO hc hC hM3 hB hk0 HST0 HST1 HST2 HBU HK1 HK2 HLD HPUT
  go_wp2_with fail
  refine HPAR.out.mono ?_
  rintro e W4 ⟨qx, rfl, ho, hd, hB⟩
  rw [k_parse]
  dsimp only
  have hM4 := And.intro (blk_alloc (blk_below HM3.out.1 hB) (.cells (flat (hseg kP2 qx)) 28)) (below_alloc (below_step HM3.out.2 hB) (.cells (flat (hseg kP2 qx)) 28))
  have hb5 := blk_new W4 (.cells (flat (hseg kP2 qx)) 28)
  have HST5 := Aside0.mk (h_new W4 rfl kP2_ok zP_ok qx zL)
  have HB5 : Aside0 (BH 28 W4.heap.size kP2 qx (W4.alloc (.cells (flat (hseg kP2 qx)) 28))) := ⟨hb5⟩
  have HM4 := Aside0.mk hM4
  have k0 := Kd.C_string (P := Try.prog) Try.underlying25 Try.underlying5 Try.underlying9 (c := c) (Kd.C_below (Kd.C_below HC.out hB) (below_alloc (Below.refl _ _) (.cells (flat (hseg kP2 qx)) 28)))
  have c36 := hc36 kP2_ok hb5
  have HL1 := Aside0.mk (load_hs kP2_ok hb5)
  have HL2 := Aside0.mk (load_hs kP2_ok hM4.1)
  have HEQ : Aside0 (∀ W : World, (Op.equalIn 10000 24 (.agg (av kP2.s.v kP2.s.b)) (.agg (av kP2.s.v kP2.s.b))).run Try.prog W = .ok true W) := ⟨fun W => by rw [eq_addr kP2.s.v kP2.s.v kP2_ok.s.l kP2_ok.s.l W]; simp⟩
  clear ho hd hB hM4 hb5
  have hq : ((strOfNums kB).toList == [69, 0, 0, 20, 0, 0, 0, 0, 64, 17, 102, 215, 10, 0, 0, 1, 10, 0, 0, 2]) = true := by decide +kernel
  generalize strOfNums kB = sB at *
  go_upto_region 6 with ((with_reducible refine gate_store (t := 28) rfl ?_); refine event_skip rfl (exec_store rfl rfl rfl HST5.out) ?_)
  change Code.wp _ _ _ _ (W4.alloc (.cells (flat (hseg kP2 qx)) 28))
  generalize W4.alloc (.cells (flat (hseg kP2 qx)) 28) = W5 at *
  go_wp2_with (first | ((with_reducible refine gate_load (t := 24) rfl ?_); (try refine gate_guard (by rfl) ?_); first | (refine Kd.event_run rfl (exec_load rfl rfl HL1.out) ?_) | (refine Kd.event_run rfl (exec_load rfl rfl HL2.out) ?_)) | ((with_reducible refine gate_bin (t := 24) rfl ?_); (try refine gate_guard (by rfl) ?_); refine Kd.event_run rfl (AddrEq.exec_eql Try.eqGuardType24 rfl rfl rfl (HEQ.out _)) ?_))
  go_ret
  exact ⟨by first | rfl | trace_state, HM4.out.2⟩
end Go.Proofs.Ytjidoedlmpjmnaa.Hdr
