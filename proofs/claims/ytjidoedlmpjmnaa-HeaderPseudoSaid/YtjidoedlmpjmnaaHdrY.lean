/- HdrY: HdrI, HdrL, HdrM, HdrN, HdrO. -/
import Derived.Test.YtjidoedlmpjmnaaHdrX
import Derived.Test.YtjidoedlmpjmnaaCurQ
import Derived.Test.YtjidoedlmpjmnaaRunA
import Derived.Test.YtjidoedlmpjmnaaAddrA
namespace Go.Proofs.Ytjidoedlmpjmnaa.Hdr
open Go.RowKit Go.Proofs.Ytjidoedlmpjmnaa.CurP Go.Proofs.Ytjidoedlmpjmnaa.SumsP Go.Proofs.Ytjidoedlmpjmnaa.AddrW
set_option linter.unusedVariables false
set_option linter.unusedSimpArgs false
def v4L (xs : List Int) : List (Int × List Int) := [(xs.getD 0 0, []), (xs.getD 1 0, []), (two xs 2, []), (two xs 4, []), (two xs 6, []), (xs.getD 8 0, []), (xs.getD 9 0, []), (two xs 10, []), (0, (xs.drop 12).take 4), (0, (xs.drop 16).take 4)]
def first6 (xs : List Int) : Int := ((xs.getD 0 0 * 256 + xs.getD 1 0) * 256 + xs.getD 2 0) * 256 + xs.getD 3 0
def v6L (xs : List Int) : List (Int × List Int) := [(first6 xs, []), (two xs 4, []), (xs.getD 6 0, []), (xs.getD 7 0, []), (0, (xs.drop 8).take 16), (0, (xs.drop 24).take 16)]
theorem run4 {xs : List Int} (h : 20 ≤ xs.length) : runL xs 0 ops4 = (v4L xs, 20, 0) := by
  unfold ops4
  rw [show ((0, 1) : Int × Int) = (0, ((1 : Nat) : Int)) from rfl, show ((0, 2) : Int × Int) = (0, ((2 : Nat) : Int)) from rfl, show ((1, 4) : Int × Int) = (1, ((4 : Nat) : Int)) from rfl]
  rw [runL_num _ (by decide) (by decide) (by omega), runL_num _ (by decide) (by decide) (by omega), runL_num _ (by decide) (by decide) (by omega), runL_num _ (by decide) (by decide) (by omega), runL_num _ (by decide) (by decide) (by omega), runL_num _ (by decide) (by decide) (by omega), runL_num _ (by decide) (by decide) (by omega), runL_num _ (by decide) (by decide) (by omega), runL_take _ (by omega), runL_take _ (by omega)]
  rw [numL1 (by omega), numL1 (by omega), numL2 (by omega), numL2 (by omega), numL2 (by omega), numL1 (by omega), numL1 (by omega), numL2 (by omega)]
  rfl
theorem run4_short {xs : List Int} (h : xs.length < 20) : (runL xs 0 ops4).2.2 = 10 := by
  refine runL_short xs ops4 0 (Nat.zero_le _) (fun o ho => ?_) (by simp [ops4]; omega)
  simp only [ops4, List.mem_cons, List.not_mem_nil, or_false] at ho
  rcases ho with rfl | rfl | rfl | rfl | rfl | rfl | rfl | rfl | rfl | rfl <;> simp [okOp]
theorem run6 {xs : List Int} (h : 40 ≤ xs.length) : runL xs 0 ops6 = (v6L xs, 40, 0) := by
  unfold ops6
  rw [show ((0, 1) : Int × Int) = (0, ((1 : Nat) : Int)) from rfl, show ((0, 2) : Int × Int) = (0, ((2 : Nat) : Int)) from rfl, show ((0, 4) : Int × Int) = (0, ((4 : Nat) : Int)) from rfl, show ((1, 16) : Int × Int) = (1, ((16 : Nat) : Int)) from rfl]
  rw [runL_num _ (by decide) (by decide) (by omega), runL_num _ (by decide) (by decide) (by omega), runL_num _ (by decide) (by decide) (by omega), runL_num _ (by decide) (by decide) (by omega), runL_take _ (by omega), runL_take _ (by omega)]
  rw [numL4 (by omega), numL2 (by omega), numL1 (by omega), numL1 (by omega)]
  rfl
theorem run6_short {xs : List Int} (h : xs.length < 40) : (runL xs 0 ops6).2.2 = 10 := by
  refine runL_short xs ops6 0 (Nat.zero_le _) (fun o ho => ?_) (by simp [ops6]; omega)
  simp only [ops6, List.mem_cons, List.not_mem_nil, or_false] at ho
  rcases ho with rfl | rfl | rfl | rfl | rfl | rfl <;> simp [okOp]
end Go.Proofs.Ytjidoedlmpjmnaa.Hdr
namespace Go.Proofs.Ytjidoedlmpjmnaa.Hdr
open Go.RowKit Go.Proofs.Ytjidoedlmpjmnaa.SumsP Go.Proofs.Ytjidoedlmpjmnaa.SumW Go.Proofs.Ytjidoedlmpjmnaa.Cur Go.Proofs.Ytjidoedlmpjmnaa.Own Go.Proofs.Ytjidoedlmpjmnaa.StepX Go.Proofs.Ytjidoedlmpjmnaa.AddrW Go.Proofs.Ytjidoedlmpjmnaa.Segs Go.Proofs.Ytjidoedlmpjmnaa.Mem Go.Proofs.Ytjidoedlmpjmnaa.AddrEq Go.Proofs.Ytjidoedlmpjmnaa.Bits Go.Proofs.Ytjidoedlmpjmnaa.Help Go.Proofs.YtjidoedlmpjmnaaW.PrintWords Go.Proofs.YtjidoedlmpjmnaaW.PrintLast Go.Proofs.YtjidoedlmpjmnaaW.PrintMore
set_option linter.unusedVariables false
set_option linter.unusedSimpArgs false
set_option maxRecDepth 20000
/-- What is parsed: the error, and the packet. -/
def ParR (r : Int × Pk) (w : World) (e : Ending) (w' : World) : Prop := ∃ q, e = .returned (.tuple #[.agg (flat (hseg r.2 q)), .int .i64 r.1]) ∧ Owns w' w.heap.size (.slice q.oA r.2.ol.length q.oc) r.2.ol ∧ Owns w' w.heap.size (.slice q.dA r.2.dl.length q.dc) r.2.dl ∧ Below w.heap.size w w'
theorem and255 {x : Int} (h0 : 0 ≤ x) (h1 : x < 4611686018427387904) : Go.bits .and .i64 x 255 = x % 256 := by
  have h : Go.bits .and .u64 x 255 = x % 256 := and_mask_u64 8 (by decide) h0 (by omega)
  unfold Go.bits at h ⊢
  rw [wrap_u64] at h
  dsimp only at h ⊢
  have hN : ∀ N : Nat, N < 18446744073709551616 → ((N : Int) % 18446744073709551616 = x % 256) → IntKind.i64.wrap (N : Int) = x % 256 := fun N hN e => by
    rw [IntWalk.i64_in _ (by omega)]; omega
  exact hN _ (BitVec.isLt _) h
theorem and20 {x : Int} (h0 : 0 ≤ x) (h1 : x < 4611686018427387904) : Go.bits .and .i64 x 1048575 = x % 1048576 := by
  have h : Go.bits .and .u64 x 1048575 = x % 1048576 := and_mask_u64 20 (by decide) h0 (by omega)
  unfold Go.bits at h ⊢
  rw [wrap_u64] at h
  dsimp only at h ⊢
  have hN : ∀ N : Nat, N < 18446744073709551616 → ((N : Int) % 18446744073709551616 = x % 1048576) → IntKind.i64.wrap (N : Int) = x % 1048576 := fun N hN e => by
    rw [IntWalk.i64_in _ (by omega)]; omega
  exact hN _ (BitVec.isLt _) h
theorem and14 {x : Int} (h0 : 0 ≤ x) (h1 : x < 4611686018427387904) : Go.bits .and .i64 x 16383 = x % 16384 := by
  have h : Go.bits .and .u64 x 16383 = x % 16384 := and_mask_u64 14 (by decide) h0 (by omega)
  unfold Go.bits at h ⊢
  rw [wrap_u64] at h
  dsimp only at h ⊢
  have hN : ∀ N : Nat, N < 18446744073709551616 → ((N : Int) % 18446744073709551616 = x % 16384) → IntKind.i64.wrap (N : Int) = x % 16384 := fun N hN e => by
    rw [IntWalk.i64_in _ (by omega)]; omega
  exact hN _ (BitVec.isLt _) h
theorem allB_bytes' {l : List Int} (h : ∀ x ∈ l, 0 ≤ x ∧ x < 256) : Bytes l := fun x hx => by have := h x hx; omega
theorem own_rd {h : Pk} {q : Pl} {base : Nat} {W : World} (ho : Owns W base (.slice q.oA h.ol.length q.oc) h.ol) (hd : Owns W base (.slice q.dA h.dl.length q.dc) h.dl) : RdP h q W := by
  obtain ⟨A, c, e, h1, h2⟩ := ho.reads ho.len63
  obtain ⟨A', c', e', h1', h2'⟩ := hd.reads hd.len63
  injection e with e1 _ e2
  injection e' with e1' _ e2'
  subst e1 e2 e1' e2'
  exact ⟨h2, h1, h2', h1'⟩
theorem S_at {W : World} {t base : Nat} {ok : Nat → Prop} {v : Value} {l : List (Int × List Int)} (h : Kd.S dV t W base ok v l) (hl : 0 < l.length) : ∃ g c, v = .slice (some ⟨g, 0, none⟩) l.length c ∧ l.length ≤ c ∧ dV.C W (some ⟨g, 0, none⟩) l.length l := by
  obtain ⟨A, c, rfl, hc, hC⟩ := Kd.S_reads h
  rcases A with _ | ad
  · obtain ⟨ad, h1, _⟩ := hC.2.2 hl
    cases h1
  · obtain ⟨g, e⟩ := Kd.R_head (Kd.S_R h)
    obtain rfl : ad = ⟨g, 0, none⟩ := e
    exact ⟨g, c, rfl, hc, hC⟩
theorem add0 (g n : Nat) : (⟨g, 0, none⟩ : Addr).add n = ⟨g, n, none⟩ := by unfold Addr.add; split <;> simp_all
theorem vN {W : World} {g : Nat} {l : List (Int × List Int)} (h : dV.C W (some ⟨g, 0, none⟩) l.length l) (i : Nat) (hi : i < l.length) : W.cell? ⟨g, i * 2, none⟩ = some (.int .u64 l[i].1) := by
  obtain ⟨ad, B, c, e, h1, -⟩ := val_cells h i hi
  cases e
  rwa [add0] at h1
theorem vB {W : World} {g : Nat} {l : List (Int × List Int)} (h : dV.C W (some ⟨g, 0, none⟩) l.length l) (i : Nat) (hi : i < l.length) : ∃ B c, W.cell? ⟨g, i * 2 + 1, none⟩ = some (.slice B l[i].2.length c) ∧ l[i].2.length ≤ c ∧ Kd.C (Kd.int .u8) W B l[i].2.length l[i].2 := by
  obtain ⟨ad, B, c, e, -, h1, h2, h3⟩ := val_cells h i hi
  cases e
  rw [add0] at h1
  exact ⟨B, c, h1, h2, h3⟩
set_option maxHeartbeats 4000000 in
theorem address_any (A : Option Addr) (c : Nat) (xs : List Int) (w : World) (hr : Kd.C (Kd.int .u8) w A xs.length xs) :
    Calls Try.prog 53 #[.slice A xs.length c] w fun e w' => e = .returned (.agg (av (ofV xs) (ofB xs))) ∧ Below w.heap.size w w' := by
  have hl : (ofB xs).length = 16 := by unfold ofB; split <;> simp [zs]; omega
  have HB0 : Aside0 (Below w.heap.size w (w.alloc (.cells (av false (zs 16)) 24))) := ⟨below_alloc (Below.refl _ _) _⟩
  have HB1 := Aside0.mk (blk_new w (.cells (av false (zs 16)) 24))
  have HOF := Aside0.mk (Of_any A c xs _ (Kd.C_below hr HB0.out))
  clear hr
  generalize ofB xs = bs at *
  generalize ofV xs = vv at *
  go_enter Try.func53, Try.ntmps53
  go_upto_region 1 with fail
  change Code.wp _ _ _ _ (w.alloc (.cells (av false (zs 16)) 24))
  generalize w.alloc (.cells (av false (zs 16)) 24) = W0 at *
  go_wp2_with fail
  refine HOF.out.mono ?_
  rintro e W1 ⟨rfl, hB⟩
  have HST1 := Aside0.mk (store_new W1 rfl (v := vv) (u := false) (bs := bs) hl zs16)
  have hb1 := blk_alloc (blk_below HB1.out hB) (.cells (av vv bs) 24)
  have hb2 := blk_new W1 (.cells (av vv bs) 24)
  have HLD := Aside0.mk (load_addr hl hb2)
  have HST2 := Aside0.mk (store_addr (v := vv) (bs := bs) hl zs16 hb1)
  have hb3 : ((W1.alloc (.cells (av vv bs) 24)).setRow w.heap.size (av vv bs)).heap[w.heap.size]? = some (.cells (av vv bs) 24 (0, 0)) := setRow_heap _ _ _ _ _ _ hb1
  have HF : Aside0 (((W1.alloc (.cells (av vv bs) 24)).setRow w.heap.size (av vv bs)).heap[w.heap.size]? = some (.cells (av vv bs) 24 (0, 0)) ∧ Below w.heap.size w ((W1.alloc (.cells (av vv bs) 24)).setRow w.heap.size (av vv bs))) := ⟨hb3, (below_alloc (below_step HB0.out hB) _).grown (World.grownBy_setRow' _ w.heap.size _) (below_alloc (below_step HB0.out hB) _).size (fun k e => by cases e; exact Nat.le_refl _)⟩
  clear hb1 hb2 hb3 hB
  go_upto_region 2 with ((with_reducible refine gate_store (t := 24) rfl ?_); refine event_skip rfl (exec_store rfl rfl rfl HST1.out) ?_)
  go_wp2_with (first | ((with_reducible refine gate_load (t := 24) rfl ?_); refine Kd.event_run rfl (exec_load rfl rfl HLD.out) ?_) | ((with_reducible refine gate_store (t := 24) rfl ?_); refine event_skip rfl (exec_store rfl rfl rfl HST2.out) ?_))
  refine bodyPost_ret (results_cell_row rfl _ _ w.heap.size _ _ (0, 0) _ rfl HF.out.1 Try.underlying24 rfl (by rw [info_addr, av_size vv hl])) rfl ?_
  exact ⟨rfl, HF.out.2⟩
def par6 (xs : List Int) : Int × Pk := if E6 xs = 0 then (0, P6 xs) else (E6 xs, zP)
def par4 (xs : List Int) : Int × Pk := if E4 xs = 0 then (0, P4 xs) else (E4 xs, zP)
theorem add40 (x : Addr) : x.add 40 = { block := x.block, off := x.off + 40 } := by
  unfold Addr.add
  rw [if_neg (by decide)]
theorem cut40 {w : World} {A : Option Addr} {xs : List Int} {c : Nat} (h : Kd.C (Kd.int .u8) w A xs.length xs) (hn : 40 ≤ xs.length) (hc : xs.length ≤ c) : Kd.C (Kd.int .u8) w (if c = 40 then A else Option.map (fun x => { block := x.block, off := x.off + 40 }) A) (xs.drop 40).length (xs.drop 40) := by
  have h1 := Cur.C_cut h 40 (xs.length - 40) (by omega)
  rw [List.take_of_length_le (by simp)] at h1
  split
  · have : xs.drop 40 = [] := List.drop_eq_nil_of_le (by omega)
    rw [this]
    exact Cur.C_zero _ _
  · rw [List.length_drop]
    rw [show (fun x : Addr => ({ block := x.block, off := x.off + 40 } : Addr)) = (fun x => x.add 40) from funext fun x => (add40 x).symm]
    exact h1
theorem dP30 (j : Nat) (hj : 32 ≤ j) : (j == 30 || j == 31) = false := by simp; omega
set_option maxHeartbeats 8000000 in
theorem parseSix_any (A : Option Addr) (c : Nat) (xs : List Int) (w : World) (hr : Kd.C (Kd.int .u8) w A xs.length xs) (hc : xs.length ≤ c) (hx : CurP.AllB xs) (hb : xs.length ≤ 140737488351232) :
    Calls Try.prog 34 #[.slice A xs.length c] w (ParR (par6 xs) w) := by
  have HX := Aside0.mk (And.intro hr (And.intro hc (And.intro hx hb)))
  have HP : Aside0 (∀ r e w', ParR r w e w' = ∃ q, e = .returned (.tuple #[.agg (flat (hseg r.2 q)), .int .i64 r.1]) ∧ Owns w' w.heap.size (.slice q.oA r.2.ol.length q.oc) r.2.ol ∧ Owns w' w.heap.size (.slice q.dA r.2.dl.length q.dc) r.2.dl ∧ Below w.heap.size w w') := ⟨fun _ _ _ => rfl⟩
  have HZ : Aside0 (BH 28 w.heap.size zP zL (w.alloc (.cells (flat (hseg zP zL)) 28)) ∧ Below w.heap.size w (w.alloc (.cells (flat (hseg zP zL)) 28))) := ⟨blk_new w _, below_alloc (Below.refl _ _) _⟩
  have HERR : Aside0 (∀ W, BH 28 w.heap.size zP zL W → Below w.heap.size w W → ∃ W1, (storeVar 28 ⟨w.heap.size, 0, none⟩ (.agg (flat (hseg zP zL)))).run Try.prog W = .ok () W1 ∧ BH 28 w.heap.size zP zL W1 ∧ Below w.heap.size w W1) := ⟨fun W h1 h2 => by
    obtain ⟨W1, a, b, c, -⟩ := h_over (w := w) zP_ok zP_ok zL (Nat.le_refl _) h2 h1
    exact ⟨W1, a, b, c⟩⟩
  have HBU := Aside0.mk built_h0
  clear hr hc hx hb
  go_enter Try.func34, Try.ntmps34
  go_upto_region 1 with fail
  change Code.wp _ _ _ _ (w.alloc (.cells (flat (hseg zP zL)) 28))
  generalize w.alloc (.cells (flat (hseg zP zL)) 28) = W0 at *
  go_wp2_with fail
  refine (six_any _).mono ?_
  rintro e W1 ⟨y, rfl, hy, hB⟩
  have HM1 : Aside0 (BH 28 w.heap.size zP zL W1 ∧ Below w.heap.size w W1) := ⟨blk_below HZ.out.1 hB, below_step HZ.out.2 hB⟩
  have HRUN := Aside0.mk (Run_any W1 A (some ⟨y, 0, none⟩) c 6 xs ops6 (Kd.C_below HX.out.1 HM1.out.2) HX.out.2.1 (by have := HX.out.2.2.2; omega) (ops_lit ops6 (by decide) hy) (by decide) (by decide) HX.out.2.2.1 HX.out.2.2.2 (by decide))
  clear hB hy
  go_wp2_with fail
  refine HRUN.out.mono ?_
  rintro e W2 ⟨v, rfl, hS, hB⟩
  have HM2 : Aside0 (BH 28 w.heap.size zP zL W2 ∧ Below w.heap.size w W2) := ⟨blk_below HM1.out.1 hB, below_step HM1.out.2 hB⟩
  clear hB HM1 HRUN HZ
  by_cases hl : xs.length < 40
  · have hE : (CurP.runL xs 0 ops6).2.2 = 10 := run6_short hl
    have HE : Aside0 (par6 xs = (10, zP)) := ⟨by unfold par6 E6; rw [if_pos hl]; rfl⟩
    obtain ⟨W3, hst, hz3, hb3⟩ := HERR.out W2 HM2.out.1 HM2.out.2
    have HST := Aside0.mk hst
    have HF : Aside0 (BH 28 w.heap.size zP zL W3) := ⟨hz3⟩
    have HFIN : Aside0 (ParR (par6 xs) w (.returned (.tuple #[.agg (flat (hseg zP zL)), .int .i64 10])) W3) := ⟨by rw [HE.out]; exact ⟨zL, rfl, Owns.nil _ _, Owns.nil _ _, hb3⟩⟩
    rw [hE]
    clear hS hst hz3 hb3 hE hl
    generalize (CurP.runL xs 0 ops6).2.1 = at_ at *
    go_wp2_with (first | ((with_reducible refine gate_dst (N := 19) rfl ?_); refine Kd.event_run rfl (exec_build rfl (by go_simp) HBU.out) ?_) | ((with_reducible refine gate_store (t := 28) rfl ?_); refine event_skip rfl (exec_store rfl rfl rfl HST.out) ?_))
    refine bodyPost_ret (results_h2 rfl _ _ zP_ok rfl HF.out) rfl ?_
    exact HFIN.out
  · have hrun6 : CurP.runL xs 0 ops6 = (v6L xs, 40, 0) := run6 (by omega)
    rw [hrun6] at hS ⊢
    dsimp only at hS ⊢
    obtain ⟨g, cv, rfl, hcv, hC⟩ := S_at hS (by simp [v6L])
    clear hS hrun6
    have n0 : W2.cell? ⟨g, 0, none⟩ = some (.int .u64 (first6 xs)) := vN hC 0 (by show 0 < 6; decide)
    have n1 : W2.cell? ⟨g, 2, none⟩ = some (.int .u64 (two xs 4)) := vN hC 1 (by show 1 < 6; decide)
    have n2 : W2.cell? ⟨g, 4, none⟩ = some (.int .u64 (xs.getD 6 0)) := vN hC 2 (by show 2 < 6; decide)
    have n3 : W2.cell? ⟨g, 6, none⟩ = some (.int .u64 (xs.getD 7 0)) := vN hC 3 (by show 3 < 6; decide)
    obtain ⟨sA, sc, n4, hsc, hsC⟩ := vB hC 4 (by show 4 < 6; decide)
    obtain ⟨dA, dc, n5, hdc, hdC⟩ := vB hC 5 (by show 5 < 6; decide)
    replace n4 : W2.cell? ⟨g, 9, none⟩ = some (.slice sA ((xs.drop 8).take 16).length sc) := n4
    replace n5 : W2.cell? ⟨g, 11, none⟩ = some (.slice dA ((xs.drop 24).take 16).length dc) := n5
    replace hsC : Kd.C (Kd.int .u8) W2 sA ((xs.drop 8).take 16).length ((xs.drop 8).take 16) := hsC
    replace hdC : Kd.C (Kd.int .u8) W2 dA ((xs.drop 24).take 16).length ((xs.drop 24).take 16) := hdC
    have hv6 : (v6L xs).length = 6 := rfl
    rw [hv6] at hcv ⊢
    have hP6 : P6 xs = ⟨true, ⟨true, (xs.drop 8).take 16⟩, ⟨true, (xs.drop 24).take 16⟩, xs.getD 6 0, xs.getD 7 0, xs.getD 0 0 % 16 * 16 + xs.getD 1 0 / 16, 0, false, xs.getD 1 0 % 16 * 65536 + two xs 2, [], xs.drop 40⟩ := rfl
    have ls : ((xs.drop 8).take 16).length = 16 := by simp; omega
    have ld : ((xs.drop 24).take 16).length = 16 := by simp; omega
    have hby := fun i => (allB_bytes' HX.out.2.2.1).get i
    have b0 := hby 0; have b1 := hby 1; have b2 := hby 2; have b3 := hby 3; have b4 := hby 4; have b5 := hby 5; have b6 := hby 6; have b7 := hby 7
    have hf6 : first6 xs = ((xs.getD 0 0 * 256 + xs.getD 1 0) * 256 + xs.getD 2 0) * 256 + xs.getD 3 0 := rfl
    have ht4 : two xs 4 = xs.getD 4 0 * 256 + xs.getD 5 0 := rfl
    have ht2 : two xs 2 = xs.getD 2 0 * 256 + xs.getD 3 0 := rfl
    have w0 : IntKind.i64.wrap (first6 xs) = first6 xs := wrap64_in (by omega)
    have w1 : IntKind.i64.wrap (two xs 4) = two xs 4 := wrap64_in (by omega)
    have w6 : IntKind.i64.wrap (xs.getD 6 0) = xs.getD 6 0 := wrap64_in (by omega)
    have w7 : IntKind.i64.wrap (xs.getD 7 0) = xs.getD 7 0 := wrap64_in (by omega)
    have hbb := HX.out.2.2.2
    have wl : IntKind.i64.wrap ((xs.length : Int) - 40) = (xs.length : Int) - 40 := wrap64_in (by omega)
    have ts1 : Go.bits .and .i64 (first6 xs / 1048576) 255 = xs.getD 0 0 % 16 * 16 + xs.getD 1 0 / 16 := by
      rw [and255 (by omega) (by omega)]; omega
    have lb1 : Go.bits .and .i64 (first6 xs) 1048575 = xs.getD 1 0 % 16 * 65536 + two xs 2 := by
      rw [and20 (by omega) (by omega)]; omega
    have hE6 : par6 xs = if (xs.length : Int) - 40 < two xs 4 then (10, zP) else if two xs 4 < (xs.length : Int) - 40 then (11, zP) else (0, P6 xs) := by
      by_cases h1 : (xs.length : Int) - 40 < two xs 4
      · have e : E6 xs = 10 := by unfold E6; rw [if_neg hl, if_pos h1]
        rw [if_pos h1]; unfold par6; rw [e]; rfl
      · by_cases h2 : two xs 4 < (xs.length : Int) - 40
        · have e : E6 xs = 11 := by unfold E6; rw [if_neg hl, if_neg h1, if_pos h2]
          rw [if_neg h1, if_pos h2]; unfold par6; rw [e]; rfl
        · have e : E6 xs = 0 := by unfold E6; rw [if_neg hl, if_neg h1, if_neg h2]
          rw [if_neg h1, if_neg h2]; unfold par6; rw [e]; rfl
    have HE6 := Aside0.mk hE6
    have HOKP : Aside0 (OkP (P6 xs)) := ⟨by rw [hP6]; exact ⟨⟨ls, fun x hx => HX.out.2.2.1 x (List.mem_of_mem_drop (List.mem_of_mem_take hx))⟩, ⟨ld, fun x hx => HX.out.2.2.1 x (List.mem_of_mem_drop (List.mem_of_mem_take hx))⟩, ⟨by dsimp only; omega, by dsimp only; omega⟩, ⟨by dsimp only; omega, by dsimp only; omega⟩, ⟨by dsimp only; omega, by dsimp only; omega⟩, ⟨by dsimp only; omega, by dsimp only; omega⟩, ⟨by dsimp only; omega, by dsimp only; omega⟩, fun x hx => (by cases hx), fun x hx => HX.out.2.2.1 x (List.mem_of_mem_drop hx), Nat.zero_le _, by simp; omega⟩⟩
    have HP6 := Aside0.mk hP6
    have HLS := Aside0.mk (And.intro ls ld)
    clear hC hE6 hP6 ls ld hby hf6 ht4 ht2 b0 b1 b2 b3 b4 b5 b6 b7 hv6
    generalize first6 xs = f6 at *
    generalize two xs 4 = fw at *
    generalize xs.getD 6 0 = p6 at *
    generalize xs.getD 7 0 = t7 at *
    generalize xs.getD 0 0 % 16 * 16 + xs.getD 1 0 / 16 = tsv at *
    generalize xs.getD 1 0 % 16 * 65536 + two xs 2 = lbv at *
    generalize (xs.drop 8).take 16 = sb at *
    generalize (xs.drop 24).take 16 = db at *
    have hcv6 : (6 : Int) ≤ cv := by omega
    have HSC := Aside0.mk (And.intro hsC hdC)
    clear hsC hdC
    go_wp2_with fail
    go_quiet (fail)
    rename_i nq
    have hBq := pw_below_drewN (Below.refl W2.heap.size W2) nq
    have m2 := pw_cell_below hBq n2
    have m3 := pw_cell_below hBq n3
    have m4 := pw_cell_below hBq n4
    have m5 := pw_cell_below hBq n5
    replace HM2 : Aside0 (BH 28 w.heap.size zP zL (W2.drewN nq) ∧ Below w.heap.size w (W2.drewN nq)) := ⟨blk_below HM2.out.1 hBq, below_step HM2.out.2 hBq⟩
    replace HSC := Aside0.mk (And.intro (Kd.C_below HSC.out.1 hBq) (Kd.C_below HSC.out.2 hBq))
    have HN := Aside0.mk (And.intro m2 (And.intro m3 (And.intro m4 m5)))
    clear n0 n1 n2 n3 n4 n5 m2 m3 m4 m5 hBq w0 w1
    generalize W2.drewN nq = W3 at *
    by_cases h1 : (xs.length : Int) - 40 < fw
    · rw [if_pos h1] at HE6
      obtain ⟨W4, hst, hz4, hb4⟩ := HERR.out W3 HM2.out.1 HM2.out.2
      have HST := Aside0.mk hst
      have HF : Aside0 (BH 28 w.heap.size zP zL W4) := ⟨hz4⟩
      have HFIN : Aside0 (ParR (par6 xs) w (.returned (.tuple #[.agg (flat (hseg zP zL)), .int .i64 10])) W4) := ⟨by rw [HE6.out]; exact ⟨zL, rfl, Owns.nil _ _, Owns.nil _ _, hb4⟩⟩
      clear hst hz4 hb4
      go_wp2_with (first | ((with_reducible refine gate_dst (N := 39) rfl ?_); refine Kd.event_run rfl (exec_build rfl (by go_simp) HBU.out) ?_) | ((with_reducible refine gate_store (t := 28) rfl ?_); refine event_skip rfl (exec_store rfl rfl rfl HST.out) ?_))
      refine bodyPost_ret (results_h2 rfl _ _ zP_ok rfl HF.out) rfl ?_
      exact HFIN.out
    · rw [if_neg h1] at HE6
      by_cases h2 : fw < (xs.length : Int) - 40
      · rw [if_pos h2] at HE6
        obtain ⟨W4, hst, hz4, hb4⟩ := HERR.out W3 HM2.out.1 HM2.out.2
        have HST := Aside0.mk hst
        have HF : Aside0 (BH 28 w.heap.size zP zL W4) := ⟨hz4⟩
        have HFIN : Aside0 (ParR (par6 xs) w (.returned (.tuple #[.agg (flat (hseg zP zL)), .int .i64 11])) W4) := ⟨by rw [HE6.out]; exact ⟨zL, rfl, Owns.nil _ _, Owns.nil _ _, hb4⟩⟩
        clear hst hz4 hb4
        go_wp2_with (first | ((with_reducible refine gate_dst (N := 44) rfl ?_); refine Kd.event_run rfl (exec_build rfl (by go_simp) HBU.out) ?_) | ((with_reducible refine gate_store (t := 28) rfl ?_); refine event_skip rfl (exec_store rfl rfl rfl HST.out) ?_))
        refine bodyPost_ret (results_h2 rfl _ _ zP_ok rfl HF.out) rfl ?_
        exact HFIN.out
      · rw [if_neg h2] at HE6
        have HLen : Aside0 (40 ≤ xs.length) := ⟨by omega⟩
        have hl40 : (40 : Int) ≤ (xs.length : Int) := by omega
        have hcc : (xs.length : Int) ≤ (c : Int) := by have := HX.out.2.1; omega
        go_upto_region 10 with fail
        clear h1 h2 wl hl hbb
        replace HM2 := Aside0.mk (And.intro (blk_drew HM2.out.1) (below_drew HM2.out.2))
        replace HSC := Aside0.mk (And.intro (Kd.C_drew HSC.out.1) (Kd.C_drew HSC.out.2))
        have hBd := below_drew (Below.refl W3.heap.size W3)
        replace HN := Aside0.mk (And.intro (pw_cell_below hBd HN.out.1) (And.intro (pw_cell_below hBd HN.out.2.1) (And.intro (pw_cell_below hBd HN.out.2.2.1) (pw_cell_below hBd HN.out.2.2.2))))
        clear hBd
        refine RegionI.region_I (S := fun X => Below W3.drew.heap.size W3.drew X) (D := fun j => j == 30 || j == 31) (by kernel_rfl) (Below.refl _ _) ?_
        intro hS
        generalize W3.drew = V at *
        refine RegionI.wpAnyI_take (i := 0) (v := ?_) rfl (by kernel_rfl) (by kernel_rfl) (by kernel_rfl) (by kernel_rfl) (by kernel_rfl) dP30 (fun _ _ _ h => h) (by rfl) ?_ hS ?_
        rotate_left
        · (intro X hX; go_simp; try with_reducible rfl)
        refine RegionI.wpAnyI_take (i := 1) (v := ?_) rfl (by kernel_rfl) (by kernel_rfl) (by kernel_rfl) (by kernel_rfl) (by kernel_rfl) dP30 (fun _ _ _ h => h) (by rfl) ?_ hS ?_
        rotate_left
        · (intro X hX; go_simp; try with_reducible rfl)
        refine RegionI.wpAnyI_take (i := 2) (v := ?_) rfl (by kernel_rfl) (by kernel_rfl) (by kernel_rfl) (by kernel_rfl) (by kernel_rfl) dP30 (fun _ _ _ h => h) (by rfl) ?_ hS ?_
        rotate_left
        · (intro X hX; go_simp; try with_reducible rfl)
        refine RegionI.wpAnyI_take (i := 3) (v := _) rfl (by kernel_rfl) (by kernel_rfl) (by kernel_rfl) (by kernel_rfl) (by kernel_rfl) dP30 (fun _ _ _ h => h) (by rfl) (fun w hw => exec_load rfl (by go_simp) (Cur.load_one (pw_cell_below hw HN.out.2.2.1) Try.underlying25 rfl)) hS ?_
        refine RegionI.wpAnyI_take (i := 5) (v := ?_) rfl (by kernel_rfl) (by kernel_rfl) (by kernel_rfl) (by kernel_rfl) (by kernel_rfl) dP30 (fun _ _ _ h => h) (by rfl) ?_ hS ?_
        rotate_left
        · (intro X hX; go_simp; try with_reducible rfl)
        refine RegionI.wpAnyI_take (i := 6) (v := ?_) rfl (by kernel_rfl) (by kernel_rfl) (by kernel_rfl) (by kernel_rfl) (by kernel_rfl) dP30 (fun _ _ _ h => h) (by rfl) ?_ hS ?_
        rotate_left
        · (intro X hX; go_simp; try with_reducible rfl)
        refine RegionI.wpAnyI_take (i := 7) (v := ?_) rfl (by kernel_rfl) (by kernel_rfl) (by kernel_rfl) (by kernel_rfl) (by kernel_rfl) dP30 (fun _ _ _ h => h) (by rfl) ?_ hS ?_
        rotate_left
        · (intro X hX; go_simp; try with_reducible rfl)
        refine RegionI.wpAnyI_take (i := 8) (v := _) rfl (by kernel_rfl) (by kernel_rfl) (by kernel_rfl) (by kernel_rfl) (by kernel_rfl) dP30 (fun _ _ _ h => h) (by rfl) (fun w hw => exec_load rfl (by go_simp) (Cur.load_one (pw_cell_below hw HN.out.2.2.2) Try.underlying25 rfl)) hS ?_
        refine RegionI.wpAnyI_take (i := 10) (v := ?_) rfl (by kernel_rfl) (by kernel_rfl) (by kernel_rfl) (by kernel_rfl) (by kernel_rfl) dP30 (fun _ _ _ h => h) (by rfl) ?_ hS ?_
        rotate_left
        · (intro X hX; go_simp; try with_reducible rfl)
        refine RegionI.wpAnyI_take (i := 11) (v := ?_) rfl (by kernel_rfl) (by kernel_rfl) (by kernel_rfl) (by kernel_rfl) (by kernel_rfl) dP30 (fun _ _ _ h => h) (by rfl) ?_ hS ?_
        rotate_left
        · (intro X hX; go_simp; try with_reducible rfl)
        refine RegionI.wpAnyI_take (i := 12) (v := ?_) rfl (by kernel_rfl) (by kernel_rfl) (by kernel_rfl) (by kernel_rfl) (by kernel_rfl) dP30 (fun _ _ _ h => h) (by rfl) ?_ hS ?_
        rotate_left
        · (intro X hX; go_simp; try with_reducible rfl)
        refine RegionI.wpAnyI_take (i := 13) (v := _) rfl (by kernel_rfl) (by kernel_rfl) (by kernel_rfl) (by kernel_rfl) (by kernel_rfl) dP30 (fun _ _ _ h => h) (by rfl) (fun w hw => exec_load rfl (by go_simp) (Cur.load_one (pw_cell_below hw HN.out.1) Try.underlying51 rfl)) hS ?_
        refine RegionI.wpAnyI_take (i := 14) (v := ?_) rfl (by kernel_rfl) (by kernel_rfl) (by kernel_rfl) (by kernel_rfl) (by kernel_rfl) dP30 (fun _ _ _ h => h) (by rfl) ?_ hS ?_
        rotate_left
        · (intro X hX; go_simp; try with_reducible rfl)
        refine RegionI.wpAnyI_take (i := 15) (v := ?_) rfl (by kernel_rfl) (by kernel_rfl) (by kernel_rfl) (by kernel_rfl) (by kernel_rfl) dP30 (fun _ _ _ h => h) (by rfl) ?_ hS ?_
        rotate_left
        · (intro X hX; go_simp; try with_reducible rfl)
        refine RegionI.wpAnyI_take (i := 16) (v := ?_) rfl (by kernel_rfl) (by kernel_rfl) (by kernel_rfl) (by kernel_rfl) (by kernel_rfl) dP30 (fun _ _ _ h => h) (by rfl) ?_ hS ?_
        rotate_left
        · (intro X hX; go_simp; try with_reducible rfl)
        refine RegionI.wpAnyI_take (i := 17) (v := ?_) rfl (by kernel_rfl) (by kernel_rfl) (by kernel_rfl) (by kernel_rfl) (by kernel_rfl) dP30 (fun _ _ _ h => h) (by rfl) ?_ hS ?_
        rotate_left
        · (intro X hX; go_simp; try with_reducible rfl)
        refine RegionI.wpAnyI_take (i := 18) (v := _) rfl (by kernel_rfl) (by kernel_rfl) (by kernel_rfl) (by kernel_rfl) (by kernel_rfl) dP30 (fun _ _ _ h => h) (by rfl) (fun w hw => exec_load rfl (by go_simp) (Cur.load_one (pw_cell_below hw HN.out.2.1) Try.underlying51 rfl)) hS ?_
        refine RegionI.wpAnyI_take (i := 19) (v := ?_) rfl (by kernel_rfl) (by kernel_rfl) (by kernel_rfl) (by kernel_rfl) (by kernel_rfl) dP30 (fun _ _ _ h => h) (by rfl) ?_ hS ?_
        rotate_left
        · (intro X hX; go_simp; try with_reducible rfl)
        refine RegionI.wpAnyI_take (i := 20) (v := ?_) rfl (by kernel_rfl) (by kernel_rfl) (by kernel_rfl) (by kernel_rfl) (by kernel_rfl) dP30 (fun _ _ _ h => h) (by rfl) ?_ hS ?_
        rotate_left
        · (intro X hX; go_simp; try with_reducible rfl)
        refine RegionI.wpAnyI_take (i := 21) (v := ?_) rfl (by kernel_rfl) (by kernel_rfl) (by kernel_rfl) (by kernel_rfl) (by kernel_rfl) dP30 (fun _ _ _ h => h) (by rfl) ?_ hS ?_
        rotate_left
        · (intro X hX; go_simp; try with_reducible rfl)
        refine RegionI.wpAnyI_take (i := 22) (v := ?_) rfl (by kernel_rfl) (by kernel_rfl) (by kernel_rfl) (by kernel_rfl) (by kernel_rfl) dP30 (fun _ _ _ h => h) (by rfl) ?_ hS ?_
        rotate_left
        · (intro X hX; go_simp; try with_reducible rfl)
        refine RegionI.wpAnyI_take (i := 23) (v := ?_) rfl (by kernel_rfl) (by kernel_rfl) (by kernel_rfl) (by kernel_rfl) (by kernel_rfl) dP30 (fun _ _ _ h => h) (by rfl) ?_ hS ?_
        rotate_left
        · (intro X hX; go_simp; try with_reducible rfl)
        refine RegionI.wpAnyI_take (i := 24) (v := ?_) rfl (by kernel_rfl) (by kernel_rfl) (by kernel_rfl) (by kernel_rfl) (by kernel_rfl) dP30 (fun _ _ _ h => h) (by rfl) ?_ hS ?_
        rotate_left
        · (intro X hX; go_simp; try with_reducible rfl)
        refine RegionI.wpAnyI_take (i := 25) (v := ?_) rfl (by kernel_rfl) (by kernel_rfl) (by kernel_rfl) (by kernel_rfl) (by kernel_rfl) dP30 (fun _ _ _ h => h) (by rfl) ?_ hS ?_
        rotate_left
        · (intro X hX; go_simp; try with_reducible rfl)
        refine RegionI.wpAnyI_take (i := 26) (v := ?_) rfl (by kernel_rfl) (by kernel_rfl) (by kernel_rfl) (by kernel_rfl) (by kernel_rfl) dP30 (fun _ _ _ h => h) (by rfl) ?_ hS ?_
        rotate_left
        · (intro X hX; go_simp; try with_reducible rfl)
        refine RegionI.wpAnyI_take (i := 27) (v := ?_) rfl (by kernel_rfl) (by kernel_rfl) (by kernel_rfl) (by kernel_rfl) (by kernel_rfl) dP30 (fun _ _ _ h => h) (by rfl) ?_ hS ?_
        rotate_left
        · (intro X hX; go_simp; try with_reducible rfl)
        clear hS
        have of16 : ∀ l : List Int, l.length = 16 → ofV l = true ∧ ofB l = l := fun l hl => ⟨by unfold ofV; exact decide_eq_true hl, by unfold ofB; rw [if_pos (.inr hl), hl]; simp [zs]⟩
        have HA1 := Aside0.mk (fun W hr => address_any sA sc sb W hr)
        have HA2 := Aside0.mk (fun W hr => address_any dA dc db W hr)
        rw [(of16 sb HLS.out.1).1, (of16 sb HLS.out.1).2] at HA1
        rw [(of16 db HLS.out.2).1, (of16 db HLS.out.2).2] at HA2
        clear of16
        refine RegionI.wpAnyI_one (i := 4) (by kernel_rfl) rfl (fun K hK => ?_)
        go_simp
        refine (HA1.out _ HSC.out.1).mono ?_
        rintro e V1 ⟨rfl, hB⟩
        refine hK _ _ ⟨fun _ => hB, ?_⟩
        clear hK K
        refine RegionI.wpAnyI_one (i := 9) (by kernel_rfl) rfl (fun K hK => ?_)
        go_simp
        refine (HA2.out _ (Kd.C_below HSC.out.2 hB)).mono ?_
        rintro e V2 ⟨rfl, hB2⟩
        replace hB := below_step hB hB2
        refine hK _ _ ⟨fun _ => hB, ?_⟩
        clear hK K hB2
        refine RegionI.wpAnyI_one (i := 28) (by kernel_rfl) rfl (fun K hK => ?_)
        go_simp
        have hcl := Clone_any _ (c - 40) (xs.drop 40) V2 (cut40 (Kd.C_below HX.out.1 (below_step HM2.out.2 hB)) HLen.out HX.out.2.1) (by have := HX.out.2.2.2; simp; omega)
        rw [List.length_drop] at hcl
        have hszV := (below_step HM2.out.2 hB).size
        refine hcl.mono ?_
        rintro e V3 ⟨vd, rfl, hOd, hB3⟩
        replace hB := below_step hB hB3
        have hM3 := And.intro (blk_below HM2.out.1 hB) (below_step HM2.out.2 hB)
        obtain ⟨eA, ec, rfl, hec, -⟩ := hOd.reads hOd.len63
        refine hK _ _ ⟨fun _ => hB, ?_⟩
        clear hK K hcl hB3
        have HBB := Aside0.mk hB
        clear hB
        obtain ⟨V4, hst, hb4, hB4, hg4⟩ := h_over (w := w) HOKP.out zP_ok ⟨none, 0, eA, ec⟩ (Nat.le_refl _) hM3.2 hM3.1
        have HST := Aside0.mk hst
        have hfl := fillH HOKP.out ⟨none, 0, eA, ec⟩ [(0, .bool true), (1, .agg (av true sb)), (2, .agg (av true db)), (3, .int .i64 p6), (4, .int .i64 t7), (5, .int .i64 tsv), (8, .int .i64 lbv), (10, .slice eA (xs.drop 40).length ec)] (by
          intro p hp
          rw [HP6.out]
          simp only [List.mem_cons, List.not_mem_nil, or_false] at hp
          rcases hp with rfl | rfl | rfl | rfl | rfl | rfl | rfl | rfl <;> simp [allp]) (by
          intro i hi hn
          rw [HP6.out]
          rcases (show i = 0 ∨ i = 1 ∨ i = 2 ∨ i = 3 ∨ i = 4 ∨ i = 5 ∨ i = 6 ∨ i = 7 ∨ i = 8 ∨ i = 9 ∨ i = 10 by omega) with rfl | rfl | rfl | rfl | rfl | rfl | rfl | rfl | rfl | rfl | rfl
          · exact absurd rfl (hn (0, .bool true) (by simp))
          · exact absurd rfl (hn (1, .agg (av true sb)) (by simp))
          · exact absurd rfl (hn (2, .agg (av true db)) (by simp))
          · exact absurd rfl (hn (3, .int .i64 p6) (by simp))
          · exact absurd rfl (hn (4, .int .i64 t7) (by simp))
          · exact absurd rfl (hn (5, .int .i64 tsv) (by simp))
          · rfl
          · rfl
          · exact absurd rfl (hn (8, .int .i64 lbv) (by simp))
          · rfl
          · exact absurd rfl (hn (10, .slice eA (xs.drop 40).length ec) (by simp)))
        have HBD : Aside0 (Try.prog.built 28 _ = _) := ⟨(built_hh _).trans hfl⟩
        have hRB : Owns V4 w.heap.size (.slice none (P6 xs).ol.length 0) (P6 xs).ol ∧ Owns V4 w.heap.size (.slice eA (P6 xs).dl.length ec) (P6 xs).dl := by
          rw [HP6.out]
          exact ⟨Owns.nil _ _, (hOd.other hg4 (hOd.ne hM3.1 (by decide))).lower hszV⟩
        have HFIN : Aside0 (ParR (par6 xs) w (.returned (.tuple #[.agg (flat (hseg (P6 xs) ⟨none, 0, eA, ec⟩)), .int .i64 0])) V4) := ⟨by rw [HE6.out]; exact ⟨_, rfl, hRB.1, hRB.2, hB4⟩⟩
        have HF := Aside0.mk hb4
        clear hst hb4 hB4 hg4 hfl hRB hM3 hOd hec
        rw [List.length_drop] at HBD
        refine RegionI.wpAnyI_one (i := 29) (by kernel_rfl) rfl (fun K hK => ?_)
        refine StepX.step_run (by rfl) (exec_build rfl (by go_simp) HBD.out) ?_
        go_simp
        refine hK _ _ ⟨fun _ => HBB.out, ?_⟩
        clear hK K
        refine RegionI.wpAnyI_one (i := 30) (by kernel_rfl) rfl (fun K hK => ?_)
        refine StepX.step_skip (by rfl) (exec_store rfl (by go_simp) (by go_simp) HST.out) ?_
        go_simp
        refine hK _ _ ⟨fun h => absurd h (by decide), ?_⟩
        clear hK K
        refine RegionI.wpAnyI_one (i := 31) (by kernel_rfl) rfl (fun K hK => ?_)
        go_simp
        refine hK _ _ ⟨fun h => absurd h (by decide), ?_⟩
        clear hK K
        refine RegionI.wpAnyI_done (by kernel_rfl) ?_ _
        go_wp2_with fail
        all_goals (refine bodyPost_ret (results_h2 rfl _ _ HOKP.out rfl HF.out) rfl ?_; exact HFIN.out)
end Go.Proofs.Ytjidoedlmpjmnaa.Hdr
namespace Go.Proofs.Ytjidoedlmpjmnaa.Hdr
open Go.RowKit Go.Proofs.Ytjidoedlmpjmnaa.SumsP Go.Proofs.Ytjidoedlmpjmnaa.SumW Go.Proofs.Ytjidoedlmpjmnaa.Cur Go.Proofs.Ytjidoedlmpjmnaa.Own Go.Proofs.Ytjidoedlmpjmnaa.StepX Go.Proofs.Ytjidoedlmpjmnaa.AddrW Go.Proofs.Ytjidoedlmpjmnaa.Segs Go.Proofs.Ytjidoedlmpjmnaa.Mem Go.Proofs.Ytjidoedlmpjmnaa.AddrEq Go.Proofs.Ytjidoedlmpjmnaa.Bits Go.Proofs.Ytjidoedlmpjmnaa.Help Go.Proofs.YtjidoedlmpjmnaaW.PrintWords Go.Proofs.YtjidoedlmpjmnaaW.PrintLast Go.Proofs.YtjidoedlmpjmnaaW.PrintMore
set_option linter.unusedVariables false
set_option linter.unusedSimpArgs false
theorem nat_and_pow (n i : Nat) : n &&& 2 ^ i = if n / 2 ^ i % 2 = 1 then 2 ^ i else 0 := by
  apply Nat.eq_of_testBit_eq
  intro j
  rw [Nat.testBit_and, Nat.testBit_two_pow]
  by_cases hij : i = j
  · subst hij
    rw [Nat.testBit_eq_decide_div_mod_eq]
    by_cases h : n / 2 ^ i % 2 = 1
    · simp [h, Nat.testBit_two_pow]
    · simp [h]
  · split <;> simp [hij, Nat.testBit_two_pow]
theorem and_pow (i : Nat) (hi : i ≤ 30) {x : Int} (h0 : 0 ≤ x) (h1 : x < 4611686018427387904) : Go.bits .and .i64 x ((2 ^ i : Nat) : Int) = if x / ((2 ^ i : Nat) : Int) % 2 = 1 then ((2 ^ i : Nat) : Int) else 0 := by
  obtain ⟨n, rfl⟩ := Int.eq_ofNat_of_zero_le h0
  have hp : 2 ^ i ≤ 1073741824 := by have := Nat.pow_le_pow_right (show 0 < 2 by decide) hi; simpa using this
  have hn : n < 4611686018427387904 := by omega
  have h := bits_and (n := 64) (k := .u64) rfl rfl (BitVec.ofNat 64 n) (BitVec.ofNat 64 (2 ^ i))
  have e1 : (BitVec.ofNat 64 n).toNat = n := by rw [BitVec.toNat_ofNat]; exact Nat.mod_eq_of_lt (by omega)
  have e2 : (BitVec.ofNat 64 (2 ^ i)).toNat = 2 ^ i := by rw [BitVec.toNat_ofNat]; exact Nat.mod_eq_of_lt (by omega)
  rw [BitVec.toNat_and, e1, e2, nat_and_pow] at h
  have hd : ((n : Int) / ((2 ^ i : Nat) : Int) % 2 = 1) ↔ (n / 2 ^ i % 2 = 1) := by
    rw [← Int.natCast_ediv]
    generalize n / 2 ^ i = q
    omega
  have hr : (Go.bits .and .u64 (n : Int) ((2 ^ i : Nat) : Int)) = if (n : Int) / ((2 ^ i : Nat) : Int) % 2 = 1 then ((2 ^ i : Nat) : Int) else 0 := by
    rw [h]
    by_cases hb : n / 2 ^ i % 2 = 1
    · rw [if_pos (hd.2 hb)]; simp [hb]
    · rw [if_neg (fun e => hb (hd.1 e))]; simp [hb]
  generalize hR : (if (n : Int) / ((2 ^ i : Nat) : Int) % 2 = 1 then ((2 ^ i : Nat) : Int) else 0) = R at *
  have hRb : 0 ≤ R ∧ R ≤ 1073741824 := by rw [← hR]; split <;> omega
  unfold Go.bits at hr ⊢
  rw [wrap_u64] at hr
  dsimp only at hr ⊢
  have hN : ∀ N : Nat, N < 18446744073709551616 → ((N : Int) % 18446744073709551616 = R) → IntKind.i64.wrap (N : Int) = R := fun N hN e => by
    rw [IntWalk.i64_in _ (by omega)]; omega
  exact hN _ (BitVec.isLt _) hr
theorem and_bad {x : Int} (h0 : 0 ≤ x) (h1 : x < 65536) : Go.bits .and .i64 x 32768 = if 32768 ≤ x then 32768 else 0 := by
  have h := and_pow 15 (by decide) h0 (x := x) (by omega)
  have e : ((2 ^ 15 : Nat) : Int) = 32768 := by decide
  rw [e] at h
  rw [h]
  split <;> split <;> omega
theorem and_dont {x : Int} (h0 : 0 ≤ x) (h1 : x < 32768) : Go.bits .and .i64 x 16384 = if 16384 ≤ x then 16384 else 0 := by
  have h := and_pow 14 (by decide) h0 (x := x) (by omega)
  have e : ((2 ^ 14 : Nat) : Int) = 16384 := by decide
  rw [e] at h
  rw [h]
  split <;> split <;> omega
theorem addN (k : Nat) (hk : k ≠ 0) (x : Addr) : x.add k = { block := x.block, off := x.off + k } := by
  unfold Addr.add
  rw [if_neg hk]
/-- Bytes from a place on, as far as another one. -/
theorem cutC {w : World} {A : Option Addr} {xs : List Int} {c : Nat} (k m : Nat) (hk : k ≠ 0) (h : Kd.C (Kd.int .u8) w A xs.length xs) (hkm : k ≤ m) (hm : m ≤ xs.length) (hc : xs.length ≤ c) :
    Kd.C (Kd.int .u8) w (if c = k then A else Option.map (fun x => { block := x.block, off := x.off + k }) A) (m - k) ((xs.take m).drop k) := by
  have h1 := Cur.C_cut h k (m - k) (by omega)
  have e : (xs.drop k).take (m - k) = (xs.take m).drop k := by rw [List.drop_take]
  rw [e] at h1
  split
  · have h2 : (xs.take m).drop k = [] := List.drop_eq_nil_of_le (by simp; omega)
    rw [h2, show m - k = 0 by omega]
    exact Cur.C_zero _ _
  · rw [show (fun x : Addr => ({ block := x.block, off := x.off + k } : Addr)) = (fun x => x.add k) from funext fun x => (addN k hk x).symm]
    exact h1
theorem cutF {w : World} {A : Option Addr} {xs : List Int} {c : Nat} (k m : Nat) (hk : k ≠ 0) (f : Addr → Addr) (hf : ∀ x, f x = x.add k) (h : Kd.C (Kd.int .u8) w A xs.length xs) (hkm : k ≤ m) (hm : m ≤ xs.length) (hc : xs.length ≤ c) :
    Kd.C (Kd.int .u8) w (if c = k then A else Option.map f A) ((xs.take m).drop k).length ((xs.take m).drop k) := by
  have h1 := Cur.C_cut h k (m - k) (by omega)
  have e : (xs.drop k).take (m - k) = (xs.take m).drop k := by rw [List.drop_take]
  rw [e] at h1
  split
  · have h2 : (xs.take m).drop k = [] := List.drop_eq_nil_of_le (by simp; omega)
    rw [h2]
    exact Cur.C_zero _ _
  · rw [show f = (fun x => x.add k) from funext hf, List.length_drop, List.length_take, Nat.min_eq_left hm]
    exact h1
theorem headC {w : World} {A : Option Addr} {xs : List Int} (m : Nat) (h : Kd.C (Kd.int .u8) w A xs.length xs) (hm : m ≤ xs.length) : Kd.C (Kd.int .u8) w A (xs.take m).length (xs.take m) := by
  have h1 := Cur.C_cut h 0 m (by omega)
  rw [List.drop_zero] at h1
  rw [show (A.map (·.add 0)) = A by cases A <;> simp [Addr.add]] at h1
  rw [List.length_take, Nat.min_eq_left hm]
  exact h1
/-- A value's number, by its place. -/
theorem nOf_any (W : World) (b4 g cv ln : Nat) (N : Int) (i : Nat) (hb : W.heap[b4]? = some (.cells #[.slice (some ⟨g, 0, none⟩) ln cv] 57 (0, 0))) (hi : i < ln) (hc : W.cell? ⟨g, i * 2, none⟩ = some (.int .u64 N)) (h0 : 0 ≤ N ∧ N < 4611686018427387904) :
    Calls Try.prog 52 #[.int .i64 (i : Int), .pointer (some ⟨b4, 0, none⟩)] W fun e w' => e = .returned (.int .i64 N) ∧ W = w' := by
  have hld : (loadVar 57 ⟨b4, 0, none⟩).run Try.prog W = .ok (.slice (some ⟨g, 0, none⟩) ln cv) W := Cur.load_one (blk_cell hb 0) Try.underlying57 rfl
  have c4 := blk_cell hb 0
  have hw : IntKind.i64.wrap N = N := wrap64_in (by omega)
  have hi2 : (i : Int) < (ln : Int) := by omega
  have hi0 : (0 : Int) ≤ (i : Int) := by omega
  clear h0
  go_enter Try.func52, Try.ntmps52
  go_wp2_with fail
  go_ret
  exact ⟨rfl, rfl⟩
end Go.Proofs.Ytjidoedlmpjmnaa.Hdr
namespace Go.Proofs.Ytjidoedlmpjmnaa.Hdr
open Go.RowKit Go.Proofs.Ytjidoedlmpjmnaa.SumsP Go.Proofs.Ytjidoedlmpjmnaa.SumW Go.Proofs.Ytjidoedlmpjmnaa.Cur Go.Proofs.Ytjidoedlmpjmnaa.Own Go.Proofs.Ytjidoedlmpjmnaa.StepX Go.Proofs.Ytjidoedlmpjmnaa.AddrW Go.Proofs.Ytjidoedlmpjmnaa.Segs Go.Proofs.Ytjidoedlmpjmnaa.Mem Go.Proofs.Ytjidoedlmpjmnaa.AddrEq Go.Proofs.Ytjidoedlmpjmnaa.Bits Go.Proofs.Ytjidoedlmpjmnaa.Help Go.Proofs.YtjidoedlmpjmnaaW.PrintWords Go.Proofs.YtjidoedlmpjmnaaW.PrintLast Go.Proofs.YtjidoedlmpjmnaaW.PrintMore
set_option linter.unusedVariables false
set_option linter.unusedSimpArgs false
set_option maxRecDepth 20000
theorem dP31 (j : Nat) (hj : 33 ≤ j) : (j == 31 || j == 32) = false := by simp; omega
/-- What is known from where the values are read on. -/
structure FF (w : World) (b4 g cv : Nat) (xs : List Int) (V W : World) : Prop where
  z : BH 28 w.heap.size zP zL W
  b : Below w.heap.size w W
  l : Below V.heap.size V W
theorem FF.below {w V W W1 : World} {b4 g cv : Nat} {xs : List Int} (h : FF w b4 g cv xs V W) (hB : Below W.heap.size W W1) : FF w b4 g cv xs V W1 := ⟨blk_below h.z hB, below_step h.b hB, below_step h.l hB⟩
set_option maxHeartbeats 16000000 in
theorem parseFour_any (A : Option Addr) (c : Nat) (xs : List Int) (w : World) (hr : Kd.C (Kd.int .u8) w A xs.length xs) (hc : xs.length ≤ c) (hx : CurP.AllB xs) (hb : xs.length ≤ 140737488351232) :
    Calls Try.prog 33 #[.slice A xs.length c] w (ParR (par4 xs) w) := by
  have HX := Aside0.mk (And.intro hr (And.intro hc (And.intro hx hb)))
  have HP : Aside0 (∀ r e w', ParR r w e w' = ∃ q, e = .returned (.tuple #[.agg (flat (hseg r.2 q)), .int .i64 r.1]) ∧ Owns w' w.heap.size (.slice q.oA r.2.ol.length q.oc) r.2.ol ∧ Owns w' w.heap.size (.slice q.dA r.2.dl.length q.dc) r.2.dl ∧ Below w.heap.size w w') := ⟨fun _ _ _ => rfl⟩
  have HZ : Aside0 (BH 28 w.heap.size zP zL (w.alloc (.cells (flat (hseg zP zL)) 28)) ∧ Below w.heap.size w (w.alloc (.cells (flat (hseg zP zL)) 28))) := ⟨blk_new w _, below_alloc (Below.refl _ _) _⟩
  have HERR : Aside0 (∀ W, BH 28 w.heap.size zP zL W → Below w.heap.size w W → ∃ W1, (storeVar 28 ⟨w.heap.size, 0, none⟩ (.agg (flat (hseg zP zL)))).run Try.prog W = .ok () W1 ∧ BH 28 w.heap.size zP zL W1 ∧ Below w.heap.size w W1) := ⟨fun W h1 h2 => by
    obtain ⟨W1, a, b, c, -⟩ := h_over (w := w) zP_ok zP_ok zL (Nat.le_refl _) h2 h1
    exact ⟨W1, a, b, c⟩⟩
  have HBU := Aside0.mk built_h0
  clear hr hc hx hb
  go_enter Try.func33, Try.ntmps33
  go_upto_region 1 with fail
  change Code.wp _ _ _ _ (w.alloc (.cells (flat (hseg zP zL)) 28))
  generalize w.alloc (.cells (flat (hseg zP zL)) 28) = W0 at *
  go_wp2_with fail
  refine (four_any _).mono ?_
  rintro e W1 ⟨y, rfl, hy, hB⟩
  have HM1 : Aside0 (BH 28 w.heap.size zP zL W1 ∧ Below w.heap.size w W1) := ⟨blk_below HZ.out.1 hB, below_step HZ.out.2 hB⟩
  have HRUN := Aside0.mk (Run_any W1 A (some ⟨y, 0, none⟩) c 10 xs ops4 (Kd.C_below HX.out.1 HM1.out.2) HX.out.2.1 (by have := HX.out.2.2.2; omega) (ops_lit ops4 (by decide) hy) (by decide) (by decide) HX.out.2.2.1 HX.out.2.2.2 (by decide))
  clear hB hy
  go_wp2_with fail
  refine HRUN.out.mono ?_
  rintro e W2 ⟨v, rfl, hS, hB⟩
  have HM2 : Aside0 (BH 28 w.heap.size zP zL W2 ∧ Below w.heap.size w W2) := ⟨blk_below HM1.out.1 hB, below_step HM1.out.2 hB⟩
  clear hB HM1 HRUN HZ
  by_cases hl : xs.length < 20
  · have hE : (CurP.runL xs 0 ops4).2.2 = 10 := run4_short hl
    have HE : Aside0 (par4 xs = (10, zP)) := ⟨by unfold par4 E4; rw [if_pos hl]; rfl⟩
    rw [hE]
    obtain ⟨vA, vc, rfl⟩ := Kd.S_slice hS
    generalize (CurP.runL xs 0 ops4).1.length = vn at *
    generalize (CurP.runL xs 0 ops4).2.1 = at_ at *
    have HM3 : Aside0 (BH 28 w.heap.size zP zL (W2.alloc (.cells #[.slice vA vn vc] 57)) ∧ Below w.heap.size w (W2.alloc (.cells #[.slice vA vn vc] 57))) := ⟨blk_alloc HM2.out.1 _, below_alloc HM2.out.2 _⟩
    obtain ⟨W3, hst, hz3, hb3⟩ := HERR.out _ HM3.out.1 HM3.out.2
    have HST := Aside0.mk hst
    have HF : Aside0 (BH 28 w.heap.size zP zL W3) := ⟨hz3⟩
    have HFIN : Aside0 (ParR (par4 xs) w (.returned (.tuple #[.agg (flat (hseg zP zL)), .int .i64 10])) W3) := ⟨by rw [HE.out]; exact ⟨zL, rfl, Owns.nil _ _, Owns.nil _ _, hb3⟩⟩
    clear hS hst hz3 hb3 hE hl HM3
    go_wp2_with (first | ((with_reducible refine gate_dst (N := 19) rfl ?_); refine Kd.event_run rfl (exec_build rfl (by go_simp) HBU.out) ?_) | ((with_reducible refine gate_store (t := 28) rfl ?_); refine event_skip rfl (exec_store rfl rfl rfl HST.out) ?_))
    refine bodyPost_ret (results_h2 rfl _ _ zP_ok rfl HF.out) rfl ?_
    exact HFIN.out
  · have hrun4 : CurP.runL xs 0 ops4 = (v4L xs, 20, 0) := run4 (by omega)
    rw [hrun4] at hS ⊢
    dsimp only at hS ⊢
    obtain ⟨g, cv, rfl, hcv, hC⟩ := S_at hS (by simp [v4L])
    clear hS hrun4
    have hv10 : (v4L xs).length = 10 := rfl
    have n0 : W2.cell? ⟨g, 0 * 2, none⟩ = some (.int .u64 (xs.getD 0 0)) := vN hC 0 (by show 0 < 10; decide)
    have n1 : W2.cell? ⟨g, 1 * 2, none⟩ = some (.int .u64 (xs.getD 1 0)) := vN hC 1 (by show 1 < 10; decide)
    have n2 : W2.cell? ⟨g, 2 * 2, none⟩ = some (.int .u64 (two xs 2)) := vN hC 2 (by show 2 < 10; decide)
    have n3 : W2.cell? ⟨g, 3 * 2, none⟩ = some (.int .u64 (two xs 4)) := vN hC 3 (by show 3 < 10; decide)
    have n4 : W2.cell? ⟨g, 4 * 2, none⟩ = some (.int .u64 (two xs 6)) := vN hC 4 (by show 4 < 10; decide)
    have n5 : W2.cell? ⟨g, 5 * 2, none⟩ = some (.int .u64 (xs.getD 8 0)) := vN hC 5 (by show 5 < 10; decide)
    have n6 : W2.cell? ⟨g, 6 * 2, none⟩ = some (.int .u64 (xs.getD 9 0)) := vN hC 6 (by show 6 < 10; decide)
    have n7 : W2.cell? ⟨g, 7 * 2, none⟩ = some (.int .u64 (two xs 10)) := vN hC 7 (by show 7 < 10; decide)
    obtain ⟨sA, sc, m8, hsc, hsC⟩ := vB hC 8 (by show 8 < 10; decide)
    obtain ⟨dA, dc, m9, hdc, hdC⟩ := vB hC 9 (by show 9 < 10; decide)
    replace m8 : W2.cell? ⟨g, 17, none⟩ = some (.slice sA ((xs.drop 12).take 4).length sc) := m8
    replace m9 : W2.cell? ⟨g, 19, none⟩ = some (.slice dA ((xs.drop 16).take 4).length dc) := m9
    replace hsC : Kd.C (Kd.int .u8) W2 sA ((xs.drop 12).take 4).length ((xs.drop 12).take 4) := hsC
    replace hdC : Kd.C (Kd.int .u8) W2 dA ((xs.drop 16).take 4).length ((xs.drop 16).take 4) := hdC
    rw [hv10] at hcv ⊢
    have ls : ((xs.drop 12).take 4).length = 4 := by simp; omega
    have ld : ((xs.drop 16).take 4).length = 4 := by simp; omega
    have hby := fun i => (allB_bytes' HX.out.2.2.1).get i
    have b0 := hby 0; have b1 := hby 1; have b2 := hby 2; have b3 := hby 3; have b4 := hby 4; have b5 := hby 5; have b6 := hby 6; have b7 := hby 7; have b8 := hby 8; have b9 := hby 9; have b10 := hby 10; have b11 := hby 11
    have t2 : two xs 2 = xs.getD 2 0 * 256 + xs.getD 3 0 := rfl
    have t4 : two xs 4 = xs.getD 4 0 * 256 + xs.getD 5 0 := rfl
    have t6 : two xs 6 = xs.getD 6 0 * 256 + xs.getD 7 0 := rfl
    have t10 : two xs 10 = xs.getD 10 0 * 256 + xs.getD 11 0 := rfl
    obtain ⟨hn, hhn⟩ : ∃ hn : Nat, headN xs = (hn : Int) := ⟨(headN xs).toNat, by unfold headN; omega⟩
    have hh : xs.getD 0 0 % 16 * 4 = (hn : Int) := hhn
    have hrm : (xs.getD 0 0).tmod 16 = xs.getD 0 0 % 16 := Int.tmod_eq_emod_of_nonneg (by omega)
    have hml : IntKind.i64.wrap (xs.getD 0 0 % 16 * 4) = (hn : Int) := by rw [hh]; exact wrap64_in (by omega)
    have hP4 : P4 xs = ⟨false, ⟨false, (xs.drop 12).take 4 ++ zs 12⟩, ⟨false, (xs.drop 16).take 4 ++ zs 12⟩, xs.getD 9 0, xs.getD 8 0, xs.getD 1 0, two xs 4, decide (64 ≤ xs.getD 6 0), 0, (xs.take hn).drop 20, xs.drop hn⟩ := by unfold P4; rw [hhn, Int.toNat_natCast]
    have HOKP : Aside0 (OkP (P4 xs)) := ⟨by
      have hz : ∀ l : List Int, l.length = 4 → (∀ x ∈ l, 0 ≤ x ∧ x < 256) → AddrM.OkA (l ++ zs 12) := fun l h1 h2 => ⟨by simp [zs, h1], fun x hx => by
        rcases List.mem_append.1 hx with h | h
        · exact h2 x h
        · simp [zs] at h; omega⟩
      rw [hP4]
      exact ⟨hz _ ls (fun x hx => HX.out.2.2.1 x (List.mem_of_mem_drop (List.mem_of_mem_take hx))), hz _ ld (fun x hx => HX.out.2.2.1 x (List.mem_of_mem_drop (List.mem_of_mem_take hx))), ⟨by dsimp only; omega, by dsimp only; omega⟩, ⟨by dsimp only; omega, by dsimp only; omega⟩, ⟨by dsimp only; omega, by dsimp only; omega⟩, ⟨by dsimp only; omega, by dsimp only; omega⟩, ⟨by dsimp only; omega, by dsimp only; omega⟩, fun x hx => HX.out.2.2.1 x (List.mem_of_mem_take (List.mem_of_mem_drop hx)), fun x hx => HX.out.2.2.1 x (List.mem_of_mem_drop hx), by have := HX.out.2.2.2; simp; omega, by have := HX.out.2.2.2; simp; omega⟩⟩
    have hE4 : E4 xs = if (hn : Int) < 20 ∨ two xs 2 < (hn : Int) then 11 else if (xs.length : Int) < two xs 2 then 10 else if two xs 2 < (xs.length : Int) then 11 else if two xs 10 ≠ InetS (zero2 (xs.take hn) 10) then 12 else if 32768 ≤ two xs 6 then 11 else if two xs 6 % 16384 ≠ 0 then 15 else 0 := by
      unfold E4
      rw [if_neg hl, hhn, Int.toNat_natCast]
      have e : (if 128 ≤ xs.getD 6 0 then (11 : Int) else if two xs 6 % 16384 ≠ 0 then 15 else 0) = (if 32768 ≤ two xs 6 then 11 else if two xs 6 % 16384 ≠ 0 then 15 else 0) := by
        by_cases h : 128 ≤ xs.getD 6 0
        · rw [if_pos h, if_pos (by omega)]
        · have h' : ¬ 32768 ≤ two xs 6 := by omega
          rw [if_neg h, if_neg h']
      rw [e]
    have hdf : 32768 > two xs 6 → decide (64 ≤ xs.getD 6 0) = decide (16384 ≤ two xs 6) := fun h => decide_eq_decide.2 (by omega)
    have and1 := and_bad (x := two xs 6) (by omega) (by omega)
    have and2 := and14 (x := two xs 6) (by omega) (by omega)
    have and3 : two xs 6 < 32768 → Go.bits .and .i64 (two xs 6) 16384 = if 16384 ≤ two xs 6 then 16384 else 0 := fun h => and_dont (by omega) h
    have i0 : 0 ≤ xs.getD 0 0 ∧ xs.getD 0 0 < 4611686018427387904 := by omega
    have i1 : 0 ≤ xs.getD 1 0 ∧ xs.getD 1 0 < 4611686018427387904 := by omega
    have i2 : 0 ≤ two xs 2 ∧ two xs 2 < 4611686018427387904 := by omega
    have i3 : 0 ≤ two xs 4 ∧ two xs 4 < 4611686018427387904 := by omega
    have i4 : 0 ≤ two xs 6 ∧ two xs 6 < 65536 := by omega
    have i5 : 0 ≤ xs.getD 8 0 ∧ xs.getD 8 0 < 4611686018427387904 := by omega
    have i6 : 0 ≤ xs.getD 9 0 ∧ xs.getD 9 0 < 4611686018427387904 := by omega
    have i7 : 0 ≤ two xs 10 ∧ two xs 10 < 4611686018427387904 := by omega
    have h60 : hn ≤ 60 := by omega
    have HP4 := Aside0.mk hP4
    have HE4 := Aside0.mk (And.intro hE4 (And.intro hdf (And.intro and2 and3)))
    have HA1 := Aside0.mk and1
    have HLS := Aside0.mk (And.intro ls ld)
    have HL20 : Aside0 (20 ≤ xs.length) := ⟨by omega⟩
    have hBn := below_alloc (Below.refl W2.heap.size W2) (.cells #[.slice (some ⟨g, 0, none⟩) 10 cv] 57)
    have HV : Aside0 ((W2.alloc (.cells #[.slice (some ⟨g, 0, none⟩) 10 cv] 57)).heap[W2.heap.size]? = some (.cells #[.slice (some ⟨g, 0, none⟩) 10 cv] 57 (0, 0))) := ⟨blk_new W2 _⟩
    have HFF : Aside0 (FF w W2.heap.size g cv xs (W2.alloc (.cells #[.slice (some ⟨g, 0, none⟩) 10 cv] 57)) (W2.alloc (.cells #[.slice (some ⟨g, 0, none⟩) 10 cv] 57))) := ⟨⟨blk_below HM2.out.1 hBn, below_step HM2.out.2 hBn, Below.refl _ _⟩⟩
    have HN := Aside0.mk (And.intro (pw_cell_below hBn n0) (And.intro (pw_cell_below hBn n1) (And.intro (pw_cell_below hBn n2) (And.intro (pw_cell_below hBn n3) (And.intro (pw_cell_below hBn n4) (And.intro (pw_cell_below hBn n5) (And.intro (pw_cell_below hBn n6) (pw_cell_below hBn n7))))))))
    have HSD := Aside0.mk (And.intro (pw_cell_below hBn m8) (And.intro (pw_cell_below hBn m9) (And.intro (Kd.C_below hsC hBn) (Kd.C_below hdC hBn))))
    have HI := Aside0.mk (And.intro i0 (And.intro i1 (And.intro i2 (And.intro i3 (And.intro i4 (And.intro i5 (And.intro i6 i7)))))))
    have HL63 := HX.out.2.2.2
    have hcc := HX.out.2.1
    clear hC hby b0 b1 b2 b3 b4 b5 b6 b7 b8 b9 b10 b11 t2 t4 t6 t10 hE4 hdf and1 and2 and3 hP4 n0 n1 n2 n3 n4 n5 n6 n7 m8 m9 hsC hdC hBn hv10 ls ld hhn HM2 i0 i1 i2 i3 i4 i5 i6 i7 hl hh hsc hdc
    generalize two xs 2 = al at *
    generalize two xs 4 = idv at *
    generalize two xs 6 = fl at *
    generalize two xs 10 = ck at *
    generalize xs.getD 0 0 = x0 at *
    generalize xs.getD 1 0 = x1 at *
    generalize xs.getD 8 0 = x8 at *
    generalize xs.getD 9 0 = x9 at *
    generalize (xs.drop 12).take 4 = sb at *
    generalize (xs.drop 16).take 4 = db at *
    have HRM := Aside0.mk (And.intro hrm hml)
    clear hrm hml
    go_upto_region 2 with fail
    generalize hV : W2.alloc (.cells #[.slice (some ⟨g, 0, none⟩) 10 cv] 57) = V at *
    generalize W2.heap.size = b4 at *
    clear hV
    have hq10 : (10 : Nat) ≤ cv := hcv
    have K0 : Aside0 (∀ W, Below V.heap.size V W → Calls Try.prog 52 #[.int .i64 ((0 : Nat) : Int), .pointer (some ⟨b4, 0, none⟩)] W fun e w' => e = .returned (.int .i64 x0) ∧ W = w') := ⟨fun W hB => nOf_any W b4 g cv 10 x0 0 (blk_below HV.out hB) (by decide) (pw_cell_below hB HN.out.1) HI.out.1⟩
    have K1 : Aside0 (∀ W, Below V.heap.size V W → Calls Try.prog 52 #[.int .i64 ((1 : Nat) : Int), .pointer (some ⟨b4, 0, none⟩)] W fun e w' => e = .returned (.int .i64 x1) ∧ W = w') := ⟨fun W hB => nOf_any W b4 g cv 10 x1 1 (blk_below HV.out hB) (by decide) (pw_cell_below hB HN.out.2.1) HI.out.2.1⟩
    have K2 : Aside0 (∀ W, Below V.heap.size V W → Calls Try.prog 52 #[.int .i64 ((2 : Nat) : Int), .pointer (some ⟨b4, 0, none⟩)] W fun e w' => e = .returned (.int .i64 al) ∧ W = w') := ⟨fun W hB => nOf_any W b4 g cv 10 al 2 (blk_below HV.out hB) (by decide) (pw_cell_below hB HN.out.2.2.1) HI.out.2.2.1⟩
    have K3 : Aside0 (∀ W, Below V.heap.size V W → Calls Try.prog 52 #[.int .i64 ((3 : Nat) : Int), .pointer (some ⟨b4, 0, none⟩)] W fun e w' => e = .returned (.int .i64 idv) ∧ W = w') := ⟨fun W hB => nOf_any W b4 g cv 10 idv 3 (blk_below HV.out hB) (by decide) (pw_cell_below hB HN.out.2.2.2.1) HI.out.2.2.2.1⟩
    have K4 : Aside0 (∀ W, Below V.heap.size V W → Calls Try.prog 52 #[.int .i64 ((4 : Nat) : Int), .pointer (some ⟨b4, 0, none⟩)] W fun e w' => e = .returned (.int .i64 fl) ∧ W = w') := ⟨fun W hB => nOf_any W b4 g cv 10 fl 4 (blk_below HV.out hB) (by decide) (pw_cell_below hB HN.out.2.2.2.2.1) ⟨HI.out.2.2.2.2.1.1, by have := HI.out.2.2.2.2.1.2; omega⟩⟩
    have K5 : Aside0 (∀ W, Below V.heap.size V W → Calls Try.prog 52 #[.int .i64 ((5 : Nat) : Int), .pointer (some ⟨b4, 0, none⟩)] W fun e w' => e = .returned (.int .i64 x8) ∧ W = w') := ⟨fun W hB => nOf_any W b4 g cv 10 x8 5 (blk_below HV.out hB) (by decide) (pw_cell_below hB HN.out.2.2.2.2.2.1) HI.out.2.2.2.2.2.1⟩
    have K6 : Aside0 (∀ W, Below V.heap.size V W → Calls Try.prog 52 #[.int .i64 ((6 : Nat) : Int), .pointer (some ⟨b4, 0, none⟩)] W fun e w' => e = .returned (.int .i64 x9) ∧ W = w') := ⟨fun W hB => nOf_any W b4 g cv 10 x9 6 (blk_below HV.out hB) (by decide) (pw_cell_below hB HN.out.2.2.2.2.2.2.1) HI.out.2.2.2.2.2.2.1⟩
    have K7 : Aside0 (∀ W, Below V.heap.size V W → Calls Try.prog 52 #[.int .i64 ((7 : Nat) : Int), .pointer (some ⟨b4, 0, none⟩)] W fun e w' => e = .returned (.int .i64 ck) ∧ W = w') := ⟨fun W hB => nOf_any W b4 g cv 10 ck 7 (blk_below HV.out hB) (by decide) (pw_cell_below hB HN.out.2.2.2.2.2.2.2) HI.out.2.2.2.2.2.2.2⟩
    go_wp2_with fail
    refine (K0.out _ HFF.out.l).mono ?_
    rintro e w3 ⟨rfl, rfl⟩
    have hrm := HRM.out.1
    have hml := HRM.out.2
    go_wp2_with fail
    refine (K2.out _ HFF.out.l).mono ?_
    rintro e w3 ⟨rfl, rfl⟩
    clear hrm hml
    by_cases h1 : (hn : Int) < 20
    ·
      have eE : E4 xs = 11 := by rw [HE4.out.1, if_pos (.inl h1)]
      have HEE : Aside0 (par4 xs = (11, zP)) := ⟨by unfold par4; rw [eE]; rfl⟩
      obtain ⟨W3, hst, hz3, hb3⟩ := HERR.out _ HFF.out.z HFF.out.b
      have HST := Aside0.mk hst
      have HF : Aside0 (BH 28 w.heap.size zP zL W3) := ⟨hz3⟩
      have HFIN : Aside0 (ParR (par4 xs) w (.returned (.tuple #[.agg (flat (hseg zP zL)), .int .i64 11])) W3) := ⟨by rw [HEE.out]; exact ⟨zL, rfl, Owns.nil _ _, Owns.nil _ _, hb3⟩⟩
      clear hst hz3 hb3 eE
      go_wp2_with (first | ((with_reducible refine gate_dst (N := 36) rfl ?_); refine Kd.event_run rfl (exec_build rfl (by go_simp) HBU.out) ?_) | ((with_reducible refine gate_store (t := 28) rfl ?_); refine event_skip rfl (exec_store rfl rfl rfl HST.out) ?_))
      refine bodyPost_ret (results_h2 rfl _ _ zP_ok rfl HF.out) rfl ?_
      exact HFIN.out
    have H1 := Aside0.mk h1
    by_cases h2 : al < (hn : Int)
    ·
      have eE : E4 xs = 11 := by rw [HE4.out.1, if_pos (.inr h2)]
      have HEE : Aside0 (par4 xs = (11, zP)) := ⟨by unfold par4; rw [eE]; rfl⟩
      obtain ⟨W3, hst, hz3, hb3⟩ := HERR.out _ HFF.out.z HFF.out.b
      have HST := Aside0.mk hst
      have HF : Aside0 (BH 28 w.heap.size zP zL W3) := ⟨hz3⟩
      have HFIN : Aside0 (ParR (par4 xs) w (.returned (.tuple #[.agg (flat (hseg zP zL)), .int .i64 11])) W3) := ⟨by rw [HEE.out]; exact ⟨zL, rfl, Owns.nil _ _, Owns.nil _ _, hb3⟩⟩
      clear hst hz3 hb3 eE
      go_wp2_with (first | ((with_reducible refine gate_dst (N := 36) rfl ?_); refine Kd.event_run rfl (exec_build rfl (by go_simp) HBU.out) ?_) | ((with_reducible refine gate_store (t := 28) rfl ?_); refine event_skip rfl (exec_store rfl rfl rfl HST.out) ?_))
      refine bodyPost_ret (results_h2 rfl _ _ zP_ok rfl HF.out) rfl ?_
      exact HFIN.out
    have H2 := Aside0.mk h2
    by_cases h3 : (xs.length : Int) < al
    ·
      have eE : E4 xs = 10 := by rw [HE4.out.1, if_neg (fun h => h.elim H1.out H2.out), if_pos h3]
      have HEE : Aside0 (par4 xs = (10, zP)) := ⟨by unfold par4; rw [eE]; rfl⟩
      obtain ⟨W3, hst, hz3, hb3⟩ := HERR.out _ HFF.out.z HFF.out.b
      have HST := Aside0.mk hst
      have HF : Aside0 (BH 28 w.heap.size zP zL W3) := ⟨hz3⟩
      have HFIN : Aside0 (ParR (par4 xs) w (.returned (.tuple #[.agg (flat (hseg zP zL)), .int .i64 10])) W3) := ⟨by rw [HEE.out]; exact ⟨zL, rfl, Owns.nil _ _, Owns.nil _ _, hb3⟩⟩
      clear hst hz3 hb3 eE
      go_wp2_with (first | ((with_reducible refine gate_dst (N := 42) rfl ?_); refine Kd.event_run rfl (exec_build rfl (by go_simp) HBU.out) ?_) | ((with_reducible refine gate_store (t := 28) rfl ?_); refine event_skip rfl (exec_store rfl rfl rfl HST.out) ?_))
      refine bodyPost_ret (results_h2 rfl _ _ zP_ok rfl HF.out) rfl ?_
      exact HFIN.out
    have H3 := Aside0.mk h3
    by_cases h4 : al < (xs.length : Int)
    ·
      have eE : E4 xs = 11 := by rw [HE4.out.1, if_neg (fun h => h.elim H1.out H2.out), if_neg H3.out, if_pos h4]
      have HEE : Aside0 (par4 xs = (11, zP)) := ⟨by unfold par4; rw [eE]; rfl⟩
      obtain ⟨W3, hst, hz3, hb3⟩ := HERR.out _ HFF.out.z HFF.out.b
      have HST := Aside0.mk hst
      have HF : Aside0 (BH 28 w.heap.size zP zL W3) := ⟨hz3⟩
      have HFIN : Aside0 (ParR (par4 xs) w (.returned (.tuple #[.agg (flat (hseg zP zL)), .int .i64 11])) W3) := ⟨by rw [HEE.out]; exact ⟨zL, rfl, Owns.nil _ _, Owns.nil _ _, hb3⟩⟩
      clear hst hz3 hb3 eE
      go_wp2_with (first | ((with_reducible refine gate_dst (N := 48) rfl ?_); refine Kd.event_run rfl (exec_build rfl (by go_simp) HBU.out) ?_) | ((with_reducible refine gate_store (t := 28) rfl ?_); refine event_skip rfl (exec_store rfl rfl rfl HST.out) ?_))
      refine bodyPost_ret (results_h2 rfl _ _ zP_ok rfl HF.out) rfl ?_
      exact HFIN.out
    have H4 := Aside0.mk h4
    have HE5 : Aside0 (E4 xs = if ck ≠ InetS (zero2 (xs.take hn) 10) then 12 else if 32768 ≤ fl then 11 else if fl % 16384 ≠ 0 then 15 else 0) := ⟨by rw [HE4.out.1, if_neg (by omega : ¬ ((hn : Int) < 20 ∨ al < (hn : Int))), if_neg (by omega : ¬ ((xs.length : Int) < al)), if_neg (by omega : ¬ (al < (xs.length : Int)))]⟩
    have hmh : hn ≤ xs.length := by omega
    have hi0 : (0 : Int) ≤ (hn : Int) := by omega
    have hic : (hn : Int) ≤ (c : Int) := by omega
    have hil : (hn : Int) ≤ (xs.length : Int) := by omega
    have hin : (20 : Int) ≤ (hn : Int) := by omega
    have htl : (xs.take hn).length = hn := by rw [List.length_take]; omega
    have HCK : Aside0 (∀ W, FF w b4 g cv xs V W → Calls Try.prog 28 #[.slice A hn c] W fun e w' => e = .returned (.int .u16 (InetS (zero2 (xs.take hn) 10))) ∧ Below W.heap.size W w') := ⟨fun W hW => by
      have := check_any A c (xs.take hn) W (headC hn (Kd.C_below HX.out.1 hW.b) hmh) (by omega) ((allB_bytes' HX.out.2.2.1).take hn) (by omega)
      rw [htl] at this
      exact this⟩
    have hib := inet_bd (zero2_bytes ((allB_bytes' HX.out.2.2.1).take hn) 10)
    have HIB := Aside0.mk hib
    obtain ⟨ih, hih⟩ : ∃ ih, InetS (zero2 (xs.take hn) 10) = ih := ⟨_, rfl⟩
    rw [hih] at HE5 HCK HIB
    have hwi : IntKind.i64.wrap ih = ih := wrap64_in (by have := HIB.out; omega)
    clear hib hih htl
    go_upto_region 12 with fail
    refine RegionF.region_F (F := (FF w b4 g cv xs V)) 8 (by kernel_rfl) (by kernel_rfl) (HFF.out.below (below_drew (Below.refl _ _))) ?_
    simp only [List.take_succ_cons, List.take_zero, List.drop_succ_cons, List.drop_zero]
    repeat (first
      | (refine RegionF.wpF_skip (by rfl) ?_
         refine RegionF.wpF_put (fun K' hK' => ?_)
         go_simp
         refine hK' _ ?_
         clear hK' K')
      | (apply RegionF.wpF_step
         · rfl
         · (intro W hW; first | fail | (go_simp; first | exact RegionF.GivesF.value rfl hW | (apply RegionF.GivesF.enter; first | (exact ((K7.out _ hW.l).mono fun e w1 h => ⟨h.1, h.2 ▸ hW⟩)) | (with_reducible exact (HCK.out W hW).mono fun e w1 h => ⟨h.1, hW.below h.2⟩))))
         refine RegionF.wpF_put (fun K' hK' => ?_)
         go_simp
         refine hK' _ ?_
         clear hK' K'))
    refine RegionF.wpF_nil (fun X hX => ?_)
    replace HFF := Aside0.mk hX
    clear hX hwi
    by_cases h5 : ck = ih
    case neg =>
      have hq : (ck != ih) = true := by simpa using h5
      have hq2 : (ck == ih) = false := by simpa using h5
      have eE : E4 xs = 12 := by rw [HE5.out, if_pos h5]
      have HEE : Aside0 (par4 xs = (12, zP)) := ⟨by unfold par4; rw [eE]; rfl⟩
      obtain ⟨W3, hst, hz3, hb3⟩ := HERR.out _ HFF.out.z HFF.out.b
      have HST := Aside0.mk hst
      have HF : Aside0 (BH 28 w.heap.size zP zL W3) := ⟨hz3⟩
      have HFIN : Aside0 (ParR (par4 xs) w (.returned (.tuple #[.agg (flat (hseg zP zL)), .int .i64 12])) W3) := ⟨by rw [HEE.out]; exact ⟨zL, rfl, Owns.nil _ _, Owns.nil _ _, hb3⟩⟩
      clear hst hz3 hb3 eE
      go_wp2_with (first | ((with_reducible refine gate_dst (N := 58) rfl ?_); refine Kd.event_run rfl (exec_build rfl (by go_simp) HBU.out) ?_) | ((with_reducible refine gate_store (t := 28) rfl ?_); refine event_skip rfl (exec_store rfl rfl rfl HST.out) ?_))
      refine bodyPost_ret (results_h2 rfl _ _ zP_ok rfl HF.out) rfl ?_
      exact HFIN.out
    subst h5
    have hq : (ck == ck) = true := by simp
    go_wp2_with fail
    refine (K4.out _ HFF.out.l).mono ?_
    rintro e w3 ⟨rfl, rfl⟩
    by_cases h6 : 32768 ≤ fl
    ·
      have ha := HA1.out
      rw [if_pos h6] at ha
      have eE : E4 xs = 11 := by rw [HE5.out, if_neg (by simp), if_pos h6]
      have HEE : Aside0 (par4 xs = (11, zP)) := ⟨by unfold par4; rw [eE]; rfl⟩
      obtain ⟨W3, hst, hz3, hb3⟩ := HERR.out _ HFF.out.z HFF.out.b
      have HST := Aside0.mk hst
      have HF : Aside0 (BH 28 w.heap.size zP zL W3) := ⟨hz3⟩
      have HFIN : Aside0 (ParR (par4 xs) w (.returned (.tuple #[.agg (flat (hseg zP zL)), .int .i64 11])) W3) := ⟨by rw [HEE.out]; exact ⟨zL, rfl, Owns.nil _ _, Owns.nil _ _, hb3⟩⟩
      clear hst hz3 hb3 eE
      go_wp2_with (first | ((with_reducible refine gate_dst (N := 64) rfl ?_); refine Kd.event_run rfl (exec_build rfl (by go_simp) HBU.out) ?_) | ((with_reducible refine gate_store (t := 28) rfl ?_); refine event_skip rfl (exec_store rfl rfl rfl HST.out) ?_))
      refine bodyPost_ret (results_h2 rfl _ _ zP_ok rfl HF.out) rfl ?_
      exact HFIN.out
    have ha := HA1.out
    rw [if_neg h6] at ha
    have hflt : fl < 32768 := by omega
    go_wp2_with fail
    clear ha
    refine (K4.out _ HFF.out.l).mono ?_
    rintro e w3 ⟨rfl, rfl⟩
    have ha := HE4.out.2.2.1
    by_cases h7 : fl % 16384 = 0
    case neg =>
      have hq3 : (fl % 16384 == 0) = false := by simpa using h7
      have eE : E4 xs = 15 := by rw [HE5.out, if_neg (by simp), if_neg (by omega : ¬ (32768 ≤ fl)), if_pos h7]
      have HEE : Aside0 (par4 xs = (15, zP)) := ⟨by unfold par4; rw [eE]; rfl⟩
      obtain ⟨W3, hst, hz3, hb3⟩ := HERR.out _ HFF.out.z HFF.out.b
      have HST := Aside0.mk hst
      have HF : Aside0 (BH 28 w.heap.size zP zL W3) := ⟨hz3⟩
      have HFIN : Aside0 (ParR (par4 xs) w (.returned (.tuple #[.agg (flat (hseg zP zL)), .int .i64 15])) W3) := ⟨by rw [HEE.out]; exact ⟨zL, rfl, Owns.nil _ _, Owns.nil _ _, hb3⟩⟩
      clear hst hz3 hb3 eE
      go_wp2_with (first | ((with_reducible refine gate_dst (N := 70) rfl ?_); refine Kd.event_run rfl (exec_build rfl (by go_simp) HBU.out) ?_) | ((with_reducible refine gate_store (t := 28) rfl ?_); refine event_skip rfl (exec_store rfl rfl rfl HST.out) ?_))
      refine bodyPost_ret (results_h2 rfl _ _ zP_ok rfl HF.out) rfl ?_
      exact HFIN.out
    have hq3 : (fl % 16384 == 0) = true := by simpa using h7
    rw [h7] at ha
    have eE : E4 xs = 0 := by rw [HE5.out, if_neg (by simp), if_neg (by omega : ¬ (32768 ≤ fl)), if_neg (by rw [h7]; simp)]
    have HEE : Aside0 (par4 xs = (0, P4 xs)) := ⟨by unfold par4; rw [eE]; rfl⟩
    go_upto_region 18 with fail
    clear ha hq hq3 eE
    have hBd := below_drew (Below.refl X.heap.size X)
    replace HFF := Aside0.mk (HFF.out.below hBd)
    have HB4 := Aside0.mk (blk_below HV.out HFF.out.l)
    have HSU := Aside0.mk (And.intro (pw_cell_below HFF.out.l HSD.out.1) (And.intro (pw_cell_below HFF.out.l HSD.out.2.1) (And.intro (Kd.C_below HSD.out.2.2.1 HFF.out.l) (Kd.C_below HSD.out.2.2.2 HFF.out.l))))
    obtain ⟨dfb, hdfb⟩ : ∃ dfb, decide (16384 ≤ fl) = dfb := ⟨_, rfl⟩
    obtain ⟨dv, hdv⟩ : ∃ dv, Go.bits .and .i64 fl 16384 = dv := ⟨_, rfl⟩
    have hdz : (dv == 0) = !dfb := by
      rw [← hdv, HE4.out.2.2.2 hflt, ← hdfb]
      by_cases h : 16384 ≤ fl
      · rw [if_pos h]; simp [h]
      · rw [if_neg h]; simp [h]
    have HDZ2 : Aside0 ((dv != 0) = dfb) := ⟨by rw [bne, hdz]; simp⟩
    have HDFB : Aside0 (decide (64 ≤ xs.getD 6 0) = dfb) := ⟨by rw [HE4.out.2.1 hflt]; exact hdfb⟩
    have of4 : ∀ l : List Int, l.length = 4 → ofV l = false ∧ ofB l = l ++ zs 12 := fun l hl => ⟨by unfold ofV; rw [hl]; rfl, by unfold ofB; rw [if_pos (.inl hl), hl]⟩
    have HA1' := Aside0.mk (fun W hr => address_any sA sc sb W hr)
    have HA2' := Aside0.mk (fun W hr => address_any dA dc db W hr)
    rw [(of4 sb HLS.out.1).1, (of4 sb HLS.out.1).2] at HA1'
    rw [(of4 db HLS.out.2).1, (of4 db HLS.out.2).2] at HA2'
    clear of4 hdfb hBd
    refine RegionI.region_I (S := fun Y => Below X.drew.heap.size X.drew Y) (D := fun j => j == 31 || j == 32) (by kernel_rfl) (Below.refl _ _) ?_
    intro hS
    generalize X.drew = U at *
    refine RegionI.wpAnyI_take (i := 0) (v := _) rfl (by kernel_rfl) (by kernel_rfl) (by kernel_rfl) (by kernel_rfl) (by kernel_rfl) dP31 (fun _ _ _ h => h) (by rfl) (fun w hw => exec_load rfl (by go_simp) (Cur.load_one (blk_cell (blk_below HB4.out hw) 0) Try.underlying57 rfl)) hS ?_
    refine RegionI.wpAnyI_take (i := 1) (v := ?_) rfl (by kernel_rfl) (by kernel_rfl) (by kernel_rfl) (by kernel_rfl) (by kernel_rfl) dP31 (fun _ _ _ h => h) (by rfl) ?_ hS ?_
    rotate_left
    · (intro X hX; go_simp; try with_reducible rfl)
    refine RegionI.wpAnyI_take (i := 2) (v := ?_) rfl (by kernel_rfl) (by kernel_rfl) (by kernel_rfl) (by kernel_rfl) (by kernel_rfl) dP31 (fun _ _ _ h => h) (by rfl) ?_ hS ?_
    rotate_left
    · (intro X hX; go_simp; try with_reducible rfl)
    refine RegionI.wpAnyI_take (i := 3) (v := _) rfl (by kernel_rfl) (by kernel_rfl) (by kernel_rfl) (by kernel_rfl) (by kernel_rfl) dP31 (fun _ _ _ h => h) (by rfl) (fun w hw => exec_load rfl (by go_simp) (Cur.load_one (pw_cell_below hw HSU.out.1) Try.underlying25 rfl)) hS ?_
    refine RegionI.wpAnyI_take (i := 5) (v := _) rfl (by kernel_rfl) (by kernel_rfl) (by kernel_rfl) (by kernel_rfl) (by kernel_rfl) dP31 (fun _ _ _ h => h) (by rfl) (fun w hw => exec_load rfl (by go_simp) (Cur.load_one (blk_cell (blk_below HB4.out hw) 0) Try.underlying57 rfl)) hS ?_
    refine RegionI.wpAnyI_take (i := 6) (v := ?_) rfl (by kernel_rfl) (by kernel_rfl) (by kernel_rfl) (by kernel_rfl) (by kernel_rfl) dP31 (fun _ _ _ h => h) (by rfl) ?_ hS ?_
    rotate_left
    · (intro X hX; go_simp; try with_reducible rfl)
    refine RegionI.wpAnyI_take (i := 7) (v := ?_) rfl (by kernel_rfl) (by kernel_rfl) (by kernel_rfl) (by kernel_rfl) (by kernel_rfl) dP31 (fun _ _ _ h => h) (by rfl) ?_ hS ?_
    rotate_left
    · (intro X hX; go_simp; try with_reducible rfl)
    refine RegionI.wpAnyI_take (i := 8) (v := _) rfl (by kernel_rfl) (by kernel_rfl) (by kernel_rfl) (by kernel_rfl) (by kernel_rfl) dP31 (fun _ _ _ h => h) (by rfl) (fun w hw => exec_load rfl (by go_simp) (Cur.load_one (pw_cell_below hw HSU.out.2.1) Try.underlying25 rfl)) hS ?_
    refine RegionI.wpAnyI_take (i := 10) (v := ?_) rfl (by kernel_rfl) (by kernel_rfl) (by kernel_rfl) (by kernel_rfl) (by kernel_rfl) dP31 (fun _ _ _ h => h) (by rfl) ?_ hS ?_
    rotate_left
    · (intro X hX; go_simp; try with_reducible rfl)
    refine RegionI.wpAnyI_take (i := 12) (v := ?_) rfl (by kernel_rfl) (by kernel_rfl) (by kernel_rfl) (by kernel_rfl) (by kernel_rfl) dP31 (fun _ _ _ h => h) (by rfl) ?_ hS ?_
    rotate_left
    · (intro X hX; go_simp; try with_reducible rfl)
    refine RegionI.wpAnyI_take (i := 14) (v := ?_) rfl (by kernel_rfl) (by kernel_rfl) (by kernel_rfl) (by kernel_rfl) (by kernel_rfl) dP31 (fun _ _ _ h => h) (by rfl) ?_ hS ?_
    rotate_left
    · (intro X hX; go_simp; try with_reducible rfl)
    refine RegionI.wpAnyI_take (i := 16) (v := ?_) rfl (by kernel_rfl) (by kernel_rfl) (by kernel_rfl) (by kernel_rfl) (by kernel_rfl) dP31 (fun _ _ _ h => h) (by rfl) ?_ hS ?_
    rotate_left
    · (intro X hX; go_simp; try with_reducible rfl)
    refine RegionI.wpAnyI_take (i := 18) (v := ?_) rfl (by kernel_rfl) (by kernel_rfl) (by kernel_rfl) (by kernel_rfl) (by kernel_rfl) dP31 (fun _ _ _ h => h) (by rfl) ?_ hS ?_
    rotate_left
    · (intro X hX; go_simp; try with_reducible rfl)
    refine RegionI.wpAnyI_take (i := 22) (v := ?_) rfl (by kernel_rfl) (by kernel_rfl) (by kernel_rfl) (by kernel_rfl) (by kernel_rfl) dP31 (fun _ _ _ h => h) (by rfl) ?_ hS ?_
    rotate_left
    · (intro X hX; go_simp; try with_reducible rfl)
    refine RegionI.wpAnyI_take (i := 23) (v := ?_) rfl (by kernel_rfl) (by kernel_rfl) (by kernel_rfl) (by kernel_rfl) (by kernel_rfl) dP31 (fun _ _ _ h => h) (by rfl) ?_ hS ?_
    rotate_left
    · (intro X hX; go_simp; try with_reducible rfl)
    refine RegionI.wpAnyI_take (i := 24) (v := ?_) rfl (by kernel_rfl) (by kernel_rfl) (by kernel_rfl) (by kernel_rfl) (by kernel_rfl) dP31 (fun _ _ _ h => h) (by rfl) ?_ hS ?_
    rotate_left
    · (intro X hX; go_simp; try with_reducible rfl)
    refine RegionI.wpAnyI_take (i := 26) (v := ?_) rfl (by kernel_rfl) (by kernel_rfl) (by kernel_rfl) (by kernel_rfl) (by kernel_rfl) dP31 (fun _ _ _ h => h) (by rfl) ?_ hS ?_
    rotate_left
    · (intro X hX; go_simp; try with_reducible rfl)
    refine RegionI.wpAnyI_take (i := 27) (v := ?_) rfl (by kernel_rfl) (by kernel_rfl) (by kernel_rfl) (by kernel_rfl) (by kernel_rfl) dP31 (fun _ _ _ h => h) (by rfl) ?_ hS ?_
    rotate_left
    · (intro X hX; go_simp; try with_reducible rfl)
    refine RegionI.wpAnyI_take (i := 28) (v := ?_) rfl (by kernel_rfl) (by kernel_rfl) (by kernel_rfl) (by kernel_rfl) (by kernel_rfl) dP31 (fun _ _ _ h => h) (by rfl) ?_ hS ?_
    rotate_left
    · (intro X hX; go_simp; try with_reducible rfl)
    clear hS
    refine RegionI.wpAnyI_one (i := 4) (by kernel_rfl) rfl (fun K hK => ?_)
    go_simp
    refine (HA1'.out _ HSU.out.2.2.1).mono ?_
    rintro e V1 ⟨rfl, hB⟩
    refine hK _ _ ⟨fun _ => hB, ?_⟩
    clear hK K
    refine RegionI.wpAnyI_one (i := 9) (by kernel_rfl) rfl (fun K hK => ?_)
    go_simp
    refine (HA2'.out _ (Kd.C_below HSU.out.2.2.2 hB)).mono ?_
    rintro e V2 ⟨rfl, hB2⟩
    replace hB := below_step hB hB2
    refine hK _ _ ⟨fun _ => hB, ?_⟩
    clear hK K hB2
    have HB := Aside0.mk hB
    clear hB
    refine RegionI.wpAnyI_one (i := 11) (by kernel_rfl) rfl (fun K hK => ?_)
    go_simp
    refine (K6.out _ (below_step HFF.out.l HB.out)).mono ?_
    rintro e V3 ⟨rfl, rfl⟩
    refine hK _ _ ⟨fun _ => HB.out, ?_⟩
    clear hK K
    refine RegionI.wpAnyI_one (i := 13) (by kernel_rfl) rfl (fun K hK => ?_)
    go_simp
    refine (K5.out _ (below_step HFF.out.l HB.out)).mono ?_
    rintro e V3 ⟨rfl, rfl⟩
    refine hK _ _ ⟨fun _ => HB.out, ?_⟩
    clear hK K
    refine RegionI.wpAnyI_one (i := 15) (by kernel_rfl) rfl (fun K hK => ?_)
    go_simp
    refine (K1.out _ (below_step HFF.out.l HB.out)).mono ?_
    rintro e V3 ⟨rfl, rfl⟩
    refine hK _ _ ⟨fun _ => HB.out, ?_⟩
    clear hK K
    refine RegionI.wpAnyI_one (i := 17) (by kernel_rfl) rfl (fun K hK => ?_)
    go_simp
    refine (K3.out _ (below_step HFF.out.l HB.out)).mono ?_
    rintro e V3 ⟨rfl, rfl⟩
    refine hK _ _ ⟨fun _ => HB.out, ?_⟩
    clear hK K
    refine RegionI.wpAnyI_one (i := 19) (by kernel_rfl) rfl (fun K hK => ?_)
    go_simp
    refine (K4.out _ (below_step HFF.out.l HB.out)).mono ?_
    rintro e V3 ⟨rfl, rfl⟩
    refine hK _ _ ⟨fun _ => HB.out, ?_⟩
    clear hK K
    have hS := HB.out
    refine RegionI.wpAnyI_take (i := 20) (v := ?_) rfl (by kernel_rfl) (by kernel_rfl) (by kernel_rfl) (by kernel_rfl) (by kernel_rfl) dP31 (fun _ _ _ h => h) (by rfl) ?_ hS ?_
    rotate_left
    · (intro X hX; go_simp; try with_reducible rfl)
    refine RegionI.wpAnyI_take (i := 21) (v := ?_) rfl (by kernel_rfl) (by kernel_rfl) (by kernel_rfl) (by kernel_rfl) (by kernel_rfl) dP31 (fun _ _ _ h => h) (by rfl) ?_ hS ?_
    rotate_left
    · (intro X hX; go_simp; try with_reducible rfl)
    clear hS
    refine RegionI.wpAnyI_one (i := 25) (by kernel_rfl) rfl (fun K hK => ?_)
    go_simp
    have hXV : ∀ W, Below U.heap.size U W → Kd.C (Kd.int .u8) W A xs.length xs := fun W hW => Kd.C_below HX.out.1 (below_step HFF.out.b hW)
    have hcl1 : ∀ (f : Addr → Addr), (∀ x, f x = x.add 20) → Calls Try.prog 39 #[.slice (if c = 20 then A else Option.map f A) (hn - 20) (c - 20)] V2 fun e w' => ∃ v, e = .returned v ∧ Owns w' V2.heap.size v ((xs.take hn).drop 20) ∧ Below V2.heap.size V2 w' := fun f hf => by
      have := Clone_any _ (c - 20) ((xs.take hn).drop 20) V2 (cutF 20 hn (by decide) f hf (hXV _ HB.out) (by omega) hmh HX.out.2.1) (by have := HX.out.2.2.2; simp; omega)
      rw [List.length_drop, List.length_take, Nat.min_eq_left hmh] at this
      exact this
    refine (hcl1 _ (fun x => ?_)).mono ?_
    case refine_1 => first | rfl | exact (addN 20 (by decide) x).symm
    rintro e V4 ⟨v1, rfl, hO1, hB4⟩
    obtain ⟨oA, oc, hv1, hoc, -⟩ := hO1.reads hO1.len63
    rw [List.length_drop, List.length_take, Nat.min_eq_left hmh] at hv1
    subst hv1
    have hsz2 := (HFF.out.below HB.out).b.size
    have hBx := below_step HB.out hB4
    have hsz4 := (HFF.out.below hBx).b.size
    refine hK _ _ ⟨fun _ => hBx, ?_⟩
    clear hK K hcl1
    refine RegionI.wpAnyI_one (i := 29) (by kernel_rfl) rfl (fun K hK => ?_)
    go_simp
    have hcl2 : ∀ (f : Addr → Addr), (∀ x, f x = x.add hn) → Calls Try.prog 39 #[.slice (if c = hn then A else Option.map f A) (xs.length - hn) (c - hn)] V4 fun e w' => ∃ v, e = .returned v ∧ Owns w' V4.heap.size v (xs.drop hn) ∧ Below V4.heap.size V4 w' := fun f hf => by
      have := Clone_any _ (c - hn) ((xs.take xs.length).drop hn) V4 (cutF hn xs.length (by omega) f hf (hXV _ hBx) hmh (Nat.le_refl _) HX.out.2.1) (by have := HX.out.2.2.2; simp; omega)
      rw [List.take_length, List.length_drop] at this
      exact this
    refine (hcl2 _ (fun x => ?_)).mono ?_
    case refine_1 => first | rfl | exact (addN hn (by omega) x).symm
    rintro e V5 ⟨v2, rfl, hO2, hB5⟩
    obtain ⟨eA, ec, hv2, hec, -⟩ := hO2.reads hO2.len63
    rw [List.length_drop] at hv2
    subst hv2
    replace hO1 := hO1.below hB5
    replace hBx := below_step hBx hB5
    have hF5 := HFF.out.below hBx
    refine hK _ _ ⟨fun _ => hBx, ?_⟩
    clear hK K hcl2
    have HP4' : P4 xs = ⟨false, ⟨false, sb ++ zs 12⟩, ⟨false, db ++ zs 12⟩, x9, x8, x1, idv, dfb, 0, (xs.take hn).drop 20, xs.drop hn⟩ := by rw [HP4.out, HDFB.out]
    have hlo : ((xs.take hn).drop 20).length = hn - 20 := by rw [List.length_drop, List.length_take, Nat.min_eq_left hmh]
    have hld : (xs.drop hn).length = xs.length - hn := by rw [List.length_drop]
    obtain ⟨V6, hst, hb6, hB6, hg6⟩ := h_over (w := w) HOKP.out zP_ok ⟨oA, oc, eA, ec⟩ (Nat.le_refl _) hF5.b hF5.z
    have HST := Aside0.mk hst
    have hfl := fillH HOKP.out ⟨oA, oc, eA, ec⟩ [(1, .agg (av false (sb ++ zs 12))), (2, .agg (av false (db ++ zs 12))), (3, .int .i64 x9), (4, .int .i64 x8), (5, .int .i64 x1), (6, .int .i64 idv), (7, .bool dfb), (9, .slice oA ((xs.take hn).drop 20).length oc), (10, .slice eA (xs.drop hn).length ec)] (by
      intro p hp
      rw [HP4']
      simp only [List.mem_cons, List.not_mem_nil, or_false] at hp
      rcases hp with rfl | rfl | rfl | rfl | rfl | rfl | rfl | rfl | rfl <;> simp [allp]) (by
      intro i hi hn'
      rw [HP4']
      rcases (show i = 0 ∨ i = 1 ∨ i = 2 ∨ i = 3 ∨ i = 4 ∨ i = 5 ∨ i = 6 ∨ i = 7 ∨ i = 8 ∨ i = 9 ∨ i = 10 by omega) with rfl | rfl | rfl | rfl | rfl | rfl | rfl | rfl | rfl | rfl | rfl
      · rfl
      · exact absurd rfl (hn' (1, .agg (av false (sb ++ zs 12))) (by simp))
      · exact absurd rfl (hn' (2, .agg (av false (db ++ zs 12))) (by simp))
      · exact absurd rfl (hn' (3, .int .i64 x9) (by simp))
      · exact absurd rfl (hn' (4, .int .i64 x8) (by simp))
      · exact absurd rfl (hn' (5, .int .i64 x1) (by simp))
      · exact absurd rfl (hn' (6, .int .i64 idv) (by simp))
      · exact absurd rfl (hn' (7, .bool dfb) (by simp))
      · rfl
      · exact absurd rfl (hn' (9, .slice oA ((xs.take hn).drop 20).length oc) (by simp))
      · exact absurd rfl (hn' (10, .slice eA (xs.drop hn).length ec) (by simp)))
    rw [hlo, hld] at hfl
    have HBD : Aside0 (Try.prog.built 28 _ = _) := ⟨(built_hh _).trans hfl⟩
    have hRB : Owns V6 w.heap.size (.slice oA (P4 xs).ol.length oc) (P4 xs).ol ∧ Owns V6 w.heap.size (.slice eA (P4 xs).dl.length ec) (P4 xs).dl := by
      have hO4 := hO1.other hg6 (hO1.ne hF5.z (by decide))
      have hO5 := hO2.other hg6 (hO2.ne hF5.z (by decide))
      rw [HP4']
      rw [← hlo] at hO4
      rw [← hld] at hO5
      exact ⟨hO4.lower hsz2, hO5.lower hsz4⟩
    have HFIN : Aside0 (ParR (par4 xs) w (.returned (.tuple #[.agg (flat (hseg (P4 xs) ⟨oA, oc, eA, ec⟩)), .int .i64 0])) V6) := ⟨by rw [HEE.out]; exact ⟨_, rfl, hRB.1, hRB.2, hB6⟩⟩
    have HF := Aside0.mk hb6
    have HBX := Aside0.mk hBx
    clear hst hb6 hB6 hg6 hfl hRB hF5 hO1 hO2 hoc hec hlo hld HP4' hBx hB4 hB5 hXV hsz2 hsz4
    refine RegionI.wpAnyI_one (i := 30) (by kernel_rfl) rfl (fun K hK => ?_)
    refine StepX.step_run (by rfl) (exec_build rfl (by go_simp; exact HDZ2.out) HBD.out) ?_
    go_simp
    refine hK _ _ ⟨fun _ => HBX.out, ?_⟩
    clear hK K
    refine RegionI.wpAnyI_one (i := 31) (by kernel_rfl) rfl (fun K hK => ?_)
    refine StepX.step_skip (by rfl) (exec_store rfl (by go_simp) (by go_simp) HST.out) ?_
    go_simp
    refine hK _ _ ⟨fun h => absurd h (by decide), ?_⟩
    clear hK K
    refine RegionI.wpAnyI_one (i := 32) (by kernel_rfl) rfl (fun K hK => ?_)
    go_simp
    refine hK _ _ ⟨fun h => absurd h (by decide), ?_⟩
    clear hK K
    refine RegionI.wpAnyI_done (by kernel_rfl) ?_ _
    go_wp2_with fail
    all_goals (refine bodyPost_ret (results_h2 rfl _ _ HOKP.out rfl HF.out) rfl ?_; exact HFIN.out)
end Go.Proofs.Ytjidoedlmpjmnaa.Hdr
namespace Go.Proofs.Ytjidoedlmpjmnaa.Hdr
open Go.RowKit Go.Proofs.Ytjidoedlmpjmnaa.SumsP Go.Proofs.Ytjidoedlmpjmnaa.SumW Go.Proofs.Ytjidoedlmpjmnaa.Cur Go.Proofs.Ytjidoedlmpjmnaa.Own Go.Proofs.Ytjidoedlmpjmnaa.StepX Go.Proofs.Ytjidoedlmpjmnaa.AddrW Go.Proofs.Ytjidoedlmpjmnaa.Segs Go.Proofs.Ytjidoedlmpjmnaa.Mem Go.Proofs.Ytjidoedlmpjmnaa.AddrEq Go.Proofs.Ytjidoedlmpjmnaa.Bits Go.Proofs.Ytjidoedlmpjmnaa.Help Go.Proofs.YtjidoedlmpjmnaaW.PrintWords Go.Proofs.YtjidoedlmpjmnaaW.PrintLast Go.Proofs.YtjidoedlmpjmnaaW.PrintMore
set_option linter.unusedVariables false
set_option linter.unusedSimpArgs false
set_option maxRecDepth 20000
theorem getD_by {xs : List Int} (hx : CurP.AllB xs) (i : Nat) : 0 ≤ xs.getD i 0 ∧ xs.getD i 0 ≤ 255 := (allB_bytes' hx).get i
theorem P4_ok {xs : List Int} (hx : CurP.AllB xs) (hb : xs.length ≤ 140737488351232) (h : 20 ≤ xs.length) : OkP (P4 xs) := by
  have hz : ∀ l : List Int, l.length = 4 → (∀ x ∈ l, 0 ≤ x ∧ x < 256) → AddrM.OkA (l ++ zs 12) := fun l h1 h2 => ⟨by simp [zs, h1], fun x hx => by
    rcases List.mem_append.1 hx with h | h
    · exact h2 x h
    · simp [zs] at h; omega⟩
  have b1 := getD_by hx 1; have b4 := getD_by hx 4; have b5 := getD_by hx 5; have b8 := getD_by hx 8; have b9 := getD_by hx 9
  have t4 : two xs 4 = xs.getD 4 0 * 256 + xs.getD 5 0 := rfl
  unfold P4
  exact ⟨hz _ (by simp; omega) (fun x h => hx x (List.mem_of_mem_drop (List.mem_of_mem_take h))), hz _ (by simp; omega) (fun x h => hx x (List.mem_of_mem_drop (List.mem_of_mem_take h))), ⟨by dsimp only; omega, by dsimp only; omega⟩, ⟨by dsimp only; omega, by dsimp only; omega⟩, ⟨by dsimp only; omega, by dsimp only; omega⟩, ⟨by dsimp only; omega, by dsimp only; omega⟩, ⟨by dsimp only; omega, by dsimp only; omega⟩, fun x h => hx x (List.mem_of_mem_take (List.mem_of_mem_drop h)), fun x h => hx x (List.mem_of_mem_drop h), by simp; omega, by simp; omega⟩
theorem P6_ok {xs : List Int} (hx : CurP.AllB xs) (hb : xs.length ≤ 140737488351232) (h : 40 ≤ xs.length) : OkP (P6 xs) := by
  have b0 := getD_by hx 0; have b1 := getD_by hx 1; have b2 := getD_by hx 2; have b3 := getD_by hx 3; have b6 := getD_by hx 6; have b7 := getD_by hx 7
  have t2 : two xs 2 = xs.getD 2 0 * 256 + xs.getD 3 0 := rfl
  unfold P6
  exact ⟨⟨by simp; omega, fun x h => hx x (List.mem_of_mem_drop (List.mem_of_mem_take h))⟩, ⟨by simp; omega, fun x h => hx x (List.mem_of_mem_drop (List.mem_of_mem_take h))⟩, ⟨by dsimp only; omega, by dsimp only; omega⟩, ⟨by dsimp only; omega, by dsimp only; omega⟩, ⟨by dsimp only; omega, by dsimp only; omega⟩, ⟨by dsimp only; omega, by dsimp only; omega⟩, ⟨by dsimp only; omega, by dsimp only; omega⟩, fun x h => (by cases h), fun x h => hx x (List.mem_of_mem_drop h), Nat.zero_le _, by simp; omega⟩
theorem parsed_ok {xs : List Int} (hx : CurP.AllB xs) (hb : xs.length ≤ 140737488351232) : OkP (parseH xs).2 := by
  unfold parseH
  split
  · exact zP_ok
  · split
    · split
      · rename_i h
        refine P4_ok hx hb ?_
        unfold E4 at h
        split at h
        · cases h
        · omega
      · exact zP_ok
    · split
      · split
        · rename_i h
          refine P6_ok hx hb ?_
          unfold E6 at h
          split at h
          · cases h
          · omega
        · exact zP_ok
      · exact zP_ok
set_option maxHeartbeats 8000000 in
theorem Parse_any (A : Option Addr) (c : Nat) (xs : List Int) (w : World) (hr : Kd.C (Kd.int .u8) w A xs.length xs) (hc : xs.length ≤ c) (hx : CurP.AllB xs) (hb : xs.length ≤ 140737488351232) :
    Calls Try.prog 16 #[.slice A xs.length c] w (ParR (parseH xs) w) := by
  have HP : Aside0 (∀ r e w', ParR r w e w' = ∃ q, e = .returned (.tuple #[.agg (flat (hseg r.2 q)), .int .i64 r.1]) ∧ Owns w' w.heap.size (.slice q.oA r.2.ol.length q.oc) r.2.ol ∧ Owns w' w.heap.size (.slice q.dA r.2.dl.length q.dc) r.2.dl ∧ Below w.heap.size w w') := ⟨fun _ _ _ => rfl⟩
  have HZ : Aside0 (BH 28 w.heap.size zP zL (w.alloc (.cells (flat (hseg zP zL)) 28)) ∧ Below w.heap.size w (w.alloc (.cells (flat (hseg zP zL)) 28))) := ⟨blk_new w _, below_alloc (Below.refl _ _) _⟩
  have HOVER : Aside0 (∀ (x : Pk) (qx : Pl) W, OkP x → BH 28 w.heap.size zP zL W → Below w.heap.size w W → ∃ W1, (storeVar 28 ⟨w.heap.size, 0, none⟩ (.agg (flat (hseg x qx)))).run Try.prog W = .ok () W1 ∧ BH 28 w.heap.size x qx W1 ∧ Below w.heap.size w W1 ∧ W.grownBy W1 (some w.heap.size)) := ⟨fun x qx W hx h1 h2 => h_over (w := w) hx zP_ok qx (Nat.le_refl _) h2 h1⟩
  have HBU := Aside0.mk built_h0
  have HX := Aside0.mk (And.intro hr (And.intro hc (And.intro hx hb)))
  clear hr hc hx hb
  go_enter Try.func16, Try.ntmps16
  go_upto_region 1 with fail
  change Code.wp _ _ _ _ (w.alloc (.cells (flat (hseg zP zL)) 28))
  generalize w.alloc (.cells (flat (hseg zP zL)) 28) = W0 at *
  by_cases h0 : xs.length = 0
  · have hq : ((xs.length : Int) == 0) = true := by rw [h0]; rfl
    have HEE : Aside0 (parseH xs = (10, zP)) := ⟨by unfold parseH; rw [if_pos h0]⟩
    obtain ⟨W3, hst, hz3, hb3, -⟩ := HOVER.out zP zL _ zP_ok HZ.out.1 HZ.out.2
    have HST := Aside0.mk hst
    have HF : Aside0 (BH 28 w.heap.size zP zL W3) := ⟨hz3⟩
    have HFIN : Aside0 (ParR (parseH xs) w (.returned (.tuple #[.agg (flat (hseg zP zL)), .int .i64 10])) W3) := ⟨by rw [HEE.out]; exact ⟨zL, rfl, Owns.nil _ _, Owns.nil _ _, hb3⟩⟩
    clear hst hz3 hb3 h0
    generalize xs.length = n at *
    go_wp2_with (first | ((with_reducible refine gate_dst (N := 7) rfl ?_); refine Kd.event_run rfl (exec_build rfl (by go_simp) HBU.out) ?_) | ((with_reducible refine gate_store (t := 28) rfl ?_); refine event_skip rfl (exec_store rfl rfl rfl HST.out) ?_))
    refine bodyPost_ret (results_h2 rfl _ _ zP_ok rfl HF.out) rfl ?_
    exact HFIN.out
  · have hq : ((xs.length : Int) == 0) = false := by rw [beq_eq_false_iff_ne]; omega
    have hl0 : (0 : Int) < (xs.length : Int) := by omega
    obtain ⟨ad, rfl, hcl⟩ := (Kd.reads_of_C (d := (0 : Int)) HX.out.1).2.2 (by omega)
    have hc0 := pw_cell_below HZ.out.2 (hcl 0 (by omega))
    have ha0 : ad.add 0 = ad := by unfold Addr.add; rw [if_pos rfl]
    have hby := (allB_bytes' HX.out.2.2.1).get 0
    have HPE : Aside0 (parseH xs = if xs.getD 0 0 / 16 = 4 then par4 xs else if xs.getD 0 0 / 16 = 6 then par6 xs else (13, zP)) := ⟨by unfold parseH; rw [if_neg h0]; rfl⟩
    have HFI : Aside0 (∀ (r : Int × Pk) (w3 : World) (e : Ending), parseH xs = r → OkP r.2 → ParR r W0 e w3 → ∃ qx W1, e = .returned (.tuple #[.agg (flat (hseg r.2 qx)), .int .i64 r.1]) ∧ (storeVar 28 ⟨w.heap.size, 0, none⟩ (.agg (flat (hseg r.2 qx)))).run Try.prog w3 = .ok () W1 ∧ BH 28 w.heap.size r.2 qx W1 ∧ ParR (parseH xs) w (.returned (.tuple #[.agg (flat (hseg r.2 qx)), .int .i64 r.1])) W1) := ⟨fun r w3 e e1 e2 e3 => by
      obtain ⟨qx, he, ho, hd, hB⟩ := e3
      have hz := blk_below HZ.out.1 hB
      obtain ⟨W1, a1, a2, a3, a4⟩ := HOVER.out r.2 qx w3 e2 hz (below_step HZ.out.2 hB)
      refine ⟨qx, W1, he, a1, a2, ?_⟩
      rw [e1]
      exact ⟨qx, rfl, (ho.other a4 (ho.ne hz (by decide))).lower HZ.out.2.size, (hd.other a4 (hd.ne hz (by decide))).lower HZ.out.2.size, a3⟩⟩
    have HOKX : Aside0 (OkP (parseH xs).2) := ⟨parsed_ok HX.out.2.2.1 HX.out.2.2.2⟩
    have HB0 := Aside0.mk hby
    rw [ha0] at hc0
    clear hcl h0 hby
    by_cases h4 : xs.getD 0 0 / 16 = 4
    · have h44 : (xs.getD 0 0 / 16 == 4) = true := by rw [h4]; rfl
      have HEQ : Aside0 (parseH xs = par4 xs) := ⟨by rw [HPE.out, if_pos h4]⟩
      have HC := Aside0.mk (parseFour_any (some ad) c xs W0 (Kd.C_below HX.out.1 HZ.out.2) HX.out.2.1 HX.out.2.2.1 HX.out.2.2.2)
      generalize xs.getD 0 0 = x0 at *
      go_wp2_with fail
      refine HC.out.mono ?_
      intro e w3 h3
      obtain ⟨qx, W1, rfl, hst, hb1, hf1⟩ := HFI.out (par4 xs) w3 e HEQ.out (HEQ.out ▸ HOKX.out) h3
      have HST := Aside0.mk hst
      have HF := Aside0.mk hb1
      have HFIN := Aside0.mk hf1
      have HOK4 : Aside0 (OkP (par4 xs).2) := ⟨HEQ.out ▸ HOKX.out⟩
      clear hst hb1 hf1 h3 h4 h44
      generalize (par4 xs).2 = pk at *
      generalize (par4 xs).1 = pe at *
      go_wp2_with ((with_reducible refine gate_store (t := 28) rfl ?_); refine event_skip rfl (exec_store rfl rfl rfl HST.out) ?_)
      refine bodyPost_ret (results_h2 rfl _ _ HOK4.out rfl HF.out) rfl ?_
      exact HFIN.out
    · have h44 : (xs.getD 0 0 / 16 == 4) = false := by simpa using h4
      by_cases h6 : xs.getD 0 0 / 16 = 6
      · have h66 : (xs.getD 0 0 / 16 == 6) = true := by rw [h6]; rfl
        have HEQ : Aside0 (parseH xs = par6 xs) := ⟨by rw [HPE.out, if_neg h4, if_pos h6]⟩
        have HC := Aside0.mk (parseSix_any (some ad) c xs W0 (Kd.C_below HX.out.1 HZ.out.2) HX.out.2.1 HX.out.2.2.1 HX.out.2.2.2)
        generalize xs.getD 0 0 = x0 at *
        go_wp2_with fail
        refine HC.out.mono ?_
        intro e w3 h3
        obtain ⟨qx, W1, rfl, hst, hb1, hf1⟩ := HFI.out (par6 xs) w3 e HEQ.out (HEQ.out ▸ HOKX.out) h3
        have HST := Aside0.mk hst
        have HF := Aside0.mk hb1
        have HFIN := Aside0.mk hf1
        have HOK4 : Aside0 (OkP (par6 xs).2) := ⟨HEQ.out ▸ HOKX.out⟩
        clear hst hb1 hf1 h3 h4 h44 h6 h66
        generalize (par6 xs).2 = pk at *
        generalize (par6 xs).1 = pe at *
        go_wp2_with ((with_reducible refine gate_store (t := 28) rfl ?_); refine event_skip rfl (exec_store rfl rfl rfl HST.out) ?_)
        refine bodyPost_ret (results_h2 rfl _ _ HOK4.out rfl HF.out) rfl ?_
        exact HFIN.out
      · have h66 : (xs.getD 0 0 / 16 == 6) = false := by simpa using h6
        have HEE : Aside0 (parseH xs = (13, zP)) := ⟨by rw [HPE.out, if_neg h4, if_neg h6]⟩
        obtain ⟨W3, hst, hz3, hb3, -⟩ := HOVER.out zP zL _ zP_ok HZ.out.1 HZ.out.2
        have HST := Aside0.mk hst
        have HF : Aside0 (BH 28 w.heap.size zP zL W3) := ⟨hz3⟩
        have HFIN : Aside0 (ParR (parseH xs) w (.returned (.tuple #[.agg (flat (hseg zP zL)), .int .i64 13])) W3) := ⟨by rw [HEE.out]; exact ⟨zL, rfl, Owns.nil _ _, Owns.nil _ _, hb3⟩⟩
        clear hst hz3 hb3 h4 h6
        generalize xs.getD 0 0 = x0 at *
        go_wp2_with (first | ((with_reducible refine gate_dst (N := 24) rfl ?_); refine Kd.event_run rfl (exec_build rfl (by go_simp) HBU.out) ?_) | ((with_reducible refine gate_store (t := 28) rfl ?_); refine event_skip rfl (exec_store rfl rfl rfl HST.out) ?_))
        refine bodyPost_ret (results_h2 rfl _ _ zP_ok rfl HF.out) rfl ?_
        exact HFIN.out
end Go.Proofs.Ytjidoedlmpjmnaa.Hdr
