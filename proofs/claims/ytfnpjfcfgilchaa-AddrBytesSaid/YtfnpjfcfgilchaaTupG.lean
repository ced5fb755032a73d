/- TupG: TupG1, TupG2, TupG3. -/
import Derived.Test.YtfnpjfcfgilchaaTupB
import Derived.Test.YtfnpjfcfgilchaaTupZ
import Derived.Test.YtfnpjfcfgilchaaRunA
import Derived.Deep.CutBlock
import Derived.Deep.LoopGhost
namespace Go.Proofs.Ytfnpjfcfgilchaa.AddrW
open Go.RowKit Go.Proofs.Ytfnpjfcfgilchaa.Cur Go.Proofs.Ytfnpjfcfgilchaa.Own Go.Proofs.Ytfnpjfcfgilchaa.Segs Go.Proofs.Ytfnpjfcfgilchaa.Mem Go.Proofs.Ytfnpjfcfgilchaa.AddrEq Go.Proofs.Ytfnpjfcfgilchaa.AddrM Go.Proofs.Ytfnpjfcfgilchaa.Bits Go.Proofs.Ytfnpjfcfgilchaa.Help Go.Proofs.YtfnpjfcfgilchaaW.PrintWords Go.Proofs.YtfnpjfcfgilchaaW.PrintLast Go.Proofs.YtfnpjfcfgilchaaW.PrintMore
set_option linter.unusedVariables false
set_option linter.unusedSimpArgs false
/-- The error; the tuple. -/
def srcB (xs : List Int) : List Int := (xs.drop 2).take 16
def dstB (xs : List Int) : List Int := (xs.drop 18).take 16
def pN (xs : List Int) : Int := xs.getD 1 0
def spN (xs : List Int) : Int := xs.getD 34 0 * 256 + xs.getD 35 0
def dpN (xs : List Int) : Int := xs.getD 36 0 * 256 + xs.getD 37 0
def rawT (xs : List Int) : Tu := ⟨⟨xs.getD 0 0 == 6, srcB xs⟩, ⟨xs.getD 0 0 == 6, dstB xs⟩, pN xs, spN xs, dpN xs⟩
def getT (xs : List Int) : Int × Tu :=
  if xs.length ≠ 38 then (3, zT) else if xs.getD 0 0 ≠ 4 ∧ xs.getD 0 0 ≠ 6 then (13, zT) else if pN xs ≠ 6 ∧ pN xs ≠ 17 then (14, zT)
  else if rtB (rawT xs) = true then (0, rawT xs) else (11, zT)
/-- What GetTuple comes to. -/
def GetR (xs : List Int) (w : World) (e : Ending) (w' : World) : Prop := e = .returned (.tuple #[.agg (flat (tseg (getT xs).2)), .int .i64 (getT xs).1]) ∧ Below w.heap.size w w'
theorem byte_at {xs : List Int} (h : AllB xs) (i : Nat) : 0 ≤ xs.getD i 0 ∧ xs.getD i 0 < 256 := getD_b h i
theorem raw_ok {xs : List Int} (h : AllB xs) (hl : xs.length = 38) : OkT (rawT xs) := by
  have b1 := byte_at h 1; have b34 := byte_at h 34; have b35 := byte_at h 35; have b36 := byte_at h 36; have b37 := byte_at h 37
  refine ⟨⟨by simp [rawT, srcB, hl], fun x hx => h x (List.mem_of_mem_drop (List.mem_of_mem_take hx))⟩, ⟨by simp [rawT, dstB, hl], fun x hx => h x (List.mem_of_mem_drop (List.mem_of_mem_take hx))⟩, ?_, ?_, ?_⟩
  all_goals simp only [rawT, pN, spN, dpN]; unfold In64; omega
theorem take1 {xs : List Int} {k : Nat} (h : k < xs.length) : (xs.drop k).take 1 = [xs.getD k 0] := by
  rw [List.drop_eq_getElem_cons h, List.getD_eq_getElem?_getD, List.getElem?_eq_getElem h]; rfl
theorem take2 {xs : List Int} {k : Nat} (h : k + 1 < xs.length) : (xs.drop k).take 2 = [xs.getD k 0, xs.getD (k + 1) 0] := by
  rw [List.drop_eq_getElem_cons (show k < xs.length by omega), List.drop_eq_getElem_cons h, List.getD_eq_getElem?_getD, List.getElem?_eq_getElem (show k < xs.length by omega), List.getD_eq_getElem?_getD, List.getElem?_eq_getElem h]; rfl
theorem run_cons (xs : List Int) (at_ : Nat) (o : Int × Int) (os : List (Int × Int)) (h : (CurP.pieceR xs at_ o.1 o.2).1 = 0) :
    CurP.runL xs at_ (o :: os) = (((CurP.pieceR xs at_ o.1 o.2).2.1, (CurP.pieceR xs at_ o.1 o.2).2.2.1) :: (CurP.runL xs (CurP.pieceR xs at_ o.1 o.2).2.2.2 os).1, (CurP.runL xs (CurP.pieceR xs at_ o.1 o.2).2.2.2 os).2) := by
  rw [CurP.runL]; simp only [h, ↓reduceIte]
theorem run_tops {xs : List Int} (hl : xs.length = 38) : CurP.runL xs 0 tops = ([(xs.getD 0 0, []), (xs.getD 1 0, []), (0, srcB xs), (0, dstB xs), (spN xs, []), (dpN xs, [])], 38, 0) := by
  have p1 : ∀ k, k + 1 ≤ 38 → CurP.pieceR xs k 0 1 = (0, xs.getD k 0, [], k + 1) := fun k hk => by
    unfold CurP.pieceR
    rw [if_pos rfl, if_neg (by decide), if_neg (by omega)]
    show (0, CurP.numL ((xs.drop k).take 1), [], k + 1) = _
    rw [take1 (by omega)]
    simp [CurP.numL]
  have p2 : ∀ k, k + 2 ≤ 38 → CurP.pieceR xs k 0 2 = (0, xs.getD k 0 * 256 + xs.getD (k + 1) 0, [], k + 2) := fun k hk => by
    unfold CurP.pieceR
    rw [if_pos rfl, if_neg (by decide), if_neg (by omega)]
    show (0, CurP.numL ((xs.drop k).take 2), [], k + 2) = _
    rw [take2 (by omega)]
    simp [CurP.numL]
  have p16 : ∀ k, k + 16 ≤ 38 → CurP.pieceR xs k 1 16 = (0, 0, (xs.drop k).take 16, k + 16) := fun k hk => by
    have hw : CurP.wantN xs k 16 = 0 := by unfold CurP.wantN; rw [if_neg (by decide), if_neg (by omega)]
    unfold CurP.pieceR
    rw [if_neg (by decide), if_pos rfl, if_pos hw]
    rfl
  unfold tops
  rw [run_cons _ _ _ _ (by rw [p1 0 (by decide)]), p1 0 (by decide), run_cons _ _ _ _ (by rw [p1 1 (by decide)]), p1 1 (by decide), run_cons _ _ _ _ (by rw [p16 2 (by decide)]), p16 2 (by decide),
    run_cons _ _ _ _ (by rw [p16 18 (by decide)]), p16 18 (by decide), run_cons _ _ _ _ (by rw [p2 34 (by decide)]), p2 34 (by decide), run_cons _ _ _ _ (by rw [p2 36 (by decide)]), p2 36 (by decide), CurP.runL]
  rfl
theorem results_tup2 {fn : Func} {p u : Tmp} (h : fn.results = #[.cell p 44, .tmp u]) (tmps : Array Value) (w : World) (g : Nat) {x : Tu} (hx : OkT x) (hp : tmps.getD p undef = .pointer (some ⟨g, 0, none⟩)) (hb : BT g x w) :
    (results fn tmps).run Try.prog w = .ok (.tuple #[.agg (flat (tseg x)), tmps.getD u undef]) w := by
  rw [results_cell_tmp h, hp]
  simp only [asAddr, Sem.run_pure, Result.andThen_ok, load_tup hx hb]
theorem built_zero : Try.prog.built 44 [] = some (flat (tseg zT)) := by rw [built44]; rfl
theorem splice_mid {α : Type} (A B C D : List α) (h : D.length = B.length) : splice (A ++ (B ++ C)) A.length D = A ++ (D ++ C) := by
  unfold splice
  rw [List.take_left, ← List.drop_drop, List.drop_left, h, List.drop_left]
/-- The source's, the destination's bytes are put in. -/
theorem put_src {t : Tu} {bs : List Int} (h : OkT t) (hb : bs.length = 16) : splice (flat (tseg t)).toList 1 (nums .u8 bs) = (flat (tseg ⟨⟨t.s.v, bs⟩, t.d, t.p, t.sp, t.dp⟩)).toList := by
  have := splice_mid [Value.bool t.s.v] (nums .u8 t.s.b) (avl t.d ++ [.int .i64 t.p, .int .i64 t.sp, .int .i64 t.dp]) (nums .u8 bs) (by simp [nums, hb, h.s.l])
  simpa [flat, tseg, avl] using this
theorem put_dst {t : Tu} {bs : List Int} (h : OkT t) (hb : bs.length = 16) : splice (flat (tseg t)).toList 18 (nums .u8 bs) = (flat (tseg ⟨t.s, ⟨t.d.v, bs⟩, t.p, t.sp, t.dp⟩)).toList := by
  have := splice_mid (avl t.s ++ [Value.bool t.d.v]) (nums .u8 t.d.b) [.int .i64 t.p, .int .i64 t.sp, .int .i64 t.dp] (nums .u8 bs) (by simp [nums, hb, h.d.l])
  rw [show (avl t.s ++ [Value.bool t.d.v]).length = 18 by simp [avl_len h.s]] at this
  simpa [flat, tseg, avl] using this
theorem set_mid {α : Type} (A C : List α) (x y : α) : (A ++ x :: C).toArray.setIfInBounds A.length y = (A ++ y :: C).toArray := by
  apply Array.toList_inj.1
  rw [Array.toList_setIfInBounds]
  simp
/-- Of six or not. -/
theorem set_sv {W : World} {g : Nat} {t : Tu} (hb : BT g t W) (v : Bool) : BT g ⟨⟨v, t.s.b⟩, t.d, t.p, t.sp, t.dp⟩ (W.setCell ⟨g, 0, none⟩ (.bool v)) := by
  show (W.setCell ⟨g, 0, none⟩ (.bool v)).heap[g]? = _
  rw [blk_set hb]
  simp [flat, tseg, avl]
theorem set_dv {W : World} {g : Nat} {t : Tu} (h : OkT t) (hb : BT g t W) (v : Bool) : BT g ⟨t.s, ⟨v, t.d.b⟩, t.p, t.sp, t.dp⟩ (W.setCell ⟨g, 17, none⟩ (.bool v)) := by
  show (W.setCell ⟨g, 17, none⟩ (.bool v)).heap[g]? = _
  rw [blk_set hb]
  have := set_mid (avl t.s) (nums .u8 t.d.b ++ [.int .i64 t.p, .int .i64 t.sp, .int .i64 t.dp]) (Value.bool t.d.v) (.bool v)
  rw [avl_len h.s] at this
  simpa [flat, tseg, avl] using this
theorem step_skip {P : Program} {ops : Array Oper} {o : Oper} {a : Act} {Kc : Act → World → Prop} {Q : Exit → Act → World → Prop} {W w1 : World} {R : Prop} (hw : Region.wanted o (yielded ops a.tmps) = true) (hrun : (execOp a.eval o).run P W = .ok .skip w1) (h : Kc (a.put o.dst undef) w1) :
    if Region.wanted o (yielded ops a.tmps) = true then Oper.wp P o a W Kc Q else R := by
  rw [if_pos hw]; unfold Oper.wp; rw [hrun]; exact h
end Go.Proofs.Ytfnpjfcfgilchaa.AddrW
namespace Go.Proofs.Ytfnpjfcfgilchaa.AddrW
open Go.RowKit Go.Proofs.Ytfnpjfcfgilchaa.Cur Go.Proofs.Ytfnpjfcfgilchaa.Own Go.Proofs.Ytfnpjfcfgilchaa.Segs Go.Proofs.Ytfnpjfcfgilchaa.Mem Go.Proofs.Ytfnpjfcfgilchaa.AddrEq Go.Proofs.Ytfnpjfcfgilchaa.AddrM Go.Proofs.Ytfnpjfcfgilchaa.Bits Go.Proofs.Ytfnpjfcfgilchaa.Help Go.Proofs.YtfnpjfcfgilchaaW.PrintWords Go.Proofs.YtfnpjfcfgilchaaW.PrintLast Go.Proofs.YtfnpjfcfgilchaaW.PrintMore
set_option linter.unusedVariables false
set_option linter.unusedSimpArgs false
set_option maxRecDepth 10000
set_option maxHeartbeats 8000000 in
theorem GetTuple_no (A : Option Addr) (c : Nat) (xs : List Int) (w : World) (h : xs.length ≠ 38) (hl : xs.length ≤ 9223372036854775807) : Calls Try.prog 33 #[.slice A xs.length c] w (GetR xs w) := by
  have q : ((xs.length : Int) != 38) = true := by simp; omega
  have HST := Aside0.mk (tup_new w rfl zT_ok zT_ok)
  have HZ := Aside0.mk built_zero
  have HF : Aside0 (GetR xs w (.returned (.tuple #[.agg (flat (tseg zT)), .int .i64 3])) (w.alloc (.cells (flat (tseg zT)) 44))) := ⟨⟨by unfold getT; rw [if_pos h], below_alloc (Below.refl _ _) _⟩⟩
  clear h
  go_enter Try.func33, Try.ntmps33
  go_upto_region 2 with fail
  change Code.wp _ _ _ _ (w.alloc (.cells (flat (tseg zT)) 44))
  have HB := Aside0.mk (blk_new w (.cells (flat (tseg zT)) 44))
  generalize w.alloc (.cells (flat (tseg zT)) 44) = W at *
  go_wp2_with (first | ((with_reducible refine gate_dst (N := 11) rfl ?_); refine Kd.event_run rfl (exec_build rfl rfl HZ.out) ?_) | ((with_reducible refine gate_store (t := 44) rfl ?_); refine event_skip rfl (exec_store rfl rfl rfl HST.out) ?_))
  refine bodyPost_ret (results_tup2 rfl _ _ w.heap.size zT_ok rfl HB.out) rfl ?_
  exact HF.out
theorem dPast8 (j : Nat) (hj : 8 ≤ j) : (j == 7) = false := by simp; omega
/-- The tuple while it is read. -/
def GB (w2 : World) (g7 : Nat) (x0 p sp dp : Int) (W : World) : Prop := (x0 = 4 ∨ x0 = 6) ∧ BT g7 ⟨⟨x0 == 6, zs 16⟩, ⟨x0 == 6, zs 16⟩, p, sp, dp⟩ W ∧ Below w2.heap.size w2 W
theorem built_part {p sp dp : Int} : Try.prog.built 44 [(2, .int .i64 p), (3, .int .i64 sp), (4, .int .i64 dp)] = some (flat (tseg ⟨zA, zA, p, sp, dp⟩)) := by
  rw [built44]
  refine fill_struct _ _ (by simp [tseg, zT]) ?_ ?_
  · intro q hq
    simp only [List.mem_cons, List.not_mem_nil, or_false] at hq
    rcases hq with rfl | rfl | rfl <;> exact ⟨rfl, rfl⟩
  · intro i hi hn
    have h5 : i < 5 := hi
    rcases (show i = 0 ∨ i = 1 ∨ i = 2 ∨ i = 3 ∨ i = 4 by omega) with rfl | rfl | rfl | rfl | rfl
    · rfl
    · rfl
    · exact absurd rfl (hn _ (.head _))
    · exact absurd rfl (hn _ (.tail _ (.head _)))
    · exact absurd rfl (hn _ (.tail _ (.tail _ (.head _))))
/-- What Run has read of a tuple's bytes. -/
def VL (xs : List Int) : List (Int × List Int) := [(xs.getD 0 0, []), (xs.getD 1 0, []), (0, srcB xs), (0, dstB xs), (spN xs, []), (dpN xs, [])]
set_option maxHeartbeats 16000000 in
theorem GetTuple_yes (A : Option Addr) (c : Nat) (xs : List Int) (w : World) (hr : Kd.C (Kd.int .u8) w A xs.length xs) (hc : xs.length ≤ c) (hx : AllB xs) (hl : xs.length = 38) : Calls Try.prog 33 #[.slice A xs.length c] w (GetR xs w) := by
  have HX := Aside0.mk (And.intro hl (And.intro hx hc))
  have HR := Aside0.mk hr
  have HZ := Aside0.mk built_zero
  have HOK := Aside0.mk (raw_ok hx hl)
  have q : ((xs.length : Int) != 38) = false := by simp; omega
  have HM := Aside0.mk ((Mem.nil w).new (.cells (flat (tseg zT)) 44))
  simp only [List.nil_append] at HM
  have b0 := byte_at hx 0
  have hp := byte_at hx 1
  clear hr hx hc hl
  go_enter Try.func33, Try.ntmps33
  go_upto_region 3 with fail
  change Code.wp _ _ _ _ (w.alloc (.cells (flat (tseg zT)) 44))
  generalize w.alloc (.cells (flat (tseg zT)) 44) = W0 at *
  go_wp2_with fail
  refine (pieces_any _).mono ?_
  rintro e w1 ⟨gp, rfl, hpc, hge, hB⟩
  replace HM := Aside0.mk (HM.out.below hB)
  have HPC := Aside0.mk (ops_C hpc)
  clear hpc hge hB
  go_wp2_with fail
  refine (Run_any w1 A (some ⟨gp, 0, none⟩) c 6 xs tops (Kd.C_below HR.out HM.out.b) HX.out.2.2 (by have := HX.out.1; omega) HPC.out (Nat.le_refl _) (by decide) HX.out.2.1 (by have := HX.out.1; omega) (by decide)).mono ?_
  rintro e w2 ⟨v, he, hS, hB⟩
  rw [run_tops HX.out.1] at he hS
  subst he
  dsimp only at hS
  obtain ⟨va, vc, rfl, hvc, hrd⟩ := Kd.S_reads hS
  replace HM := Aside0.mk (HM.out.below hB)
  have HV : Aside0 (dV.C w2 va 6 (VL xs)) := ⟨hrd⟩
  have hvc6 : (6 : Int) ≤ (vc : Int) := by have : 6 ≤ vc := hvc; omega
  obtain ⟨ad, -, -, rfl, -, -, -, -⟩ := val_cells (l := VL xs) hrd 0 (by simp [VL])
  have HCL : Aside0 (∀ W, Below w2.heap.size w2 W → W.cell? ad = some (.int .u64 (xs.getD 0 0)) ∧ W.cell? ⟨ad.block, ad.off + 2, none⟩ = some (.int .u64 (pN xs)) ∧ W.cell? ⟨ad.block, ad.off + 8, none⟩ = some (.int .u64 (spN xs)) ∧ W.cell? ⟨ad.block, ad.off + 10, none⟩ = some (.int .u64 (dpN xs)) ∧
      (∃ B bc, W.cell? ⟨ad.block, ad.off + 5, none⟩ = some (.slice B 16 bc) ∧ Kd.C (Kd.int .u8) W B (srcB xs).length (srcB xs)) ∧ (∃ B bc, W.cell? ⟨ad.block, ad.off + 7, none⟩ = some (.slice B 16 bc) ∧ Kd.C (Kd.int .u8) W B (dstB xs).length (dstB xs))) := ⟨fun W hW => by
    have hv := Kd.C_below hrd hW
    have hl := HX.out.1
    have l2 : (srcB xs).length = 16 := by simp [srcB, hl]
    have l3 : (dstB xs).length = 16 := by simp [dstB, hl]
    obtain ⟨a0, -, -, e0, c0, -, -, -⟩ := val_cells (l := VL xs) hv 0 (by simp [VL])
    obtain ⟨a1, -, -, e1, c1, -, -, -⟩ := val_cells (l := VL xs) hv 1 (by simp [VL])
    obtain ⟨a2, B2, bc2, e2, -, c2, -, r2⟩ := val_cells (l := VL xs) hv 2 (by simp [VL])
    obtain ⟨a3, B3, bc3, e3, -, c3, -, r3⟩ := val_cells (l := VL xs) hv 3 (by simp [VL])
    obtain ⟨a4, -, -, e4, c4, -, -, -⟩ := val_cells (l := VL xs) hv 4 (by simp [VL])
    obtain ⟨a5, -, -, e5, c5, -, -, -⟩ := val_cells (l := VL xs) hv 5 (by simp [VL])
    injection e0 with e0; injection e1 with e1; injection e2 with e2; injection e3 with e3; injection e4 with e4; injection e5 with e5
    subst e0 e1 e2 e3 e4 e5
    have c2' : W.cell? ⟨(ad.add 4).block, (ad.add 4).off + 1, none⟩ = some (.slice B2 (srcB xs).length bc2) := c2
    have c3' : W.cell? ⟨(ad.add 6).block, (ad.add 6).off + 1, none⟩ = some (.slice B3 (dstB xs).length bc3) := c3
    rw [l2] at c2'
    rw [l3] at c3'
    exact ⟨c0, c1, c4, c5, ⟨B2, bc2, c2', r2⟩, ⟨B3, bc3, c3', r3⟩⟩⟩
  have HEX : Aside0 (∀ W, Below w2.heap.size w2 W → ∀ x : Tu, OkT x → ∃ W1, (storeVar 44 ⟨w.heap.size, 0, none⟩ (.agg (flat (tseg x)))).run Try.prog W = .ok () W1 ∧ BT w.heap.size x W1 ∧ Below w.heap.size w W1) := ⟨fun W hW x hx => by
    obtain ⟨W1, h1, h2, h3, -⟩ := tup_over hx zT_ok (Nat.le_refl _) (below_step HM.out.b hW) (blk_below (HM.out.get 0 rfl) hW)
    exact ⟨W1, h1, h2, h3⟩⟩
  clear hS hB hrd hvc HPC HR
  have hpb : 0 ≤ pN xs ∧ pN xs < 256 := hp
  have hsb : 0 ≤ spN xs ∧ spN xs ≤ 65535 := by have h1 := byte_at HX.out.2.1 34; have h2 := byte_at HX.out.2.1 35; unfold spN; omega
  have hdb : 0 ≤ dpN xs ∧ dpN xs ≤ 65535 := by have h1 := byte_at HX.out.2.1 36; have h2 := byte_at HX.out.2.1 37; unfold dpN; omega
  clear hp
  have HVV : Aside0 (getT xs = if xs.getD 0 0 ≠ 4 ∧ xs.getD 0 0 ≠ 6 then (13, zT) else if pN xs ≠ 6 ∧ pN xs ≠ 17 then (14, zT) else if rtB (rawT xs) = true then (0, rawT xs) else (11, zT)) := ⟨by unfold getT; rw [if_neg (by have := HX.out.1; omega)]⟩
  have HRAW : Aside0 (rawT xs = ⟨⟨xs.getD 0 0 == 6, srcB xs⟩, ⟨xs.getD 0 0 == 6, dstB xs⟩, pN xs, spN xs, dpN xs⟩) := ⟨rfl⟩
  have HLL : Aside0 ((srcB xs).length = 16 ∧ (dstB xs).length = 16 ∧ AllB (srcB xs) ∧ AllB (dstB xs)) := ⟨HOK.out.s.l, HOK.out.d.l, HOK.out.s.a, HOK.out.d.a⟩
  go_wp2_with fail
  have hBd := below_drew (Below.refl w2.heap.size w2)
  obtain ⟨c0, c2, c8, c10, -, -⟩ := HCL.out w2.drew hBd
  have HBD := Aside0.mk (built_part (p := pN xs) (sp := spN xs) (dp := dpN xs))
  have HB2 := Aside0.mk hBd
  clear c0 hBd
  generalize hx0 : xs.getD 0 0 = x0 at *
  generalize hpn : pN xs = p at *
  generalize hsn : spN xs = sp at *
  generalize hdn : dpN xs = dp at *
  have HEQ := Aside0.mk (And.intro hx0 (And.intro hpn (And.intro hsn hdn)))
  clear hx0 hpn hsn hdn
  have hwp : IntKind.i64.wrap p = p := IntWalk.i64_in _ (by omega)
  have hws : IntKind.i64.wrap sp = sp := IntWalk.i64_in _ (by omega)
  have hwd : IntKind.i64.wrap dp = dp := IntWalk.i64_in _ (by omega)
  refine RegionI.region_I (S := fun X => X.cell? ⟨ad.block, ad.off + 2, none⟩ = some (.int .u64 p) ∧ (X.cell? ⟨ad.block, ad.off + 8, none⟩ = some (.int .u64 sp) ∧ X.cell? ⟨ad.block, ad.off + 10, none⟩ = some (.int .u64 dp))) (D := fun _ => false) (by kernel_rfl) ⟨c2, c8, c10⟩ ?_
  intro hS
  clear c2 c8 c10
  generalize w2.drew = V at *
  refine RegionI.wpAnyI_take (i := 0) (v := ?_) rfl (by kernel_rfl) (by kernel_rfl) (by kernel_rfl) (by kernel_rfl) (by kernel_rfl) (fun _ _ => rfl) (fun _ _ _ h => h) (by rfl) ?_ hS ?_
  rotate_left
  · (intro X hX; obtain ⟨hx0, hx1⟩ := hX; go_simp; try with_reducible rfl)
  refine RegionI.wpAnyI_take (i := 1) (v := ?_) rfl (by kernel_rfl) (by kernel_rfl) (by kernel_rfl) (by kernel_rfl) (by kernel_rfl) (fun _ _ => rfl) (fun _ _ _ h => h) (by rfl) ?_ hS ?_
  rotate_left
  · (intro X hX; obtain ⟨hx0, hx1⟩ := hX; go_simp; try with_reducible rfl)
  refine RegionI.wpAnyI_take (i := 2) (v := ?_) rfl (by kernel_rfl) (by kernel_rfl) (by kernel_rfl) (by kernel_rfl) (by kernel_rfl) (fun _ _ => rfl) (fun _ _ _ h => h) (by rfl) ?_ hS ?_
  rotate_left
  · (intro X hX; obtain ⟨hx0, hx1⟩ := hX; go_simp; try with_reducible rfl)
  refine RegionI.wpAnyI_take (i := 3) (v := ?_) rfl (by kernel_rfl) (by kernel_rfl) (by kernel_rfl) (by kernel_rfl) (by kernel_rfl) (fun _ _ => rfl) (fun _ _ _ h => h) (by rfl) ?_ hS ?_
  rotate_left
  · (intro X hX; obtain ⟨hx0, hx1⟩ := hX; go_simp; try with_reducible rfl)
  refine RegionI.wpAnyI_take (i := 4) (v := ?_) rfl (by kernel_rfl) (by kernel_rfl) (by kernel_rfl) (by kernel_rfl) (by kernel_rfl) (fun _ _ => rfl) (fun _ _ _ h => h) (by rfl) ?_ hS ?_
  rotate_left
  · (intro X hX; obtain ⟨hx0, hx1⟩ := hX; go_simp; try with_reducible rfl)
  refine RegionI.wpAnyI_take (i := 5) (v := ?_) rfl (by kernel_rfl) (by kernel_rfl) (by kernel_rfl) (by kernel_rfl) (by kernel_rfl) (fun _ _ => rfl) (fun _ _ _ h => h) (by rfl) ?_ hS ?_
  rotate_left
  · (intro X hX; obtain ⟨hx0, hx1⟩ := hX; go_simp; try with_reducible rfl)
  refine RegionI.wpAnyI_take (i := 6) (v := ?_) rfl (by kernel_rfl) (by kernel_rfl) (by kernel_rfl) (by kernel_rfl) (by kernel_rfl) (fun _ _ => rfl) (fun _ _ _ h => h) (by rfl) ?_ hS ?_
  rotate_left
  · (intro X hX; obtain ⟨hx0, hx1⟩ := hX; go_simp; try with_reducible rfl)
  refine RegionI.wpAnyI_take (i := 7) (v := ?_) rfl (by kernel_rfl) (by kernel_rfl) (by kernel_rfl) (by kernel_rfl) (by kernel_rfl) (fun _ _ => rfl) (fun _ _ _ h => h) (by rfl) ?_ hS ?_
  rotate_left
  · (intro X hX; obtain ⟨hx0, hx1⟩ := hX; go_simp; try with_reducible rfl)
  refine RegionI.wpAnyI_take (i := 8) (v := ?_) rfl (by kernel_rfl) (by kernel_rfl) (by kernel_rfl) (by kernel_rfl) (by kernel_rfl) (fun _ _ => rfl) (fun _ _ _ h => h) (by rfl) ?_ hS ?_
  rotate_left
  · (intro X hX; obtain ⟨hx0, hx1⟩ := hX; go_simp; try with_reducible rfl)
  refine RegionI.wpAnyI_take (i := 9) (v := ?_) rfl (by kernel_rfl) (by kernel_rfl) (by kernel_rfl) (by kernel_rfl) (by kernel_rfl) (fun _ _ => rfl) (fun _ _ _ h => h) (by rfl) ?_ hS ?_
  rotate_left
  · (intro X hX; obtain ⟨hx0, hx1⟩ := hX; go_simp; try with_reducible rfl)
  refine RegionI.wpAnyI_take (i := 10) (v := ?_) rfl (by kernel_rfl) (by kernel_rfl) (by kernel_rfl) (by kernel_rfl) (by kernel_rfl) (fun _ _ => rfl) (fun _ _ _ h => h) (by rfl) ?_ hS ?_
  rotate_left
  · (intro X hX; obtain ⟨hx0, hx1⟩ := hX; go_simp; try with_reducible rfl)
  refine RegionI.wpAnyI_take (i := 11) (v := ?_) rfl (by kernel_rfl) (by kernel_rfl) (by kernel_rfl) (by kernel_rfl) (by kernel_rfl) (fun _ _ => rfl) (fun _ _ _ h => h) (by rfl) ?_ hS ?_
  rotate_left
  · (intro X hX; obtain ⟨hx0, hx1⟩ := hX; go_simp; try with_reducible rfl)
  refine RegionI.wpAnyI_take (i := 12) (v := ?_) rfl (by kernel_rfl) (by kernel_rfl) (by kernel_rfl) (by kernel_rfl) (by kernel_rfl) (fun _ _ => rfl) (fun _ _ _ h => h) (by rfl) ?_ hS ?_
  rotate_left
  · (intro X hX; obtain ⟨hx0, hx1⟩ := hX; go_simp; try with_reducible rfl)
  refine RegionI.wpAnyI_take (i := 13) (v := ?_) rfl (by kernel_rfl) (by kernel_rfl) (by kernel_rfl) (by kernel_rfl) (by kernel_rfl) (fun _ _ => rfl) (fun _ _ _ h => h) (by rfl) ?_ hS ?_
  rotate_left
  · (intro X hX; obtain ⟨hx0, hx1⟩ := hX; go_simp; try with_reducible rfl)
  refine RegionI.wpAnyI_take (i := 14) (v := ?_) rfl (by kernel_rfl) (by kernel_rfl) (by kernel_rfl) (by kernel_rfl) (by kernel_rfl) (fun _ _ => rfl) (fun _ _ _ h => h) (by rfl) ?_ hS ?_
  rotate_left
  · (intro X hX; obtain ⟨hx0, hx1⟩ := hX; go_simp; try with_reducible rfl)
  refine RegionI.wpAnyI_take (i := 15) (v := .agg (flat (tseg ⟨zA, zA, p, sp, dp⟩))) rfl (by kernel_rfl) (by kernel_rfl) (by kernel_rfl) (by kernel_rfl) (by kernel_rfl) (fun _ _ => rfl) (fun _ _ _ h => h) (by rfl) (fun w hw => exec_build rfl (by go_simp) HBD.out) hS ?_
  have HSS := Aside0.mk hS
  clear hS
  have HST := Aside0.mk (tup_new V rfl (x := ⟨zA, zA, p, sp, dp⟩) ⟨zA_ok, zA_ok, ⟨by dsimp only; omega, by dsimp only; omega⟩, ⟨by dsimp only; omega, by dsimp only; omega⟩, ⟨by dsimp only; omega, by dsimp only; omega⟩⟩ zT_ok)
  have hS1 : ∀ o, (V.alloc o).cell? ⟨ad.block, ad.off + 2, none⟩ = some (.int .u64 p) ∧ ((V.alloc o).cell? ⟨ad.block, ad.off + 8, none⟩ = some (.int .u64 sp) ∧ (V.alloc o).cell? ⟨ad.block, ad.off + 10, none⟩ = some (.int .u64 dp)) := fun o =>
    have hB := below_alloc (Below.refl V.heap.size V) o
    ⟨pw_cell_below hB HSS.out.1, pw_cell_below hB HSS.out.2.1, pw_cell_below hB HSS.out.2.2⟩
  have HS1 := Aside0.mk hS1
  clear hS1
  refine RegionI.wpAnyI_one (i := 16) (by kernel_rfl) rfl (fun K hK => ?_)
  go_simp
  refine hK _ (V.alloc (.cells (flat (tseg zT)) 44)) ⟨fun _ => HS1.out _, ?_⟩
  clear hK K
  refine RegionI.wpAnyI_one (i := 17) (by kernel_rfl) rfl (fun K hK => ?_)
  refine step_skip (by rfl) (exec_store rfl rfl rfl HST.out) ?_
  refine hK _ _ ⟨fun _ => HS1.out _, ?_⟩
  clear hK K HST HS1 HSS
  refine RegionI.wpAnyI_done (by kernel_rfl) ?_ _
  have HG : Aside0 (BT V.heap.size ⟨zA, zA, p, sp, dp⟩ (V.alloc (.cells (flat (tseg ⟨zA, zA, p, sp, dp⟩)) 44)) ∧ Below w2.heap.size w2 (V.alloc (.cells (flat (tseg ⟨zA, zA, p, sp, dp⟩)) 44))) := ⟨blk_new V _, below_alloc HB2.out _⟩
  have HG7 : Aside0 (w2.heap.size ≤ V.heap.size) := ⟨HB2.out.size⟩
  clear HB2 HBD
  generalize V.alloc (.cells (flat (tseg ⟨zA, zA, p, sp, dp⟩)) 44) = W4 at *
  generalize V.heap.size = g7 at *
  obtain ⟨c0, -⟩ := HCL.out W4 HG.out.2
  have HOK0 : Aside0 (OkT ⟨zA, zA, p, sp, dp⟩) := ⟨⟨zA_ok, zA_ok, ⟨by dsimp only; omega, by dsimp only; omega⟩, ⟨by dsimp only; omega, by dsimp only; omega⟩, ⟨by dsimp only; omega, by dsimp only; omega⟩⟩⟩
  go_upto_block 0 with fail
  go_cut [] from 39 to 47 (fun wx => Aside0 (GB w2 g7 x0 p sp dp wx))
  case first =>
    by_cases h4 : x0 = 4
    · subst h4
      have HF : Aside0 (GB w2 g7 4 p sp dp W4) := ⟨.inl rfl, HG.out.1, HG.out.2⟩
      go_wp2_with fail
      go_meet
      exact HF
    · by_cases h6 : x0 = 6
      · subst h6
        have hb1 := set_sv HG.out.1 true
        have hb2 := set_dv (t := ⟨⟨true, zA.b⟩, zA, p, sp, dp⟩) ⟨zA_ok, zA_ok, HOK0.out.p, HOK0.out.sp, HOK0.out.dp⟩ hb1 true
        have hg1 := setCells_grown W4 g7 [.bool true] 0
        have hg2 := setCells_grown (W4.setCell ⟨g7, 0, none⟩ (.bool true)) g7 [.bool true] 17
        have hl1 := HG.out.2.grown hg1 HG.out.2.size (fun k hk => by injection hk with hk; have := HG7.out; omega)
        have hl2 := hl1.grown hg2 hl1.size (fun k hk => by injection hk with hk; have := HG7.out; omega)
        obtain ⟨e0, e17, -, -, -⟩ := tcells HOK0.out HG.out.1
        have f0 := blk_frozen HG.out.1 0
        have f17 := blk_frozen HG.out.1 17
        have HF : Aside0 (GB w2 g7 6 p sp dp ((W4.setCell ⟨g7, 0, none⟩ (.bool true)).setCell ⟨g7, 17, none⟩ (.bool true))) := ⟨.inr rfl, hb2, hl2⟩
        clear hb1 hb2 hg1 hg2 hl1 hl2
        go_wp2_with fail
        go_meet
        exact HF
      · have q4 : (x0 == 4) = false := by simpa using h4
        have q6 : (x0 == 6) = false := by simpa using h6
        have HW : Aside0 (getT xs = (13, zT)) := ⟨by rw [HVV.out, if_pos ⟨h4, h6⟩]⟩
        clear h4 h6
        obtain ⟨W1, hst, hb, hB⟩ := HEX.out _ HG.out.2 zT zT_ok
        have HST := Aside0.mk hst
        have HB := Aside0.mk hb
        have HF : Aside0 (GetR xs w (.returned (.tuple #[.agg (flat (tseg zT)), .int .i64 13])) W1) := ⟨⟨by rw [HW.out], hB⟩⟩
        clear hst hb hB
        go_wp2_with (first | ((with_reducible refine gate_dst (N := 39) rfl ?_); refine Kd.event_run rfl (exec_build rfl rfl HZ.out) ?_) | ((with_reducible refine gate_store (t := 44) rfl ?_); refine event_skip rfl (exec_store rfl rfl rfl HST.out) ?_))
        refine bodyPost_ret (results_tup2 rfl _ _ w.heap.size zT_ok rfl HB.out) rfl ?_
        exact HF.out
  have hx46 := hcut.out.1
  have HG : Aside0 (BT g7 ⟨⟨x0 == 6, zs 16⟩, ⟨x0 == 6, zs 16⟩, p, sp, dp⟩ wc ∧ Below w2.heap.size w2 wc) := ⟨hcut.out.2⟩
  have HV4 : Aside0 (¬ (x0 ≠ 4 ∧ x0 ≠ 6)) := ⟨by omega⟩
  clear hcut hx46 c0
  have HP5 := HOK0.out.p
  have HP6 := HOK0.out.sp
  have HP7 := HOK0.out.dp
  dsimp only at HP5 HP6 HP7
  have HPP := Aside0.mk (And.intro HP5 (And.intro HP6 HP7))
  clear HP5 HP6 HP7 HOK0
  generalize (x0 == 6) = bv at *
  have HO1 : Aside0 (OkT ⟨⟨bv, zs 16⟩, ⟨bv, zs 16⟩, p, sp, dp⟩) := ⟨⟨zA_ok, zA_ok, HPP.out.1, HPP.out.2.1, HPP.out.2.2⟩⟩
  have HO2 : Aside0 (OkT ⟨⟨bv, srcB xs⟩, ⟨bv, zs 16⟩, p, sp, dp⟩) := ⟨⟨⟨HLL.out.1, HLL.out.2.2.1⟩, zA_ok, HPP.out.1, HPP.out.2.1, HPP.out.2.2⟩⟩
  have HO3 : Aside0 (OkT ⟨⟨bv, srcB xs⟩, ⟨bv, dstB xs⟩, p, sp, dp⟩) := ⟨⟨⟨HLL.out.1, HLL.out.2.2.1⟩, ⟨HLL.out.2.1, HLL.out.2.2.2⟩, HPP.out.1, HPP.out.2.1, HPP.out.2.2⟩⟩
  obtain ⟨-, -, c34, -, -⟩ := tcells HO1.out HG.out.1
  by_cases hp : p = 6 ∨ p = 17
  case neg =>
    have q6 : (p != 6) = true := by simp; omega
    have q17 : (p != 17) = true := by simp; omega
    have HW : Aside0 (getT xs = (14, zT)) := ⟨by rw [HVV.out, if_neg HV4.out, if_pos (by omega)]⟩
    clear hp
    obtain ⟨W1, hst, hb, hB⟩ := HEX.out _ HG.out.2 zT zT_ok
    have HST := Aside0.mk hst
    have HB := Aside0.mk hb
    have HF : Aside0 (GetR xs w (.returned (.tuple #[.agg (flat (tseg zT)), .int .i64 14])) W1) := ⟨⟨by rw [HW.out], hB⟩⟩
    clear hst hb hB
    go_wp2_with (first | ((with_reducible refine gate_dst (N := 56) rfl ?_); refine Kd.event_run rfl (exec_build rfl rfl HZ.out) ?_) | ((with_reducible refine gate_store (t := 44) rfl ?_); refine event_skip rfl (exec_store rfl rfl rfl HST.out) ?_))
    refine bodyPost_ret (results_tup2 rfl _ _ w.heap.size zT_ok rfl HB.out) rfl ?_
    exact HF.out
  have HW : Aside0 (getT xs = if rtB (rawT xs) = true then (0, rawT xs) else (11, zT)) := ⟨by rw [HVV.out, if_neg HV4.out, if_neg (by omega)]⟩
  clear HVV HV4 HEQ
  rcases hp with rfl | rfl
  · clear hwp hpb
    go_upto_region 12 with fail
    obtain ⟨-, -, -, -, hs2, hs3⟩ := HCL.out wc.drew (below_drew HG.out.2)
    obtain ⟨B, bc, cB, hC⟩ := hs2
    have hb7 := blk_drew HG.out.1
    have hBd := below_drew HG.out.2
    have hsz : (flat (tseg ⟨⟨bv, zs 16⟩, ⟨bv, zs 16⟩, 6, sp, dp⟩)).size = 37 := by have := tlen HO1.out; simpa [flat] using this
    obtain ⟨w5, hrun, ⟨cs', hcs, hcl⟩, hgr⟩ := copy_reads (P := Try.prog) (dT := 22) (sT := 22) (ty := 3) (dLen := 16) (dCap := 16) (o := 1) Try.underlying22 (by kernel_rfl) hb7 hC (c := bc) (m := 16) (by rw [HLL.out.1]; rfl) (by rw [hsz]; decide)
    rw [List.take_of_length_le (by rw [HLL.out.1]; decide), put_src HO1.out HLL.out.1] at hcl
    have hb8 : BT g7 ⟨⟨bv, srcB xs⟩, ⟨bv, zs 16⟩, 6, sp, dp⟩ w5 := by
      have : cs' = flat (tseg ⟨⟨bv, srcB xs⟩, ⟨bv, zs 16⟩, 6, sp, dp⟩) := Array.toList_inj.1 hcl
      show w5.heap[g7]? = _
      rw [hcs, this]
    rw [HLL.out.1] at hrun
    have HRUN := Aside0.mk hrun
    have HG2 : Aside0 (BT g7 ⟨⟨bv, srcB xs⟩, ⟨bv, zs 16⟩, 6, sp, dp⟩ w5 ∧ Below w2.heap.size w2 w5) := ⟨hb8, hBd.grown hgr hBd.size (fun k hk => by injection hk with hk; have := HG7.out; omega)⟩
    clear hs3 hC hb7 hsz hrun hcs hcl hgr hb8 hBd
    refine RegionI.region_I (S := fun X => X.cell? ⟨ad.block, ad.off + 5, none⟩ = some (.slice B 16 bc) ∧ True) (D := fun j => j == 7) (by kernel_rfl) ⟨cB, trivial⟩ ?_
    intro hS
    clear cB
    generalize wc.drew = V1 at *
    refine RegionI.wpAnyI_take (i := 0) (v := ?_) rfl (by kernel_rfl) (by kernel_rfl) (by kernel_rfl) (by kernel_rfl) (by kernel_rfl) dPast8 (fun _ _ _ h => h) (by rfl) ?_ hS ?_
    rotate_left
    · (intro X hX; obtain ⟨hx0, hx1⟩ := hX; go_simp; try with_reducible rfl)
    refine RegionI.wpAnyI_take (i := 1) (v := ?_) rfl (by kernel_rfl) (by kernel_rfl) (by kernel_rfl) (by kernel_rfl) (by kernel_rfl) dPast8 (fun _ _ _ h => h) (by rfl) ?_ hS ?_
    rotate_left
    · (intro X hX; obtain ⟨hx0, hx1⟩ := hX; go_simp; try with_reducible rfl)
    refine RegionI.wpAnyI_take (i := 2) (v := ?_) rfl (by kernel_rfl) (by kernel_rfl) (by kernel_rfl) (by kernel_rfl) (by kernel_rfl) dPast8 (fun _ _ _ h => h) (by rfl) ?_ hS ?_
    rotate_left
    · (intro X hX; obtain ⟨hx0, hx1⟩ := hX; go_simp; try with_reducible rfl)
    refine RegionI.wpAnyI_take (i := 3) (v := ?_) rfl (by kernel_rfl) (by kernel_rfl) (by kernel_rfl) (by kernel_rfl) (by kernel_rfl) dPast8 (fun _ _ _ h => h) (by rfl) ?_ hS ?_
    rotate_left
    · (intro X hX; obtain ⟨hx0, hx1⟩ := hX; go_simp; try with_reducible rfl)
    refine RegionI.wpAnyI_take (i := 4) (v := ?_) rfl (by kernel_rfl) (by kernel_rfl) (by kernel_rfl) (by kernel_rfl) (by kernel_rfl) dPast8 (fun _ _ _ h => h) (by rfl) ?_ hS ?_
    rotate_left
    · (intro X hX; obtain ⟨hx0, hx1⟩ := hX; go_simp; try with_reducible rfl)
    refine RegionI.wpAnyI_take (i := 5) (v := ?_) rfl (by kernel_rfl) (by kernel_rfl) (by kernel_rfl) (by kernel_rfl) (by kernel_rfl) dPast8 (fun _ _ _ h => h) (by rfl) ?_ hS ?_
    rotate_left
    · (intro X hX; obtain ⟨hx0, hx1⟩ := hX; go_simp; try with_reducible rfl)
    refine RegionI.wpAnyI_take (i := 6) (v := ?_) rfl (by kernel_rfl) (by kernel_rfl) (by kernel_rfl) (by kernel_rfl) (by kernel_rfl) dPast8 (fun _ _ _ h => h) (by rfl) ?_ hS ?_
    rotate_left
    · (intro X hX; obtain ⟨hx0, hx1⟩ := hX; go_simp; try with_reducible rfl)
    refine RegionI.wpAnyI_one (i := 7) (by kernel_rfl) rfl (fun K hK => ?_)
    refine step_run (by rfl) (exec_copy rfl (by go_simp) (by go_simp) HRUN.out) ?_
    go_simp
    refine hK _ _ ⟨fun h => absurd h (by decide), ?_⟩
    clear hK K HRUN hS HG
    have HG := HG2
    clear HG2
    refine RegionI.wpAnyI_done (by kernel_rfl) ?_ _
    clear c34
    go_wp2_with fail
    obtain ⟨-, -, -, -, hs2, hs3⟩ := HCL.out w5.drew (below_drew HG.out.2)
    obtain ⟨B, bc, cB, hC⟩ := hs3
    have hb7 := blk_drew HG.out.1
    have hBd := below_drew HG.out.2
    have hsz : (flat (tseg ⟨⟨bv, srcB xs⟩, ⟨bv, zs 16⟩, 6, sp, dp⟩)).size = 37 := by have := tlen HO2.out; simpa [flat] using this
    obtain ⟨w6, hrun, ⟨cs', hcs, hcl⟩, hgr⟩ := copy_reads (P := Try.prog) (dT := 22) (sT := 22) (ty := 3) (dLen := 16) (dCap := 16) (o := 18) Try.underlying22 (by kernel_rfl) hb7 hC (c := bc) (m := 16) (by rw [HLL.out.2.1]; rfl) (by rw [hsz]; decide)
    rw [List.take_of_length_le (by rw [HLL.out.2.1]; decide), put_dst HO2.out HLL.out.2.1] at hcl
    have hb8 : BT g7 ⟨⟨bv, srcB xs⟩, ⟨bv, dstB xs⟩, 6, sp, dp⟩ w6 := by
      have : cs' = flat (tseg ⟨⟨bv, srcB xs⟩, ⟨bv, dstB xs⟩, 6, sp, dp⟩) := Array.toList_inj.1 hcl
      show w6.heap[g7]? = _
      rw [hcs, this]
    rw [HLL.out.2.1] at hrun
    have HRUN := Aside0.mk hrun
    have HG2 : Aside0 (BT g7 ⟨⟨bv, srcB xs⟩, ⟨bv, dstB xs⟩, 6, sp, dp⟩ w6 ∧ Below w2.heap.size w2 w6) := ⟨hb8, hBd.grown hgr hBd.size (fun k hk => by injection hk with hk; have := HG7.out; omega)⟩
    clear hs2 hC hb7 hsz hrun hcs hcl hgr hb8 hBd
    refine RegionI.region_I (S := fun X => X.cell? ⟨ad.block, ad.off + 7, none⟩ = some (.slice B 16 bc) ∧ True) (D := fun j => j == 7) (by kernel_rfl) ⟨cB, trivial⟩ ?_
    intro hS
    clear cB
    generalize w5.drew = V18 at *
    refine RegionI.wpAnyI_take (i := 0) (v := ?_) rfl (by kernel_rfl) (by kernel_rfl) (by kernel_rfl) (by kernel_rfl) (by kernel_rfl) dPast8 (fun _ _ _ h => h) (by rfl) ?_ hS ?_
    rotate_left
    · (intro X hX; obtain ⟨hx0, hx1⟩ := hX; go_simp; try with_reducible rfl)
    refine RegionI.wpAnyI_take (i := 1) (v := ?_) rfl (by kernel_rfl) (by kernel_rfl) (by kernel_rfl) (by kernel_rfl) (by kernel_rfl) dPast8 (fun _ _ _ h => h) (by rfl) ?_ hS ?_
    rotate_left
    · (intro X hX; obtain ⟨hx0, hx1⟩ := hX; go_simp; try with_reducible rfl)
    refine RegionI.wpAnyI_take (i := 2) (v := ?_) rfl (by kernel_rfl) (by kernel_rfl) (by kernel_rfl) (by kernel_rfl) (by kernel_rfl) dPast8 (fun _ _ _ h => h) (by rfl) ?_ hS ?_
    rotate_left
    · (intro X hX; obtain ⟨hx0, hx1⟩ := hX; go_simp; try with_reducible rfl)
    refine RegionI.wpAnyI_take (i := 3) (v := ?_) rfl (by kernel_rfl) (by kernel_rfl) (by kernel_rfl) (by kernel_rfl) (by kernel_rfl) dPast8 (fun _ _ _ h => h) (by rfl) ?_ hS ?_
    rotate_left
    · (intro X hX; obtain ⟨hx0, hx1⟩ := hX; go_simp; try with_reducible rfl)
    refine RegionI.wpAnyI_take (i := 4) (v := ?_) rfl (by kernel_rfl) (by kernel_rfl) (by kernel_rfl) (by kernel_rfl) (by kernel_rfl) dPast8 (fun _ _ _ h => h) (by rfl) ?_ hS ?_
    rotate_left
    · (intro X hX; obtain ⟨hx0, hx1⟩ := hX; go_simp; try with_reducible rfl)
    refine RegionI.wpAnyI_take (i := 5) (v := ?_) rfl (by kernel_rfl) (by kernel_rfl) (by kernel_rfl) (by kernel_rfl) (by kernel_rfl) dPast8 (fun _ _ _ h => h) (by rfl) ?_ hS ?_
    rotate_left
    · (intro X hX; obtain ⟨hx0, hx1⟩ := hX; go_simp; try with_reducible rfl)
    refine RegionI.wpAnyI_take (i := 6) (v := ?_) rfl (by kernel_rfl) (by kernel_rfl) (by kernel_rfl) (by kernel_rfl) (by kernel_rfl) dPast8 (fun _ _ _ h => h) (by rfl) ?_ hS ?_
    rotate_left
    · (intro X hX; obtain ⟨hx0, hx1⟩ := hX; go_simp; try with_reducible rfl)
    refine RegionI.wpAnyI_one (i := 7) (by kernel_rfl) rfl (fun K hK => ?_)
    refine step_run (by rfl) (exec_copy rfl (by go_simp) (by go_simp) HRUN.out) ?_
    go_simp
    refine hK _ _ ⟨fun h => absurd h (by decide), ?_⟩
    clear hK K HRUN hS HG
    have HG := HG2
    clear HG2
    refine RegionI.wpAnyI_done (by kernel_rfl) ?_ _
    rw [← HRAW.out] at HG HO3
    clear HRAW HOK HLL HO1 HO2 HCL HPP
    generalize rawT xs = T at *
    go_wp2_with ((with_reducible refine gate_dst (N := 73) rfl ?_); refine Kd.event_run rfl (exec_load rfl rfl (load_tup HO3.out HG.out.1)) ?_)
    refine (RightTuple_any T _ HO3.out).mono ?_
    rintro e w7 ⟨rfl, hB⟩
    replace HG : Aside0 (BT g7 T w7 ∧ Below w2.heap.size w2 w7) := ⟨blk_below HG.out.1 hB, below_step HG.out.2 hB⟩
    clear hB
    cases hrt : rtB T with
    | false =>
      rw [hrt] at HW
      have HW2 : Aside0 (getT xs = (11, zT)) := ⟨by rw [HW.out]; rfl⟩
      clear HW hrt
      obtain ⟨W1, hst, hb, hB⟩ := HEX.out _ HG.out.2 zT zT_ok
      have HST := Aside0.mk hst
      have HB := Aside0.mk hb
      have HF : Aside0 (GetR xs w (.returned (.tuple #[.agg (flat (tseg zT)), .int .i64 11])) W1) := ⟨⟨by rw [HW2.out], hB⟩⟩
      clear hst hb hB
      go_wp2_with (first | ((with_reducible refine gate_dst (N := 76) rfl ?_); refine Kd.event_run rfl (exec_build rfl rfl HZ.out) ?_) | ((with_reducible refine gate_store (t := 44) rfl ?_); refine event_skip rfl (exec_store rfl rfl rfl HST.out) ?_))
      refine bodyPost_ret (results_tup2 rfl _ _ w.heap.size zT_ok rfl HB.out) rfl ?_
      exact HF.out
    | true =>
      rw [hrt] at HW
      have HW2 : Aside0 (getT xs = (0, T)) := ⟨by rw [HW.out]; rfl⟩
      clear HW hrt
      obtain ⟨W1, hst, hb, hB⟩ := HEX.out _ HG.out.2 T HO3.out
      have HST := Aside0.mk hst
      have HB := Aside0.mk hb
      have HF : Aside0 (GetR xs w (.returned (.tuple #[.agg (flat (tseg T)), .int .i64 0])) W1) := ⟨⟨by rw [HW2.out], hB⟩⟩
      clear hst hb hB
      go_wp2_with (first | ((with_reducible refine gate_dst (N := 77) rfl ?_); refine Kd.event_run rfl (exec_load rfl rfl (load_tup HO3.out HG.out.1)) ?_) | ((with_reducible refine gate_store (t := 44) rfl ?_); refine event_skip rfl (exec_store rfl rfl rfl HST.out) ?_))
      refine bodyPost_ret (results_tup2 rfl _ _ w.heap.size HO3.out rfl HB.out) rfl ?_
      exact HF.out
  · clear hwp hpb
    go_upto_region 12 with fail
    obtain ⟨-, -, -, -, hs2, hs3⟩ := HCL.out wc.drew (below_drew HG.out.2)
    obtain ⟨B, bc, cB, hC⟩ := hs2
    have hb7 := blk_drew HG.out.1
    have hBd := below_drew HG.out.2
    have hsz : (flat (tseg ⟨⟨bv, zs 16⟩, ⟨bv, zs 16⟩, 17, sp, dp⟩)).size = 37 := by have := tlen HO1.out; simpa [flat] using this
    obtain ⟨w5, hrun, ⟨cs', hcs, hcl⟩, hgr⟩ := copy_reads (P := Try.prog) (dT := 22) (sT := 22) (ty := 3) (dLen := 16) (dCap := 16) (o := 1) Try.underlying22 (by kernel_rfl) hb7 hC (c := bc) (m := 16) (by rw [HLL.out.1]; rfl) (by rw [hsz]; decide)
    rw [List.take_of_length_le (by rw [HLL.out.1]; decide), put_src HO1.out HLL.out.1] at hcl
    have hb8 : BT g7 ⟨⟨bv, srcB xs⟩, ⟨bv, zs 16⟩, 17, sp, dp⟩ w5 := by
      have : cs' = flat (tseg ⟨⟨bv, srcB xs⟩, ⟨bv, zs 16⟩, 17, sp, dp⟩) := Array.toList_inj.1 hcl
      show w5.heap[g7]? = _
      rw [hcs, this]
    rw [HLL.out.1] at hrun
    have HRUN := Aside0.mk hrun
    have HG2 : Aside0 (BT g7 ⟨⟨bv, srcB xs⟩, ⟨bv, zs 16⟩, 17, sp, dp⟩ w5 ∧ Below w2.heap.size w2 w5) := ⟨hb8, hBd.grown hgr hBd.size (fun k hk => by injection hk with hk; have := HG7.out; omega)⟩
    clear hs3 hC hb7 hsz hrun hcs hcl hgr hb8 hBd
    refine RegionI.region_I (S := fun X => X.cell? ⟨ad.block, ad.off + 5, none⟩ = some (.slice B 16 bc) ∧ True) (D := fun j => j == 7) (by kernel_rfl) ⟨cB, trivial⟩ ?_
    intro hS
    clear cB
    generalize wc.drew = V1 at *
    refine RegionI.wpAnyI_take (i := 0) (v := ?_) rfl (by kernel_rfl) (by kernel_rfl) (by kernel_rfl) (by kernel_rfl) (by kernel_rfl) dPast8 (fun _ _ _ h => h) (by rfl) ?_ hS ?_
    rotate_left
    · (intro X hX; obtain ⟨hx0, hx1⟩ := hX; go_simp; try with_reducible rfl)
    refine RegionI.wpAnyI_take (i := 1) (v := ?_) rfl (by kernel_rfl) (by kernel_rfl) (by kernel_rfl) (by kernel_rfl) (by kernel_rfl) dPast8 (fun _ _ _ h => h) (by rfl) ?_ hS ?_
    rotate_left
    · (intro X hX; obtain ⟨hx0, hx1⟩ := hX; go_simp; try with_reducible rfl)
    refine RegionI.wpAnyI_take (i := 2) (v := ?_) rfl (by kernel_rfl) (by kernel_rfl) (by kernel_rfl) (by kernel_rfl) (by kernel_rfl) dPast8 (fun _ _ _ h => h) (by rfl) ?_ hS ?_
    rotate_left
    · (intro X hX; obtain ⟨hx0, hx1⟩ := hX; go_simp; try with_reducible rfl)
    refine RegionI.wpAnyI_take (i := 3) (v := ?_) rfl (by kernel_rfl) (by kernel_rfl) (by kernel_rfl) (by kernel_rfl) (by kernel_rfl) dPast8 (fun _ _ _ h => h) (by rfl) ?_ hS ?_
    rotate_left
    · (intro X hX; obtain ⟨hx0, hx1⟩ := hX; go_simp; try with_reducible rfl)
    refine RegionI.wpAnyI_take (i := 4) (v := ?_) rfl (by kernel_rfl) (by kernel_rfl) (by kernel_rfl) (by kernel_rfl) (by kernel_rfl) dPast8 (fun _ _ _ h => h) (by rfl) ?_ hS ?_
    rotate_left
    · (intro X hX; obtain ⟨hx0, hx1⟩ := hX; go_simp; try with_reducible rfl)
    refine RegionI.wpAnyI_take (i := 5) (v := ?_) rfl (by kernel_rfl) (by kernel_rfl) (by kernel_rfl) (by kernel_rfl) (by kernel_rfl) dPast8 (fun _ _ _ h => h) (by rfl) ?_ hS ?_
    rotate_left
    · (intro X hX; obtain ⟨hx0, hx1⟩ := hX; go_simp; try with_reducible rfl)
    refine RegionI.wpAnyI_take (i := 6) (v := ?_) rfl (by kernel_rfl) (by kernel_rfl) (by kernel_rfl) (by kernel_rfl) (by kernel_rfl) dPast8 (fun _ _ _ h => h) (by rfl) ?_ hS ?_
    rotate_left
    · (intro X hX; obtain ⟨hx0, hx1⟩ := hX; go_simp; try with_reducible rfl)
    refine RegionI.wpAnyI_one (i := 7) (by kernel_rfl) rfl (fun K hK => ?_)
    refine step_run (by rfl) (exec_copy rfl (by go_simp) (by go_simp) HRUN.out) ?_
    go_simp
    refine hK _ _ ⟨fun h => absurd h (by decide), ?_⟩
    clear hK K HRUN hS HG
    have HG := HG2
    clear HG2
    refine RegionI.wpAnyI_done (by kernel_rfl) ?_ _
    clear c34
    go_wp2_with fail
    obtain ⟨-, -, -, -, hs2, hs3⟩ := HCL.out w5.drew (below_drew HG.out.2)
    obtain ⟨B, bc, cB, hC⟩ := hs3
    have hb7 := blk_drew HG.out.1
    have hBd := below_drew HG.out.2
    have hsz : (flat (tseg ⟨⟨bv, srcB xs⟩, ⟨bv, zs 16⟩, 17, sp, dp⟩)).size = 37 := by have := tlen HO2.out; simpa [flat] using this
    obtain ⟨w6, hrun, ⟨cs', hcs, hcl⟩, hgr⟩ := copy_reads (P := Try.prog) (dT := 22) (sT := 22) (ty := 3) (dLen := 16) (dCap := 16) (o := 18) Try.underlying22 (by kernel_rfl) hb7 hC (c := bc) (m := 16) (by rw [HLL.out.2.1]; rfl) (by rw [hsz]; decide)
    rw [List.take_of_length_le (by rw [HLL.out.2.1]; decide), put_dst HO2.out HLL.out.2.1] at hcl
    have hb8 : BT g7 ⟨⟨bv, srcB xs⟩, ⟨bv, dstB xs⟩, 17, sp, dp⟩ w6 := by
      have : cs' = flat (tseg ⟨⟨bv, srcB xs⟩, ⟨bv, dstB xs⟩, 17, sp, dp⟩) := Array.toList_inj.1 hcl
      show w6.heap[g7]? = _
      rw [hcs, this]
    rw [HLL.out.2.1] at hrun
    have HRUN := Aside0.mk hrun
    have HG2 : Aside0 (BT g7 ⟨⟨bv, srcB xs⟩, ⟨bv, dstB xs⟩, 17, sp, dp⟩ w6 ∧ Below w2.heap.size w2 w6) := ⟨hb8, hBd.grown hgr hBd.size (fun k hk => by injection hk with hk; have := HG7.out; omega)⟩
    clear hs2 hC hb7 hsz hrun hcs hcl hgr hb8 hBd
    refine RegionI.region_I (S := fun X => X.cell? ⟨ad.block, ad.off + 7, none⟩ = some (.slice B 16 bc) ∧ True) (D := fun j => j == 7) (by kernel_rfl) ⟨cB, trivial⟩ ?_
    intro hS
    clear cB
    generalize w5.drew = V18 at *
    refine RegionI.wpAnyI_take (i := 0) (v := ?_) rfl (by kernel_rfl) (by kernel_rfl) (by kernel_rfl) (by kernel_rfl) (by kernel_rfl) dPast8 (fun _ _ _ h => h) (by rfl) ?_ hS ?_
    rotate_left
    · (intro X hX; obtain ⟨hx0, hx1⟩ := hX; go_simp; try with_reducible rfl)
    refine RegionI.wpAnyI_take (i := 1) (v := ?_) rfl (by kernel_rfl) (by kernel_rfl) (by kernel_rfl) (by kernel_rfl) (by kernel_rfl) dPast8 (fun _ _ _ h => h) (by rfl) ?_ hS ?_
    rotate_left
    · (intro X hX; obtain ⟨hx0, hx1⟩ := hX; go_simp; try with_reducible rfl)
    refine RegionI.wpAnyI_take (i := 2) (v := ?_) rfl (by kernel_rfl) (by kernel_rfl) (by kernel_rfl) (by kernel_rfl) (by kernel_rfl) dPast8 (fun _ _ _ h => h) (by rfl) ?_ hS ?_
    rotate_left
    · (intro X hX; obtain ⟨hx0, hx1⟩ := hX; go_simp; try with_reducible rfl)
    refine RegionI.wpAnyI_take (i := 3) (v := ?_) rfl (by kernel_rfl) (by kernel_rfl) (by kernel_rfl) (by kernel_rfl) (by kernel_rfl) dPast8 (fun _ _ _ h => h) (by rfl) ?_ hS ?_
    rotate_left
    · (intro X hX; obtain ⟨hx0, hx1⟩ := hX; go_simp; try with_reducible rfl)
    refine RegionI.wpAnyI_take (i := 4) (v := ?_) rfl (by kernel_rfl) (by kernel_rfl) (by kernel_rfl) (by kernel_rfl) (by kernel_rfl) dPast8 (fun _ _ _ h => h) (by rfl) ?_ hS ?_
    rotate_left
    · (intro X hX; obtain ⟨hx0, hx1⟩ := hX; go_simp; try with_reducible rfl)
    refine RegionI.wpAnyI_take (i := 5) (v := ?_) rfl (by kernel_rfl) (by kernel_rfl) (by kernel_rfl) (by kernel_rfl) (by kernel_rfl) dPast8 (fun _ _ _ h => h) (by rfl) ?_ hS ?_
    rotate_left
    · (intro X hX; obtain ⟨hx0, hx1⟩ := hX; go_simp; try with_reducible rfl)
    refine RegionI.wpAnyI_take (i := 6) (v := ?_) rfl (by kernel_rfl) (by kernel_rfl) (by kernel_rfl) (by kernel_rfl) (by kernel_rfl) dPast8 (fun _ _ _ h => h) (by rfl) ?_ hS ?_
    rotate_left
    · (intro X hX; obtain ⟨hx0, hx1⟩ := hX; go_simp; try with_reducible rfl)
    refine RegionI.wpAnyI_one (i := 7) (by kernel_rfl) rfl (fun K hK => ?_)
    refine step_run (by rfl) (exec_copy rfl (by go_simp) (by go_simp) HRUN.out) ?_
    go_simp
    refine hK _ _ ⟨fun h => absurd h (by decide), ?_⟩
    clear hK K HRUN hS HG
    have HG := HG2
    clear HG2
    refine RegionI.wpAnyI_done (by kernel_rfl) ?_ _
    rw [← HRAW.out] at HG HO3
    clear HRAW HOK HLL HO1 HO2 HCL HPP
    generalize rawT xs = T at *
    go_wp2_with ((with_reducible refine gate_dst (N := 73) rfl ?_); refine Kd.event_run rfl (exec_load rfl rfl (load_tup HO3.out HG.out.1)) ?_)
    refine (RightTuple_any T _ HO3.out).mono ?_
    rintro e w7 ⟨rfl, hB⟩
    replace HG : Aside0 (BT g7 T w7 ∧ Below w2.heap.size w2 w7) := ⟨blk_below HG.out.1 hB, below_step HG.out.2 hB⟩
    clear hB
    cases hrt : rtB T with
    | false =>
      rw [hrt] at HW
      have HW2 : Aside0 (getT xs = (11, zT)) := ⟨by rw [HW.out]; rfl⟩
      clear HW hrt
      obtain ⟨W1, hst, hb, hB⟩ := HEX.out _ HG.out.2 zT zT_ok
      have HST := Aside0.mk hst
      have HB := Aside0.mk hb
      have HF : Aside0 (GetR xs w (.returned (.tuple #[.agg (flat (tseg zT)), .int .i64 11])) W1) := ⟨⟨by rw [HW2.out], hB⟩⟩
      clear hst hb hB
      go_wp2_with (first | ((with_reducible refine gate_dst (N := 76) rfl ?_); refine Kd.event_run rfl (exec_build rfl rfl HZ.out) ?_) | ((with_reducible refine gate_store (t := 44) rfl ?_); refine event_skip rfl (exec_store rfl rfl rfl HST.out) ?_))
      refine bodyPost_ret (results_tup2 rfl _ _ w.heap.size zT_ok rfl HB.out) rfl ?_
      exact HF.out
    | true =>
      rw [hrt] at HW
      have HW2 : Aside0 (getT xs = (0, T)) := ⟨by rw [HW.out]; rfl⟩
      clear HW hrt
      obtain ⟨W1, hst, hb, hB⟩ := HEX.out _ HG.out.2 T HO3.out
      have HST := Aside0.mk hst
      have HB := Aside0.mk hb
      have HF : Aside0 (GetR xs w (.returned (.tuple #[.agg (flat (tseg T)), .int .i64 0])) W1) := ⟨⟨by rw [HW2.out], hB⟩⟩
      clear hst hb hB
      go_wp2_with (first | ((with_reducible refine gate_dst (N := 77) rfl ?_); refine Kd.event_run rfl (exec_load rfl rfl (load_tup HO3.out HG.out.1)) ?_) | ((with_reducible refine gate_store (t := 44) rfl ?_); refine event_skip rfl (exec_store rfl rfl rfl HST.out) ?_))
      refine bodyPost_ret (results_tup2 rfl _ _ w.heap.size HO3.out rfl HB.out) rfl ?_
      exact HF.out
end Go.Proofs.Ytfnpjfcfgilchaa.AddrW
namespace Go.Proofs.Ytfnpjfcfgilchaa.AddrW
open Go.RowKit Go.Proofs.Ytfnpjfcfgilchaa.Cur Go.Proofs.Ytfnpjfcfgilchaa.Own Go.Proofs.Ytfnpjfcfgilchaa.Segs Go.Proofs.Ytfnpjfcfgilchaa.Mem Go.Proofs.Ytfnpjfcfgilchaa.AddrEq Go.Proofs.Ytfnpjfcfgilchaa.AddrM Go.Proofs.Ytfnpjfcfgilchaa.Bits Go.Proofs.Ytfnpjfcfgilchaa.Help Go.Proofs.YtfnpjfcfgilchaaW.PrintWords Go.Proofs.YtfnpjfcfgilchaaW.PrintLast Go.Proofs.YtfnpjfcfgilchaaW.PrintMore
set_option linter.unusedVariables false
set_option linter.unusedSimpArgs false
set_option maxRecDepth 10000
set_option maxHeartbeats 8000000 in
theorem refGetTuple_no (A : Option Addr) (c : Nat) (xs : List Int) (w : World) (h : xs.length ≠ 38) (hl : xs.length ≤ 9223372036854775807) : Calls Try.prog 34 #[.slice A xs.length c] w (GetR xs w) := by
  have q : ((xs.length : Int) != 38) = true := by simp; omega
  have HST := Aside0.mk (tup_new w rfl zT_ok zT_ok)
  have HZ := Aside0.mk built_zero
  have HF : Aside0 (GetR xs w (.returned (.tuple #[.agg (flat (tseg zT)), .int .i64 3])) (w.alloc (.cells (flat (tseg zT)) 44))) := ⟨⟨by unfold getT; rw [if_pos h], below_alloc (Below.refl _ _) _⟩⟩
  clear h
  go_enter Try.func34, Try.ntmps34
  go_upto_region 2 with fail
  change Code.wp _ _ _ _ (w.alloc (.cells (flat (tseg zT)) 44))
  have HB := Aside0.mk (blk_new w (.cells (flat (tseg zT)) 44))
  generalize w.alloc (.cells (flat (tseg zT)) 44) = W at *
  go_wp2_with (first | ((with_reducible refine gate_dst (N := 9) rfl ?_); refine Kd.event_run rfl (exec_build rfl rfl HZ.out) ?_) | ((with_reducible refine gate_store (t := 44) rfl ?_); refine event_skip rfl (exec_store rfl rfl rfl HST.out) ?_))
  refine bodyPost_ret (results_tup2 rfl _ _ w.heap.size zT_ok rfl HB.out) rfl ?_
  exact HF.out
theorem byte_cell {W : World} {ad : Addr} {n : Nat} {xs : List Int} (h : Kd.C (Kd.int .u8) W (some ad) n xs) (hn : xs.length = n) (i : Nat) (hi : i < n) : W.cell? (ad.add i) = some (.int .u8 (xs.getD i 0)) := by
  obtain ⟨ad', he, hc⟩ := (Kd.reads_of_C (d := (0 : Int)) h).2.2 (by omega)
  injection he with he
  subst he
  exact hc i hi
theorem add_pos (ad : Addr) (i : Nat) (hi : 0 < i) : ad.add i = ⟨ad.block, ad.off + i, none⟩ := by unfold Addr.add; rw [if_neg (by omega)]
theorem set_sb {W : World} {g i : Nat} {t : Tu} (hb : BT g t W) (hi : i < t.s.b.length) (x : Int) : BT g ⟨⟨t.s.v, t.s.b.set i x⟩, t.d, t.p, t.sp, t.dp⟩ (W.setCell ⟨g, 1 + i, none⟩ (.int .u8 x)) := by
  show (W.setCell ⟨g, 1 + i, none⟩ (.int .u8 x)).heap[g]? = _
  rw [blk_set hb]
  congr 2
  apply Array.toList_inj.1
  rw [Array.toList_setIfInBounds]
  simp only [flat, tseg, avl, List.flatten_cons, List.cons_append]
  rw [show 1 + i = i + 1 by omega, List.set_cons_succ, List.set_append_left _ _ (by simp [nums]; exact hi)]
  simp [nums, List.map_set]
theorem set_db {W : World} {g i : Nat} {t : Tu} (h : t.s.b.length = 16) (hb : BT g t W) (hi : i < t.d.b.length) (x : Int) : BT g ⟨t.s, ⟨t.d.v, t.d.b.set i x⟩, t.p, t.sp, t.dp⟩ (W.setCell ⟨g, 18 + i, none⟩ (.int .u8 x)) := by
  show (W.setCell ⟨g, 18 + i, none⟩ (.int .u8 x)).heap[g]? = _
  rw [blk_set hb]
  congr 2
  apply Array.toList_inj.1
  rw [Array.toList_setIfInBounds]
  have hl : (avl t.s).length = 17 := by simp [avl, nums, h]
  simp only [flat, tseg, List.flatten_cons]
  rw [List.set_append_right _ _ (by rw [hl]; omega), hl, show 18 + i - 17 = i + 1 by omega]
  simp only [avl, List.cons_append]
  rw [List.set_cons_succ, List.set_append_left _ _ (by simp [nums]; exact hi)]
  simp [nums, List.map_set]
theorem fill_step {ys : List Int} {i : Nat} (hl : ys.length = 16) (hi : i < 16) : (ys.take i ++ zs (16 - i)).set i (ys.getD i 0) = ys.take (i + 1) ++ zs (16 - (i + 1)) := by
  have hz : zs (16 - i) = 0 :: zs (16 - (i + 1)) := by unfold zs; rw [show 16 - i = (16 - (i + 1)) + 1 by omega]; rfl
  have hl2 : (ys.take i).length = i := by simp; omega
  rw [hz, List.set_append_right _ _ (by omega), hl2, Nat.sub_self, take_snoc (by omega)]
  simp
/-- The tuple while its bytes are put in. -/
def GF (wA : World) (g7 : Nat) (bv : Bool) (p sp dp : Int) (xs : List Int) (i : Nat) (W : World) : Prop := BT g7 ⟨⟨bv, (srcB xs).take i ++ zs (16 - i)⟩, ⟨bv, (dstB xs).take i ++ zs (16 - i)⟩, p, sp, dp⟩ W ∧ Below wA.heap.size wA W
theorem or_join_i64 {x y : Int} (h0 : 0 ≤ x) (h1 : x < 256) (h2 : 0 ≤ y) (h3 : y < 256) : Go.bits .or .i64 (x * 256) y = x * 256 + y := by
  have h := or_join_u64 8 (x := x * 256) (y := y) (by omega) (by omega) (by omega) h2 (by omega) (by omega)
  unfold Go.bits at h ⊢
  rw [wrap_u64] at h
  dsimp only at h ⊢
  have hN : ∀ N : Nat, N < 18446744073709551616 → ((N : Int) % 18446744073709551616 = x * 256 + y) → IntKind.i64.wrap (N : Int) = x * 256 + y := fun N hN e => by
    rw [IntWalk.i64_in _ (by omega)]; omega
  exact hN _ (BitVec.isLt _) h
set_option maxHeartbeats 16000000 in
theorem refGetTuple_yes (A : Option Addr) (c : Nat) (xs : List Int) (w : World) (hr : Kd.C (Kd.int .u8) w A xs.length xs) (hc : xs.length ≤ c) (hx : AllB xs) (hl : xs.length = 38) : Calls Try.prog 34 #[.slice A xs.length c] w (GetR xs w) := by
  rw [hl] at hr hc ⊢
  obtain ⟨ad, rfl, -⟩ := (Kd.reads_of_C (d := (0 : Int)) hr).2.2 (by decide)
  have HX := Aside0.mk (And.intro hl (And.intro hx hc))
  have HZ := Aside0.mk built_zero
  have HOK := Aside0.mk (raw_ok hx hl)
  have HM := Aside0.mk ((Mem.nil w).new (.cells (flat (tseg zT)) 44))
  simp only [List.nil_append] at HM
  have b0 := byte_at hx 0
  have hpb := byte_at hx 1
  have hs1 := byte_at hx 34
  have hs2 := byte_at hx 35
  have hd1 := byte_at hx 36
  have hd2 := byte_at hx 37
  have HCL : Aside0 (∀ W, Below w.heap.size w W → ∀ i, i < 38 → W.cell? (ad.add i) = some (.int .u8 (xs.getD i 0))) := ⟨fun W hW i hi => byte_cell (Kd.C_below hr hW) hl i hi⟩
  have HVV : Aside0 (getT xs = if xs.getD 0 0 ≠ 4 ∧ xs.getD 0 0 ≠ 6 then (13, zT) else if xs.getD 1 0 ≠ 6 ∧ xs.getD 1 0 ≠ 17 then (14, zT) else if rtB (rawT xs) = true then (0, rawT xs) else (11, zT)) := ⟨by unfold getT; rw [if_neg (by omega)]; rfl⟩
  have HRAW : Aside0 (rawT xs = ⟨⟨xs.getD 0 0 == 6, srcB xs⟩, ⟨xs.getD 0 0 == 6, dstB xs⟩, xs.getD 1 0, xs.getD 34 0 * 256 + xs.getD 35 0, xs.getD 36 0 * 256 + xs.getD 37 0⟩) := ⟨rfl⟩
  have HLL : Aside0 ((srcB xs).length = 16 ∧ (dstB xs).length = 16 ∧ (∀ i, i < 16 → (srcB xs).getD i 0 = xs.getD (2 + i) 0) ∧ (∀ i, i < 16 → (dstB xs).getD i 0 = xs.getD (18 + i) 0)) := ⟨HOK.out.s.l, HOK.out.d.l, fun i hi => by simp [srcB, List.getD_eq_getElem?_getD, List.getElem?_take, hi], fun i hi => by simp [dstB, List.getD_eq_getElem?_getD, List.getElem?_take, hi]⟩
  clear hr hx hc hl
  go_enter Try.func34, Try.ntmps34
  go_upto_region 3 with fail
  change Code.wp _ _ _ _ (w.alloc (.cells (flat (tseg zT)) 44))
  generalize w.alloc (.cells (flat (tseg zT)) 44) = wA at *
  have HEX : Aside0 (∀ W, Below wA.heap.size wA W → ∀ x : Tu, OkT x → ∃ W1, (storeVar 44 ⟨w.heap.size, 0, none⟩ (.agg (flat (tseg x)))).run Try.prog W = .ok () W1 ∧ BT w.heap.size x W1 ∧ Below w.heap.size w W1) := ⟨fun W hW x hx => by
    obtain ⟨W1, h1, h2, h3, -⟩ := tup_over hx zT_ok (Nat.le_refl _) (below_step HM.out.b hW) (blk_below (HM.out.get 0 rfl) hW)
    exact ⟨W1, h1, h2, h3⟩⟩
  have HCA : Aside0 (∀ W, Below wA.heap.size wA W → ∀ i, i < 38 → W.cell? (ad.add i) = some (.int .u8 (xs.getD i 0))) := ⟨fun W hW => HCL.out W (below_step HM.out.b hW)⟩
  clear HCL
  have HGB : Aside0 (Below wA.heap.size wA wA) := ⟨Below.refl _ _⟩
  have hA0 : ad.add 0 = ad := by unfold Addr.add; rw [if_pos rfl]
  have c0 := HCA.out wA HGB.out 0 (by decide)
  have c1 := HCA.out wA HGB.out 1 (by decide)
  rw [hA0] at c0
  rw [add_pos ad 1 (by decide)] at c1
  have HA0 := Aside0.mk hA0
  clear hA0
  generalize hx0 : xs.getD 0 0 = x0 at *
  generalize hpn : xs.getD 1 0 = p at *
  have HX0 := Aside0.mk hx0
  have HPQ := Aside0.mk hpn
  clear hx0 hpn
  by_cases h46 : x0 = 4 ∨ x0 = 6
  case neg =>
    have q4 : (x0 != 4) = true := by simp; omega
    have q6 : (x0 != 6) = true := by simp; omega
    have HW : Aside0 (getT xs = (13, zT)) := ⟨by rw [HVV.out, if_pos (by omega)]⟩
    clear h46
    obtain ⟨W1, hst, hb, hB⟩ := HEX.out _ HGB.out zT zT_ok
    have HST := Aside0.mk hst
    have HB := Aside0.mk hb
    have HF : Aside0 (GetR xs w (.returned (.tuple #[.agg (flat (tseg zT)), .int .i64 13])) W1) := ⟨⟨by rw [HW.out], hB⟩⟩
    clear hst hb hB
    go_wp2_with (first | ((with_reducible refine gate_dst (N := 20) rfl ?_); refine Kd.event_run rfl (exec_build rfl rfl HZ.out) ?_) | ((with_reducible refine gate_store (t := 44) rfl ?_); refine event_skip rfl (exec_store rfl rfl rfl HST.out) ?_))
    refine bodyPost_ret (results_tup2 rfl _ _ w.heap.size zT_ok rfl HB.out) rfl ?_
    exact HF.out
  have HV4 : Aside0 (¬ (x0 ≠ 4 ∧ x0 ≠ 6)) := ⟨by omega⟩
  go_cut [19] from 10 to 18 (fun s19 wx => wA = wx ∧ s19 = .bool false)
  case first =>
    rcases h46 with rfl | rfl
    · go_wp2_with fail
      go_meet
      exact ⟨rfl, rfl⟩
    · go_wp2_with fail
      go_meet
      exact ⟨rfl, rfl⟩
  obtain ⟨rfl, rfl⟩ := hcut
  go_upto_region 5 with fail
  obtain ⟨bv, hbv⟩ : ∃ bv, (x0 == 6) = bv := ⟨_, rfl⟩
  rw [hbv] at HRAW
  by_cases hp : p = 6 ∨ p = 17
  case neg =>
    have q6 : (p != 6) = true := by simp; omega
    have q17 : (p != 17) = true := by simp; omega
    have HW : Aside0 (getT xs = (14, zT)) := ⟨by rw [HVV.out, if_neg HV4.out, if_pos (by omega)]⟩
    clear hp
    obtain ⟨W1, hst, hb, hB⟩ := HEX.out _ HGB.out zT zT_ok
    have HST := Aside0.mk hst
    have HB := Aside0.mk hb
    have HF : Aside0 (GetR xs w (.returned (.tuple #[.agg (flat (tseg zT)), .int .i64 14])) W1) := ⟨⟨by rw [HW.out], hB⟩⟩
    clear hst hb hB
    go_wp2_with (first | ((with_reducible refine gate_dst (N := 31) rfl ?_); refine Kd.event_run rfl (exec_build rfl rfl HZ.out) ?_) | ((with_reducible refine gate_store (t := 44) rfl ?_); refine event_skip rfl (exec_store rfl rfl rfl HST.out) ?_))
    refine bodyPost_ret (results_tup2 rfl _ _ w.heap.size zT_ok rfl HB.out) rfl ?_
    exact HF.out
  go_cut [30] from 21 to 29 (fun s30 wx => wA = wx ∧ s30 = .bool false)
  case first =>
    rcases hp with rfl | rfl
    · go_wp2_with fail
      go_meet
      exact ⟨rfl, rfl⟩
    · go_wp2_with fail
      go_meet
      exact ⟨rfl, rfl⟩
  obtain ⟨rfl, rfl⟩ := hcut
  have HW : Aside0 (getT xs = if rtB (rawT xs) = true then (0, rawT xs) else (11, zT)) := ⟨by rw [HVV.out, if_neg HV4.out, if_neg (by omega)]⟩
  clear HVV HV4
  generalize hs1e : xs.getD 34 0 = s1 at *
  generalize hs2e : xs.getD 35 0 = s2 at *
  generalize hd1e : xs.getD 36 0 = d1 at *
  generalize hd2e : xs.getD 37 0 = d2 at *
  have HEQ := Aside0.mk (And.intro hs1e (And.intro hs2e (And.intro hd1e hd2e)))
  clear hs1e hs2e hd1e hd2e
  have hp2 : 0 ≤ p ∧ p ≤ 17 := by omega
  obtain ⟨hp20, hp21⟩ := hp2
  have ho1 := or_join_i64 hs1.1 hs1.2 hs2.1 hs2.2
  have ho2 := or_join_i64 hd1.1 hd1.2 hd2.1 hd2.2
  have hwp : IntKind.i64.wrap p = p := IntWalk.i64_in _ (by omega)
  have hw1 : IntKind.i64.wrap s1 = s1 := IntWalk.i64_in _ (by omega)
  have hw2 : IntKind.i64.wrap s2 = s2 := IntWalk.i64_in _ (by omega)
  have hw3 : IntKind.i64.wrap d1 = d1 := IntWalk.i64_in _ (by omega)
  have hw4 : IntKind.i64.wrap d2 = d2 := IntWalk.i64_in _ (by omega)
  have hw5 : IntKind.i64.wrap (s1 * 256) = s1 * 256 := IntWalk.i64_in _ (by omega)
  have hw6 : IntKind.i64.wrap (d1 * 256) = d1 * 256 := IntWalk.i64_in _ (by omega)
  have hsp : 0 ≤ s1 * 256 + s2 ∧ s1 * 256 + s2 ≤ 65535 := by omega
  have hdp : 0 ≤ d1 * 256 + d2 ∧ d1 * 256 + d2 ≤ 65535 := by omega
  generalize s1 * 256 + s2 = sp at *
  generalize d1 * 256 + d2 = dp at *
  clear c0 c1 hs1 hs2 hd1 hd2 hpb b0
  go_wp2_with (fail)
  have hBd := below_drew (Below.refl wA.heap.size wA)
  have cc := HCA.out wA.drew hBd
  have e1 := cc 1 (by decide)
  have e34 := cc 34 (by decide)
  have e35 := cc 35 (by decide)
  have e36 := cc 36 (by decide)
  have e37 := cc 37 (by decide)
  rw [add_pos ad _ (by decide)] at e1 e34 e35 e36 e37
  rw [HPQ.out] at e1
  rw [HEQ.out.1] at e34
  rw [HEQ.out.2.1] at e35
  rw [HEQ.out.2.2.1] at e36
  rw [HEQ.out.2.2.2] at e37
  have HBD := Aside0.mk (built_part (p := p) (sp := sp) (dp := dp))
  have HB2 := Aside0.mk hBd
  clear cc hBd HEQ HPQ HGB
  refine RegionI.region_I (S := fun X => X.cell? ⟨ad.block, ad.off + 1, none⟩ = some (.int .u8 p) ∧ (X.cell? ⟨ad.block, ad.off + 34, none⟩ = some (.int .u8 s1) ∧ X.cell? ⟨ad.block, ad.off + 35, none⟩ = some (.int .u8 s2) ∧ X.cell? ⟨ad.block, ad.off + 36, none⟩ = some (.int .u8 d1) ∧ X.cell? ⟨ad.block, ad.off + 37, none⟩ = some (.int .u8 d2))) (D := fun _ => false) (by kernel_rfl) ⟨e1, e34, e35, e36, e37⟩ ?_
  intro hS
  clear e1 e34 e35 e36 e37
  generalize wA.drew = V at *
  refine RegionI.wpAnyI_take (i := 0) (v := ?_) rfl (by kernel_rfl) (by kernel_rfl) (by kernel_rfl) (by kernel_rfl) (by kernel_rfl) (fun _ _ => rfl) (fun _ _ _ h => h) (by rfl) ?_ hS ?_
  rotate_left
  · (intro X hX; obtain ⟨hx0, hx1⟩ := hX; go_simp; try with_reducible rfl)
  refine RegionI.wpAnyI_take (i := 1) (v := ?_) rfl (by kernel_rfl) (by kernel_rfl) (by kernel_rfl) (by kernel_rfl) (by kernel_rfl) (fun _ _ => rfl) (fun _ _ _ h => h) (by rfl) ?_ hS ?_
  rotate_left
  · (intro X hX; obtain ⟨hx0, hx1⟩ := hX; go_simp; try with_reducible rfl)
  refine RegionI.wpAnyI_take (i := 2) (v := ?_) rfl (by kernel_rfl) (by kernel_rfl) (by kernel_rfl) (by kernel_rfl) (by kernel_rfl) (fun _ _ => rfl) (fun _ _ _ h => h) (by rfl) ?_ hS ?_
  rotate_left
  · (intro X hX; obtain ⟨hx0, hx1⟩ := hX; go_simp; try with_reducible rfl)
  refine RegionI.wpAnyI_take (i := 3) (v := ?_) rfl (by kernel_rfl) (by kernel_rfl) (by kernel_rfl) (by kernel_rfl) (by kernel_rfl) (fun _ _ => rfl) (fun _ _ _ h => h) (by rfl) ?_ hS ?_
  rotate_left
  · (intro X hX; obtain ⟨hx0, hx1⟩ := hX; go_simp; try with_reducible rfl)
  refine RegionI.wpAnyI_take (i := 4) (v := ?_) rfl (by kernel_rfl) (by kernel_rfl) (by kernel_rfl) (by kernel_rfl) (by kernel_rfl) (fun _ _ => rfl) (fun _ _ _ h => h) (by rfl) ?_ hS ?_
  rotate_left
  · (intro X hX; obtain ⟨hx0, hx1⟩ := hX; go_simp; try with_reducible rfl)
  refine RegionI.wpAnyI_take (i := 5) (v := ?_) rfl (by kernel_rfl) (by kernel_rfl) (by kernel_rfl) (by kernel_rfl) (by kernel_rfl) (fun _ _ => rfl) (fun _ _ _ h => h) (by rfl) ?_ hS ?_
  rotate_left
  · (intro X hX; obtain ⟨hx0, hx1⟩ := hX; go_simp; try with_reducible rfl)
  refine RegionI.wpAnyI_take (i := 6) (v := ?_) rfl (by kernel_rfl) (by kernel_rfl) (by kernel_rfl) (by kernel_rfl) (by kernel_rfl) (fun _ _ => rfl) (fun _ _ _ h => h) (by rfl) ?_ hS ?_
  rotate_left
  · (intro X hX; obtain ⟨hx0, hx1⟩ := hX; go_simp; try with_reducible rfl)
  refine RegionI.wpAnyI_take (i := 7) (v := ?_) rfl (by kernel_rfl) (by kernel_rfl) (by kernel_rfl) (by kernel_rfl) (by kernel_rfl) (fun _ _ => rfl) (fun _ _ _ h => h) (by rfl) ?_ hS ?_
  rotate_left
  · (intro X hX; obtain ⟨hx0, hx1⟩ := hX; go_simp; try with_reducible rfl)
  refine RegionI.wpAnyI_take (i := 8) (v := ?_) rfl (by kernel_rfl) (by kernel_rfl) (by kernel_rfl) (by kernel_rfl) (by kernel_rfl) (fun _ _ => rfl) (fun _ _ _ h => h) (by rfl) ?_ hS ?_
  rotate_left
  · (intro X hX; obtain ⟨hx0, hx1⟩ := hX; go_simp; try with_reducible rfl)
  refine RegionI.wpAnyI_take (i := 9) (v := ?_) rfl (by kernel_rfl) (by kernel_rfl) (by kernel_rfl) (by kernel_rfl) (by kernel_rfl) (fun _ _ => rfl) (fun _ _ _ h => h) (by rfl) ?_ hS ?_
  rotate_left
  · (intro X hX; obtain ⟨hx0, hx1⟩ := hX; go_simp; try with_reducible rfl)
  refine RegionI.wpAnyI_take (i := 10) (v := ?_) rfl (by kernel_rfl) (by kernel_rfl) (by kernel_rfl) (by kernel_rfl) (by kernel_rfl) (fun _ _ => rfl) (fun _ _ _ h => h) (by rfl) ?_ hS ?_
  rotate_left
  · (intro X hX; obtain ⟨hx0, hx1⟩ := hX; go_simp; try with_reducible rfl)
  refine RegionI.wpAnyI_take (i := 11) (v := ?_) rfl (by kernel_rfl) (by kernel_rfl) (by kernel_rfl) (by kernel_rfl) (by kernel_rfl) (fun _ _ => rfl) (fun _ _ _ h => h) (by rfl) ?_ hS ?_
  rotate_left
  · (intro X hX; obtain ⟨hx0, hx1⟩ := hX; go_simp; try with_reducible rfl)
  refine RegionI.wpAnyI_take (i := 12) (v := ?_) rfl (by kernel_rfl) (by kernel_rfl) (by kernel_rfl) (by kernel_rfl) (by kernel_rfl) (fun _ _ => rfl) (fun _ _ _ h => h) (by rfl) ?_ hS ?_
  rotate_left
  · (intro X hX; obtain ⟨hx0, hx1⟩ := hX; go_simp; try with_reducible rfl)
  refine RegionI.wpAnyI_take (i := 13) (v := ?_) rfl (by kernel_rfl) (by kernel_rfl) (by kernel_rfl) (by kernel_rfl) (by kernel_rfl) (fun _ _ => rfl) (fun _ _ _ h => h) (by rfl) ?_ hS ?_
  rotate_left
  · (intro X hX; obtain ⟨hx0, hx1⟩ := hX; go_simp; try with_reducible rfl)
  refine RegionI.wpAnyI_take (i := 14) (v := ?_) rfl (by kernel_rfl) (by kernel_rfl) (by kernel_rfl) (by kernel_rfl) (by kernel_rfl) (fun _ _ => rfl) (fun _ _ _ h => h) (by rfl) ?_ hS ?_
  rotate_left
  · (intro X hX; obtain ⟨hx0, hx1⟩ := hX; go_simp; try with_reducible rfl)
  refine RegionI.wpAnyI_take (i := 15) (v := ?_) rfl (by kernel_rfl) (by kernel_rfl) (by kernel_rfl) (by kernel_rfl) (by kernel_rfl) (fun _ _ => rfl) (fun _ _ _ h => h) (by rfl) ?_ hS ?_
  rotate_left
  · (intro X hX; obtain ⟨hx0, hx1⟩ := hX; go_simp; try with_reducible rfl)
  refine RegionI.wpAnyI_take (i := 16) (v := ?_) rfl (by kernel_rfl) (by kernel_rfl) (by kernel_rfl) (by kernel_rfl) (by kernel_rfl) (fun _ _ => rfl) (fun _ _ _ h => h) (by rfl) ?_ hS ?_
  rotate_left
  · (intro X hX; obtain ⟨hx0, hx1⟩ := hX; go_simp; try with_reducible rfl)
  refine RegionI.wpAnyI_take (i := 17) (v := ?_) rfl (by kernel_rfl) (by kernel_rfl) (by kernel_rfl) (by kernel_rfl) (by kernel_rfl) (fun _ _ => rfl) (fun _ _ _ h => h) (by rfl) ?_ hS ?_
  rotate_left
  · (intro X hX; obtain ⟨hx0, hx1⟩ := hX; go_simp; try with_reducible rfl)
  refine RegionI.wpAnyI_take (i := 18) (v := ?_) rfl (by kernel_rfl) (by kernel_rfl) (by kernel_rfl) (by kernel_rfl) (by kernel_rfl) (fun _ _ => rfl) (fun _ _ _ h => h) (by rfl) ?_ hS ?_
  rotate_left
  · (intro X hX; obtain ⟨hx0, hx1⟩ := hX; go_simp; try with_reducible rfl)
  refine RegionI.wpAnyI_take (i := 19) (v := ?_) rfl (by kernel_rfl) (by kernel_rfl) (by kernel_rfl) (by kernel_rfl) (by kernel_rfl) (fun _ _ => rfl) (fun _ _ _ h => h) (by rfl) ?_ hS ?_
  rotate_left
  · (intro X hX; obtain ⟨hx0, hx1⟩ := hX; go_simp; try with_reducible rfl)
  refine RegionI.wpAnyI_take (i := 20) (v := ?_) rfl (by kernel_rfl) (by kernel_rfl) (by kernel_rfl) (by kernel_rfl) (by kernel_rfl) (fun _ _ => rfl) (fun _ _ _ h => h) (by rfl) ?_ hS ?_
  rotate_left
  · (intro X hX; obtain ⟨hx0, hx1⟩ := hX; go_simp; try with_reducible rfl)
  refine RegionI.wpAnyI_take (i := 21) (v := ?_) rfl (by kernel_rfl) (by kernel_rfl) (by kernel_rfl) (by kernel_rfl) (by kernel_rfl) (fun _ _ => rfl) (fun _ _ _ h => h) (by rfl) ?_ hS ?_
  rotate_left
  · (intro X hX; obtain ⟨hx0, hx1⟩ := hX; go_simp; try with_reducible rfl)
  refine RegionI.wpAnyI_take (i := 22) (v := ?_) rfl (by kernel_rfl) (by kernel_rfl) (by kernel_rfl) (by kernel_rfl) (by kernel_rfl) (fun _ _ => rfl) (fun _ _ _ h => h) (by rfl) ?_ hS ?_
  rotate_left
  · (intro X hX; obtain ⟨hx0, hx1⟩ := hX; go_simp; try with_reducible rfl)
  refine RegionI.wpAnyI_take (i := 23) (v := ?_) rfl (by kernel_rfl) (by kernel_rfl) (by kernel_rfl) (by kernel_rfl) (by kernel_rfl) (fun _ _ => rfl) (fun _ _ _ h => h) (by rfl) ?_ hS ?_
  rotate_left
  · (intro X hX; obtain ⟨hx0, hx1⟩ := hX; go_simp; try with_reducible rfl)
  refine RegionI.wpAnyI_take (i := 24) (v := .agg (flat (tseg ⟨zA, zA, p, sp, dp⟩))) rfl (by kernel_rfl) (by kernel_rfl) (by kernel_rfl) (by kernel_rfl) (by kernel_rfl) (fun _ _ => rfl) (fun _ _ _ h => h) (by rfl) (fun w hw => exec_build rfl (by go_simp) HBD.out) hS ?_
  have HSS := Aside0.mk hS
  clear hS
  have HOK0 : Aside0 (OkT ⟨zA, zA, p, sp, dp⟩) := ⟨⟨zA_ok, zA_ok, ⟨by dsimp only; omega, by dsimp only; omega⟩, ⟨by dsimp only; omega, by dsimp only; omega⟩, ⟨by dsimp only; omega, by dsimp only; omega⟩⟩⟩
  have HST := Aside0.mk (tup_new V rfl (x := ⟨zA, zA, p, sp, dp⟩) HOK0.out zT_ok)
  have hS1 : ∀ o, (fun X : World => X.cell? ⟨ad.block, ad.off + 1, none⟩ = some (.int .u8 p) ∧ (X.cell? ⟨ad.block, ad.off + 34, none⟩ = some (.int .u8 s1) ∧ X.cell? ⟨ad.block, ad.off + 35, none⟩ = some (.int .u8 s2) ∧ X.cell? ⟨ad.block, ad.off + 36, none⟩ = some (.int .u8 d1) ∧ X.cell? ⟨ad.block, ad.off + 37, none⟩ = some (.int .u8 d2))) (V.alloc o) := fun o =>
    have hB := below_alloc (Below.refl V.heap.size V) o
    ⟨pw_cell_below hB HSS.out.1, pw_cell_below hB HSS.out.2.1, pw_cell_below hB HSS.out.2.2.1, pw_cell_below hB HSS.out.2.2.2.1, pw_cell_below hB HSS.out.2.2.2.2⟩
  have HS1 := Aside0.mk hS1
  clear hS1
  refine RegionI.wpAnyI_one (i := 25) (by kernel_rfl) rfl (fun K hK => ?_)
  go_simp
  refine hK _ (V.alloc (.cells (flat (tseg zT)) 44)) ⟨fun _ => HS1.out _, ?_⟩
  clear hK K
  refine RegionI.wpAnyI_one (i := 26) (by kernel_rfl) rfl (fun K hK => ?_)
  refine step_skip (by rfl) (exec_store rfl (by go_simp) (by go_simp) HST.out) ?_
  go_simp
  refine hK _ _ ⟨fun _ => HS1.out _, ?_⟩
  clear hK K HST HS1 HSS
  refine RegionI.wpAnyI_done (by kernel_rfl) ?_ _
  have HG : Aside0 (BT V.heap.size ⟨zA, zA, p, sp, dp⟩ (V.alloc (.cells (flat (tseg ⟨zA, zA, p, sp, dp⟩)) 44)) ∧ Below wA.heap.size wA (V.alloc (.cells (flat (tseg ⟨zA, zA, p, sp, dp⟩)) 44))) := ⟨blk_new V _, below_alloc HB2.out _⟩
  have HG7 : Aside0 (wA.heap.size ≤ V.heap.size) := ⟨HB2.out.size⟩
  clear HB2 HBD
  generalize V.alloc (.cells (flat (tseg ⟨zA, zA, p, sp, dp⟩)) 44) = W4 at *
  generalize V.heap.size = g7 at *
  have hb1 := set_sv HG.out.1 bv
  have hb2 := set_dv (t := ⟨⟨bv, zA.b⟩, zA, p, sp, dp⟩) ⟨zA_ok, zA_ok, HOK0.out.p, HOK0.out.sp, HOK0.out.dp⟩ hb1 bv
  have hg1 := setCells_grown W4 g7 [.bool bv] 0
  have hg2 := setCells_grown (W4.setCell ⟨g7, 0, none⟩ (.bool bv)) g7 [.bool bv] 17
  have hl1 := HG.out.2.grown hg1 HG.out.2.size (fun k hk => by injection hk with hk; have := HG7.out; omega)
  have hl2 := hl1.grown hg2 hl1.size (fun k hk => by injection hk with hk; have := HG7.out; omega)
  obtain ⟨f0, f17, -, -, -⟩ := tcells HOK0.out HG.out.1
  have g0 := blk_frozen HG.out.1 0
  have g17 := blk_frozen HG.out.1 17
  have hA0 := HA0.out
  have c0 := HCA.out W4 HG.out.2 0 (by decide)
  have c0w := HCA.out _ hl1 0 (by decide)
  rw [hA0, HX0.out] at c0 c0w
  have c0' : (W4.setCell ⟨g7, 0, none⟩ (.bool bv)).cell? ad = some (.int .u8 x0) := c0w
  clear c0w
  have HF : Aside0 (GF wA g7 bv p sp dp xs 0 ((W4.setCell ⟨g7, 0, none⟩ (.bool bv)).setCell ⟨g7, 17, none⟩ (.bool bv))) := ⟨⟨hb2, hl2⟩⟩
  clear hb1 hb2 hg1 hg2 hl1 hl2 hA0 HG
  go_upto_region 10 with fail
  generalize (W4.setCell ⟨g7, 0, none⟩ (.bool bv)).setCell ⟨g7, 17, none⟩ (.bool bv) = W5 at *
  clear c0 c0' f0 f17 g0 g17
  go_wp2_with fail
  go_loopg [5] 16 (fun kq v5 w' => ∃ i : Nat, Aside0 (kq + i = 16) ∧ v5 = .int .i64 (i : Int) ∧ Aside0 (GF wA g7 bv p sp dp xs i w'))
  case atStart => exact ⟨0, ⟨rfl⟩, rfl, HF⟩
  case round =>
    clear HF
    obtain ⟨i, HK, rfl, HI⟩ := hrel
    cases gk with
    | succ kq =>
      have hi : i < 16 := by have := HK.out; omega
      have hi2 : ((i : Nat) : Int) < 16 := by omega
      obtain ⟨hb, hl⟩ := HI.out
      have hl2 : ((srcB xs).take i ++ zs (16 - i)).length = 16 := by simp [zs, HLL.out.1]; omega
      have hl3 : ((dstB xs).take i ++ zs (16 - i)).length = 16 := by simp [zs, HLL.out.2.1]; omega
      have c1 := HCA.out wr hl (2 + i) (by omega)
      rw [← HLL.out.2.2.1 i hi] at c1
      obtain ⟨y1, e1⟩ : ∃ y, wr.cell? ⟨g7, 1 + i, none⟩ = some y := ⟨_, by
        have := seg_cellj hb (i := 0) rfl (show off _ 0 = 0 by simp [off]) (1 + i) (x := .int .u8 (((srcB xs).take i ++ zs (16 - i)).getD i 0)) (by rw [Nat.add_comm]; simp only [tseg, avl, List.getElem?_cons_succ, nums, List.getElem?_map]; rw [List.getElem?_eq_getElem (by omega), List.getD_eq_getElem?_getD, List.getElem?_eq_getElem (by omega)]; rfl)
        rwa [Nat.zero_add] at this⟩
      have f1 := blk_frozen hb (1 + i)
      have hb' := set_sb hb (i := i) (by dsimp only; omega) ((srcB xs).getD i 0)
      have hg1 := setCells_grown wr g7 [.int .u8 ((srcB xs).getD i 0)] (1 + i)
      have hlw := hl.grown hg1 hl.size (fun k hk => by injection hk with hk; have := HG7.out; omega)
      have c2w := HCA.out _ hlw (18 + i) (by omega)
      rw [← HLL.out.2.2.2 i hi] at c2w
      have c2 : (wr.setCell ⟨g7, 1 + i, none⟩ (.int .u8 ((srcB xs).getD i 0))).cell? (ad.add (18 + i)) = some (.int .u8 ((dstB xs).getD i 0)) := c2w
      dsimp only at hb'
      rw [fill_step HLL.out.1 hi] at hb'
      obtain ⟨y2, e2⟩ : ∃ y, (wr.setCell ⟨g7, 1 + i, none⟩ (.int .u8 ((srcB xs).getD i 0))).cell? ⟨g7, 18 + i, none⟩ = some y := by
        have hlS : ((srcB xs).take (i + 1) ++ zs (16 - (i + 1))).length = 16 := by simp [zs, HLL.out.1]; omega
        have hq := hb'
        generalize (srcB xs).take (i + 1) ++ zs (16 - (i + 1)) = SL at hq hlS
        generalize (dstB xs).take i ++ zs (16 - i) = DL at hq hl3
        have := seg_cellj hq (i := 1) rfl (show off _ 1 = 17 by simp [off, tseg, avl, nums, hlS]) (1 + i) (x := .int .u8 (DL.getD i 0)) (by rw [Nat.add_comm]; simp only [tseg, avl, List.getElem?_cons_succ, nums, List.getElem?_map]; rw [List.getElem?_eq_getElem (by omega), List.getD_eq_getElem?_getD, List.getElem?_eq_getElem (by omega)]; rfl)
        rw [show 17 + (1 + i) = 18 + i by omega] at this
        exact ⟨_, this⟩
      have f2 := blk_frozen hb' (18 + i)
      have hb'' := set_db (by simp [zs, HLL.out.1]; omega) hb' (i := i) (by dsimp only; omega) ((dstB xs).getD i 0)
      dsimp only at hb''
      rw [fill_step HLL.out.2.1 hi] at hb''
      have hg2 := setCells_grown (wr.setCell ⟨g7, 1 + i, none⟩ (.int .u8 ((srcB xs).getD i 0))) g7 [.int .u8 ((dstB xs).getD i 0)] (18 + i)
      have hlx := hlw.grown hg2 hlw.size (fun k hk => by injection hk with hk; have := HG7.out; omega)
      have HN : Aside0 (GF wA g7 bv p sp dp xs (i + 1) ((wr.setCell ⟨g7, 1 + i, none⟩ (.int .u8 ((srcB xs).getD i 0))).setCell ⟨g7, 18 + i, none⟩ (.int .u8 ((dstB xs).getD i 0)))) := ⟨⟨hb'', hlx⟩⟩
      clear hb hl hl2 hl3 hb' hg1 hlw c2w hb'' hg2 hlx HI
      generalize (srcB xs).getD i 0 = xa at *
      generalize (dstB xs).getD i 0 = xb at *
      go_wp2_with fail
      go_roundg kq
      case measure => omega
      case rel => exact ⟨i + 1, ⟨by have := HK.out; omega⟩, by first | rfl | go_num, HN⟩
    | zero =>
      obtain rfl : i = 16 := by have := HK.out; omega
      obtain ⟨hb, hl⟩ := HI.out
      rw [List.take_of_length_le (by rw [HLL.out.1]; exact Nat.le_refl _), List.take_of_length_le (by rw [HLL.out.2.1]; exact Nat.le_refl _)] at hb
      have hb' : BT g7 (rawT xs) wr := by rw [HRAW.out]; simpa [zs] using hb
      have HG : Aside0 (BT g7 (rawT xs) wr ∧ Below wA.heap.size wA wr) := ⟨hb', hl⟩
      clear hb hl hb' HI HRAW HLL HCA
      generalize rawT xs = T at *
      go_wp2_with ((with_reducible refine gate_dst (N := 91) rfl ?_); refine Kd.event_run rfl (exec_load rfl rfl (load_tup HOK.out HG.out.1)) ?_)
      refine (RefRightTuple_any T _ HOK.out).mono ?_
      rintro e w7 ⟨rfl, hB⟩
      have HGB : Aside0 (Below wA.heap.size wA w7) := ⟨below_step HG.out.2 hB⟩
      have HBT : Aside0 (BT g7 T w7) := ⟨blk_below HG.out.1 hB⟩
      clear hB HG
      cases hrt : rtB T with
      | false =>
        rw [hrt] at HW
        have HW2 : Aside0 (getT xs = (11, zT)) := ⟨by rw [HW.out]; rfl⟩
        clear HW hrt
        obtain ⟨W1, hst, hb, hB⟩ := HEX.out _ HGB.out zT zT_ok
        have HST := Aside0.mk hst
        have HB := Aside0.mk hb
        have HF : Aside0 (GetR xs w (.returned (.tuple #[.agg (flat (tseg zT)), .int .i64 11])) W1) := ⟨⟨by rw [HW2.out], hB⟩⟩
        clear hst hb hB
        go_wp2_with (first | ((with_reducible refine gate_dst (N := 94) rfl ?_); refine Kd.event_run rfl (exec_build rfl rfl HZ.out) ?_) | ((with_reducible refine gate_store (t := 44) rfl ?_); refine event_skip rfl (exec_store rfl rfl rfl HST.out) ?_))
        refine bodyPost_ret (results_tup2 rfl _ _ w.heap.size zT_ok rfl HB.out) rfl ?_
        exact HF.out
      | true =>
        rw [hrt] at HW
        have HW2 : Aside0 (getT xs = (0, T)) := ⟨by rw [HW.out]; rfl⟩
        clear HW hrt
        obtain ⟨W1, hst, hb, hB⟩ := HEX.out _ HGB.out T HOK.out
        have HST := Aside0.mk hst
        have HB := Aside0.mk hb
        have HF : Aside0 (GetR xs w (.returned (.tuple #[.agg (flat (tseg T)), .int .i64 0])) W1) := ⟨⟨by rw [HW2.out], hB⟩⟩
        clear hst hb hB
        go_wp2_with (first | ((with_reducible refine gate_dst (N := 95) rfl ?_); refine Kd.event_run rfl (exec_load rfl rfl (load_tup HOK.out HBT.out)) ?_) | ((with_reducible refine gate_store (t := 44) rfl ?_); refine event_skip rfl (exec_store rfl rfl rfl HST.out) ?_))
        refine bodyPost_ret (results_tup2 rfl _ _ w.heap.size HOK.out rfl HB.out) rfl ?_
        exact HF.out
end Go.Proofs.Ytfnpjfcfgilchaa.AddrW
