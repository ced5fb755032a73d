/- TupB: TupB1, TupB2, TupB3. -/
import Derived.Test.YtfnpjfcfgilchaaTupP
import Derived.Test.YtfnpjfcfgilchaaCurB
import Derived.Test.YtfnpjfcfgilchaaLitC
import Derived.Test.YtfnpjfcfgilchaaRegionI2
import Derived.Test.YtfnpjfcfgilchaaBase
import Derived.Deep.LoopGhost
namespace Go.Proofs.Ytfnpjfcfgilchaa.AddrW
open Go.RowKit Go.Proofs.Ytfnpjfcfgilchaa.Cur Go.Proofs.Ytfnpjfcfgilchaa.Own Go.Proofs.Ytfnpjfcfgilchaa.Segs Go.Proofs.Ytfnpjfcfgilchaa.Mem Go.Proofs.Ytfnpjfcfgilchaa.AddrEq Go.Proofs.Ytfnpjfcfgilchaa.AddrM Go.Proofs.Ytfnpjfcfgilchaa.Bits Go.Proofs.Ytfnpjfcfgilchaa.Help Go.Proofs.YtfnpjfcfgilchaaW.PrintWords Go.Proofs.YtfnpjfcfgilchaaW.PrintLast Go.Proofs.YtfnpjfcfgilchaaW.PrintMore
set_option linter.unusedVariables false
set_option linter.unusedSimpArgs false
theorem num_op (n : Int) (w : World) : Calls Try.prog 52 #[.int .i64 n] w fun e w' => e = .returned (.agg #[.int .i64 0, .int .i64 n]) ∧ Below w.heap.size w w' := by
  go_enter Try.func52, Try.ntmps52
  go_wp2_with fail
  exact bodyPost_ret (v := .agg #[.int .i64 0, .int .i64 n]) (by simp [results, Try.results52, go_sem]) rfl ⟨rfl, below_alloc (Below.refl _ _) _⟩
/-- The pieces' cells. -/
def opsC : Array Value := #[.int .i64 0, .int .i64 1, .int .i64 0, .int .i64 1, .int .i64 1, .int .i64 16, .int .i64 1, .int .i64 16, .int .i64 0, .int .i64 2, .int .i64 0, .int .i64 2]
set_option maxHeartbeats 4000000 in
theorem pieces_any (w : World) : Calls Try.prog 44 #[] w fun e w' => ∃ g, e = .returned (.slice (some ⟨g, 0, none⟩) 6 6) ∧ w'.heap[g]? = some (.cells opsC 71 (0, 0)) ∧ w.heap.size ≤ g ∧ Below w.heap.size w w' := by
  have HM := Aside0.mk ((Mem.nil w).new (.cells #[.int .i64 1, .int .i64 16] 71))
  simp only [List.nil_append] at HM
  go_enter Try.func44, Try.ntmps44
  go_upto_region 3 with fail
  refine RegionF.region_F (F := (Mem w _)) 10 (by kernel_rfl) (by kernel_rfl) HM.out.drew ?_
  simp only [List.take_succ_cons, List.take_zero, List.drop_succ_cons, List.drop_zero]
  clear HM
  repeat (first
    | (refine RegionF.wpF_skip (by rfl) ?_
       refine RegionF.wpF_put (fun K' hK' => ?_)
       go_simp
       refine hK' _ ?_
       clear hK' K')
    | (apply RegionF.wpF_step
       · rfl
       · (intro W hW; first | (rw [exec_load rfl rfl (seg_whole (P := Try.prog) (segs := [[.int .i64 1], [.int .i64 16]]) (hW.get 0 rfl) Try.underlying71 rfl infoO rfl)]; exact RegionF.GivesF.value rfl hW) | (go_simp; first | exact RegionF.GivesF.value rfl hW | (apply RegionF.GivesF.enter; first | (with_reducible exact (num_op 1 W).mono fun e w1 h => ⟨h.1, hW.below h.2⟩) | (with_reducible exact (num_op 2 W).mono fun e w1 h => ⟨h.1, hW.below h.2⟩))))
       refine RegionF.wpF_put (fun K' hK' => ?_)
       go_simp
       refine hK' _ ?_
       clear hK' K'))
  refine RegionF.wpF_nil (fun W hW => ?_)
  have HB := Aside0.mk hW.b
  clear hW
  go_wp2_with fail
  go_ret
  exact ⟨W.heap.size, rfl, blk_new W _, HB.out.size, below_alloc HB.out _⟩
end Go.Proofs.Ytfnpjfcfgilchaa.AddrW
namespace Go.Proofs.Ytfnpjfcfgilchaa.AddrW
open Go.RowKit Go.Proofs.Ytfnpjfcfgilchaa.Cur Go.Proofs.Ytfnpjfcfgilchaa.Own Go.Proofs.Ytfnpjfcfgilchaa.Segs Go.Proofs.Ytfnpjfcfgilchaa.Mem Go.Proofs.Ytfnpjfcfgilchaa.AddrEq Go.Proofs.Ytfnpjfcfgilchaa.AddrM Go.Proofs.Ytfnpjfcfgilchaa.Bits Go.Proofs.Ytfnpjfcfgilchaa.Help Go.Proofs.YtfnpjfcfgilchaaW.PrintWords Go.Proofs.YtfnpjfcfgilchaaW.PrintLast Go.Proofs.YtfnpjfcfgilchaaW.PrintMore
set_option linter.unusedVariables false
set_option linter.unusedSimpArgs false
def putE (t : Tu) : Int := if rtB t then 0 else 1
def putB (t : Tu) : List Int := if rtB t then tupB t else []
/-- What PutTuple comes to. -/
def PutR (t : Tu) (w : World) (e : Ending) (w' : World) : Prop := ∃ v, e = .returned (.tuple #[v, .int .i64 (putE t)]) ∧ Owns w' w.heap.size v (putB t) ∧ Below w.heap.size w w'
/-- A tuple's addresses, read as bytes. -/
theorem src_C {W : World} {g : Nat} {t : Tu} (h : OkT t) (hb : BT g t W) : Kd.C (Kd.int .u8) W (some ⟨g, 1, none⟩) 16 t.s.b := by
  have := C_of_block (k := .u8) (off := 1) (xs := t.s.b) hb (by rw [h.s.l]; decide) (fun j hj => by
    have := seg_cellj hb (i := 0) rfl (toff h).1 (1 + j) (x := .int .u8 (t.s.b.getD j 0)) (by rw [Nat.add_comm]; simp [tseg, avl, nums, List.getElem?_eq_getElem hj, List.getD_eq_getElem?_getD])
    rw [Nat.zero_add, blk_cell hb] at this
    exact this)
  rwa [h.s.l] at this
theorem dst_C {W : World} {g : Nat} {t : Tu} (h : OkT t) (hb : BT g t W) : Kd.C (Kd.int .u8) W (some ⟨g, 18, none⟩) 16 t.d.b := by
  have := C_of_block (k := .u8) (off := 18) (xs := t.d.b) hb (by rw [h.d.l]; decide) (fun j hj => by
    have := seg_cellj hb (i := 1) rfl (toff h).2.1 (1 + j) (x := .int .u8 (t.d.b.getD j 0)) (by rw [Nat.add_comm]; simp [tseg, avl, nums, List.getElem?_eq_getElem hj, List.getD_eq_getElem?_getD])
    rw [show 17 + (1 + j) = 18 + j by omega, blk_cell hb] at this
    exact this)
  rwa [h.d.l] at this
/-- The values' cells. -/
def valsV (g : Nat) (ver : Int) (t : Tu) : Array Value := #[.int .u64 ver, .slice none 0 0, .int .u64 t.p, .slice none 0 0, .int .u64 0, .slice (some ⟨g, 1, none⟩) 16 16, .int .u64 0, .slice (some ⟨g, 18, none⟩) 16 16, .int .u64 t.sp, .slice none 0 0, .int .u64 t.dp, .slice none 0 0]
def valsC (g : Nat) (t : Tu) : Array Value := valsV g (verN t.s.v) t
theorem vals_C {W : World} {g q : Nat} {t : Tu} (h : OkT t) (hb : BT g t W) (hq : W.heap[q]? = some (.cells (valsC g t) 61 (0, 0))) : dV.C W (some ⟨q, 0, none⟩) 6 (tvals t) :=
  lit_C [((verN t.s.v, ([] : List Int)), [.int .u64 (verN t.s.v), .slice none 0 0]), ((t.p, []), [.int .u64 t.p, .slice none 0 0]), ((0, t.s.b), [.int .u64 0, .slice (some ⟨g, 1, none⟩) 16 16]), ((0, t.d.b), [.int .u64 0, .slice (some ⟨g, 18, none⟩) 16 16]), ((t.sp, []), [.int .u64 t.sp, .slice none 0 0]), ((t.dp, []), [.int .u64 t.dp, .slice none 0 0])]
    (fun p hp => by
      have hn : ∀ n : Int, dV.K W (n, ([] : List Int)) [.int .u64 n, .slice none 0 0] := fun n => ⟨[_], [_], rfl, rfl, none, 0, rfl, Nat.le_refl _, C_zero _ _⟩
      simp only [List.mem_cons, List.not_mem_nil, or_false] at hp
      rcases hp with rfl | rfl | rfl | rfl | rfl | rfl
      · exact hn _
      · exact hn _
      · exact ⟨[_], [_], rfl, rfl, some ⟨g, 1, none⟩, 16, by rw [h.s.l], by rw [h.s.l]; exact Nat.le_refl _, by rw [h.s.l]; exact src_C h hb⟩
      · exact ⟨[_], [_], rfl, rfl, some ⟨g, 18, none⟩, 16, by rw [h.d.l], by rw [h.d.l]; exact Nat.le_refl _, by rw [h.d.l]; exact dst_C h hb⟩
      · exact hn _
      · exact hn _) hq (by simp)
theorem ops_C {W : World} {q : Nat} (hq : W.heap[q]? = some (.cells opsC 71 (0, 0))) : dO.C W (some ⟨q, 0, none⟩) 6 tops :=
  lit_C [(((0 : Int), (1 : Int)), [.int .i64 0, .int .i64 1]), ((0, 1), [.int .i64 0, .int .i64 1]), ((1, 16), [.int .i64 1, .int .i64 16]), ((1, 16), [.int .i64 1, .int .i64 16]), ((0, 2), [.int .i64 0, .int .i64 2]), ((0, 2), [.int .i64 0, .int .i64 2])]
    (fun p hp => by
      have hn : ∀ a b : Int, dO.K W (a, b) [.int .i64 a, .int .i64 b] := fun a b => ⟨[_], [_], rfl, rfl, rfl⟩
      simp only [List.mem_cons, List.not_mem_nil, or_false] at hp
      rcases hp with rfl | rfl | rfl | rfl | rfl | rfl <;> exact hn _ _) hq (by simp)
theorem tup_lay {W : World} {g q r : Nat} {t : Tu} (h : OkT t) (hr : rtB t = true) (hb : BT g t W) (hq : W.heap[q]? = some (.cells (valsC g t) 61 (0, 0))) (hp : W.heap[r]? = some (.cells opsC 71 (0, 0))) :
    Calls Try.prog 43 #[.slice (some ⟨q, 0, none⟩) 6 6, .slice (some ⟨r, 0, none⟩) 6 6] W fun e w' => ∃ v, e = .returned (.tuple #[v, .int .i64 0]) ∧ Owns w' W.heap.size v (tupB t) ∧ Below W.heap.size W w' := by
  obtain ⟨-, hsp, hdp, hpp⟩ := rtB_facts hr
  have v1 := verN_in t.s.v
  refine (Lay_any W _ _ 6 6 (tvals t) tops (vals_C h hb hq) (Nat.le_refl _) (ops_C hp) (Nat.le_refl _) (by decide) (fun v hv => ?_)).mono ?_
  · simp only [tvals, List.mem_cons, List.not_mem_nil, or_false] at hv
    rcases hv with rfl | rfl | rfl | rfl | rfl | rfl <;> dsimp only <;> omega
  · rintro e w' ⟨v, he, hO, hB⟩
    rw [layA_tup h hr] at he hO
    exact ⟨v, he, hO, hB⟩
set_option maxHeartbeats 8000000 in
theorem PutTuple_any (t : Tu) (w : World) (h : OkT t) : Calls Try.prog 31 #[.agg (flat (tseg t))] w (PutR t w) := by
  have HM := Aside0.mk ((Mem.nil w).new (.cells (flat (tseg t)) 44))
  simp only [List.nil_append] at HM
  have H := Aside0.mk h
  have HR := Aside0.mk (fun W => RightTuple_any t W h)
  have HP : Aside0 (∀ e w', PutR t w e w' = ∃ v, e = .returned (.tuple #[v, .int .i64 (putE t)]) ∧ Owns w' w.heap.size v (putB t) ∧ Below w.heap.size w w') := ⟨fun _ _ => rfl⟩
  clear h
  go_enter Try.func31, Try.ntmps31
  go_wp2_with ((with_reducible refine gate_dst (N := 5) rfl ?_); refine Kd.event_run rfl (exec_load rfl rfl (load_tup H.out (HM.out.get 0 rfl))) ?_)
  refine (HR.out _).mono ?_
  rintro e w1 ⟨rfl, hB⟩
  replace HM := Aside0.mk (HM.out.below hB)
  clear hB
  cases hr : rtB t with
  | false =>
    have HF : Aside0 (PutR t w (.returned (.tuple #[.slice none 0 0, .int .i64 1])) w1) := ⟨⟨_, by unfold putE; rw [hr]; rfl, by unfold putB; rw [hr]; exact Owns.nil _ _, HM.out.b⟩⟩
    clear hr
    go_wp2_with fail
    go_ret2
    exact HF.out
  | true =>
    have HRT := Aside0.mk hr
    obtain ⟨-, hsp, hdp, hpp⟩ := rtB_facts hr
    have hp0 : 0 ≤ t.p := by omega
    have hp1 : t.p ≤ 17 := by omega
    have hwp : IntKind.u64.wrap t.p = t.p := wrap_u64_id (by omega) (by omega)
    have hws : IntKind.u64.wrap t.sp = t.sp := wrap_u64_id (by omega) (by omega)
    have hwd : IntKind.u64.wrap t.dp = t.dp := wrap_u64_id (by omega) (by omega)
    obtain ⟨d0, -, -, -, -⟩ := tcells H.out (HM.out.get 0 rfl)
    clear hr hpp HR
    cases hv : t.s.v
    all_goals
      rw [hv] at d0
      go_upto_region 6 with fail
      have HM6 := Aside0.mk HM.out.drew
      obtain ⟨-, -, e34, e35, e36⟩ := tcells H.out (HM6.out.get 0 rfl)
      clear HM d0
      refine RegionI.region_I (S := fun X => X.cell? ⟨w.heap.size, 34, none⟩ = some (.int .i64 t.p) ∧ (X.cell? ⟨w.heap.size, 35, none⟩ = some (.int .i64 t.sp) ∧ X.cell? ⟨w.heap.size, 36, none⟩ = some (.int .i64 t.dp))) (D := fun _ => false) (by kernel_rfl) ⟨e34, e35, e36⟩ ?_
      intro hS
      clear e34 e35 e36
      generalize w1.drew = V at *
      refine RegionI.wpAnyI_take (i := 0) (v := ?_) rfl (by kernel_rfl) (by kernel_rfl) (by kernel_rfl) (by kernel_rfl) (by kernel_rfl) (fun _ _ => rfl) (fun _ _ _ h => h) (by rfl) ?_ hS ?_
      rotate_left
      · (intro X hX; obtain ⟨hx0, hx1⟩ := hX; go_simp; try with_reducible rfl)
      refine RegionI.wpAnyI_take (i := 1) (v := ?_) rfl (by kernel_rfl) (by kernel_rfl) (by kernel_rfl) (by kernel_rfl) (by kernel_rfl) (fun _ _ => rfl) (fun _ _ _ h => h) (by rfl) ?_ hS ?_
      rotate_left
      · (intro X hX; obtain ⟨hx0, hx1⟩ := hX; go_simp; try with_reducible rfl)
      refine RegionI.wpAnyI_take (i := 2) (v := ?_) rfl (by kernel_rfl) (by kernel_rfl) (by kernel_rfl) (by kernel_rfl) (by kernel_rfl) (fun _ _ => rfl) (fun _ _ _ h => h) (by rfl) ?_ hS ?_
      rotate_left
      · (intro X hX; obtain ⟨hx0, hx1⟩ := hX; go_simp; try with_reducible rfl)
      refine RegionI.wpAnyI_take (i := 3) (v := ?_) rfl (by kernel_rfl) (by kernel_rfl) (by kernel_rfl) (by kernel_rfl) (by kernel_rfl) (fun _ _ => rfl) (fun _ _ _ h => h) (by rfl) ?_ hS ?_
      rotate_left
      · (intro X hX; obtain ⟨hx0, hx1⟩ := hX; go_simp; try with_reducible rfl)
      refine RegionI.wpAnyI_take (i := 4) (v := ?_) rfl (by kernel_rfl) (by kernel_rfl) (by kernel_rfl) (by kernel_rfl) (by kernel_rfl) (fun _ _ => rfl) (fun _ _ _ h => h) (by rfl) ?_ hS ?_
      rotate_left
      · (intro X hX; obtain ⟨hx0, hx1⟩ := hX; go_simp; try with_reducible rfl)
      refine RegionI.wpAnyI_take (i := 5) (v := ?_) rfl (by kernel_rfl) (by kernel_rfl) (by kernel_rfl) (by kernel_rfl) (by kernel_rfl) (fun _ _ => rfl) (fun _ _ _ h => h) (by rfl) ?_ hS ?_
      rotate_left
      · (intro X hX; obtain ⟨hx0, hx1⟩ := hX; go_simp; try with_reducible rfl)
      refine RegionI.wpAnyI_take (i := 6) (v := ?_) rfl (by kernel_rfl) (by kernel_rfl) (by kernel_rfl) (by kernel_rfl) (by kernel_rfl) (fun _ _ => rfl) (fun _ _ _ h => h) (by rfl) ?_ hS ?_
      rotate_left
      · (intro X hX; obtain ⟨hx0, hx1⟩ := hX; go_simp; try with_reducible rfl)
      refine RegionI.wpAnyI_take (i := 7) (v := ?_) rfl (by kernel_rfl) (by kernel_rfl) (by kernel_rfl) (by kernel_rfl) (by kernel_rfl) (fun _ _ => rfl) (fun _ _ _ h => h) (by rfl) ?_ hS ?_
      rotate_left
      · (intro X hX; obtain ⟨hx0, hx1⟩ := hX; go_simp; try with_reducible rfl)
      refine RegionI.wpAnyI_take (i := 8) (v := ?_) rfl (by kernel_rfl) (by kernel_rfl) (by kernel_rfl) (by kernel_rfl) (by kernel_rfl) (fun _ _ => rfl) (fun _ _ _ h => h) (by rfl) ?_ hS ?_
      rotate_left
      · (intro X hX; obtain ⟨hx0, hx1⟩ := hX; go_simp; try with_reducible rfl)
      refine RegionI.wpAnyI_take (i := 9) (v := ?_) rfl (by kernel_rfl) (by kernel_rfl) (by kernel_rfl) (by kernel_rfl) (by kernel_rfl) (fun _ _ => rfl) (fun _ _ _ h => h) (by rfl) ?_ hS ?_
      rotate_left
      · (intro X hX; obtain ⟨hx0, hx1⟩ := hX; go_simp; try with_reducible rfl)
      refine RegionI.wpAnyI_take (i := 10) (v := ?_) rfl (by kernel_rfl) (by kernel_rfl) (by kernel_rfl) (by kernel_rfl) (by kernel_rfl) (fun _ _ => rfl) (fun _ _ _ h => h) (by rfl) ?_ hS ?_
      rotate_left
      · (intro X hX; obtain ⟨hx0, hx1⟩ := hX; go_simp; try with_reducible rfl)
      refine RegionI.wpAnyI_take (i := 11) (v := ?_) rfl (by kernel_rfl) (by kernel_rfl) (by kernel_rfl) (by kernel_rfl) (by kernel_rfl) (fun _ _ => rfl) (fun _ _ _ h => h) (by rfl) ?_ hS ?_
      rotate_left
      · (intro X hX; obtain ⟨hx0, hx1⟩ := hX; go_simp; try with_reducible rfl)
      refine RegionI.wpAnyI_take (i := 12) (v := ?_) rfl (by kernel_rfl) (by kernel_rfl) (by kernel_rfl) (by kernel_rfl) (by kernel_rfl) (fun _ _ => rfl) (fun _ _ _ h => h) (by rfl) ?_ hS ?_
      rotate_left
      · (intro X hX; obtain ⟨hx0, hx1⟩ := hX; go_simp; try with_reducible rfl)
      refine RegionI.wpAnyI_take (i := 13) (v := ?_) rfl (by kernel_rfl) (by kernel_rfl) (by kernel_rfl) (by kernel_rfl) (by kernel_rfl) (fun _ _ => rfl) (fun _ _ _ h => h) (by rfl) ?_ hS ?_
      rotate_left
      · (intro X hX; obtain ⟨hx0, hx1⟩ := hX; go_simp; try with_reducible rfl)
      refine RegionI.wpAnyI_take (i := 14) (v := ?_) rfl (by kernel_rfl) (by kernel_rfl) (by kernel_rfl) (by kernel_rfl) (by kernel_rfl) (fun _ _ => rfl) (fun _ _ _ h => h) (by rfl) ?_ hS ?_
      rotate_left
      · (intro X hX; obtain ⟨hx0, hx1⟩ := hX; go_simp; try with_reducible rfl)
      refine RegionI.wpAnyI_take (i := 15) (v := ?_) rfl (by kernel_rfl) (by kernel_rfl) (by kernel_rfl) (by kernel_rfl) (by kernel_rfl) (fun _ _ => rfl) (fun _ _ _ h => h) (by rfl) ?_ hS ?_
      rotate_left
      · (intro X hX; obtain ⟨hx0, hx1⟩ := hX; go_simp; try with_reducible rfl)
      refine RegionI.wpAnyI_take (i := 16) (v := ?_) rfl (by kernel_rfl) (by kernel_rfl) (by kernel_rfl) (by kernel_rfl) (by kernel_rfl) (fun _ _ => rfl) (fun _ _ _ h => h) (by rfl) ?_ hS ?_
      rotate_left
      · (intro X hX; obtain ⟨hx0, hx1⟩ := hX; go_simp; try with_reducible rfl)
      refine RegionI.wpAnyI_take (i := 17) (v := ?_) rfl (by kernel_rfl) (by kernel_rfl) (by kernel_rfl) (by kernel_rfl) (by kernel_rfl) (fun _ _ => rfl) (fun _ _ _ h => h) (by rfl) ?_ hS ?_
      rotate_left
      · (intro X hX; obtain ⟨hx0, hx1⟩ := hX; go_simp; try with_reducible rfl)
      refine RegionI.wpAnyI_take (i := 18) (v := ?_) rfl (by kernel_rfl) (by kernel_rfl) (by kernel_rfl) (by kernel_rfl) (by kernel_rfl) (fun _ _ => rfl) (fun _ _ _ h => h) (by rfl) ?_ hS ?_
      rotate_left
      · (intro X hX; obtain ⟨hx0, hx1⟩ := hX; go_simp; try with_reducible rfl)
      refine RegionI.wpAnyI_take (i := 19) (v := ?_) rfl (by kernel_rfl) (by kernel_rfl) (by kernel_rfl) (by kernel_rfl) (by kernel_rfl) (fun _ _ => rfl) (fun _ _ _ h => h) (by rfl) ?_ hS ?_
      rotate_left
      · (intro X hX; obtain ⟨hx0, hx1⟩ := hX; go_simp; try with_reducible rfl)
      refine RegionI.wpAnyI_take (i := 20) (v := ?_) rfl (by kernel_rfl) (by kernel_rfl) (by kernel_rfl) (by kernel_rfl) (by kernel_rfl) (fun _ _ => rfl) (fun _ _ _ h => h) (by rfl) ?_ hS ?_
      rotate_left
      · (intro X hX; obtain ⟨hx0, hx1⟩ := hX; go_simp; try with_reducible rfl)
      refine RegionI.wpAnyI_take (i := 21) (v := ?_) rfl (by kernel_rfl) (by kernel_rfl) (by kernel_rfl) (by kernel_rfl) (by kernel_rfl) (fun _ _ => rfl) (fun _ _ _ h => h) (by rfl) ?_ hS ?_
      rotate_left
      · (intro X hX; obtain ⟨hx0, hx1⟩ := hX; go_simp; try with_reducible rfl)
      have HQ : Aside0 (∀ X : World, (X.alloc (.cells (valsV w.heap.size (verN t.s.v) t) 61)).heap[X.heap.size]? = some (.cells (valsC w.heap.size t) 61 (0, 0))) := ⟨fun X => blk_new X _⟩
      rw [hv] at HQ
      have HSF : Aside0 (∀ X : World, Mem w [Blk w.heap.size (.cells (flat (tseg t)) 44 (0, 0))] X → X.cell? ⟨w.heap.size, 34, none⟩ = some (.int .i64 t.p) ∧ (X.cell? ⟨w.heap.size, 35, none⟩ = some (.int .i64 t.sp) ∧ X.cell? ⟨w.heap.size, 36, none⟩ = some (.int .i64 t.dp))) :=
        ⟨fun X hX => by
          obtain ⟨-, -, e34, e35, e36⟩ := tcells H.out (hX.get 0 rfl)
          exact ⟨e34, e35, e36⟩⟩
      clear hS
      refine RegionI.wpAnyI_two (i := 22) (k := 23) (by kernel_rfl) rfl rfl (fun K hK => ?_) (fun K hK => ?_)
      · go_simp
        have hq := HQ.out V
        have HMa := Aside0.mk (HM6.out.alloc (.cells (valsV w.heap.size (verN t.s.v) t) 61))
        rw [hv] at HMa
        refine hK _ _ ⟨fun _ => HSF.out _ HMa.out, ?_⟩
        clear hK K
        refine RegionI.wpAnyI_one (i := 23) (by kernel_rfl) rfl (fun K hK => ?_)
        go_simp
        refine (pieces_any _).mono ?_
        rintro e W2 ⟨gp, rfl, hpc, hge, hB⟩
        have hq2 := blk_below hq hB
        have HM2 := Aside0.mk (HMa.out.below hB)
        clear HM6 HMa hq hge
        have HL := Aside0.mk (tup_lay H.out HRT.out (HM2.out.get 0 rfl) hq2 hpc)
        have hSZ := HM2.out.b.size
        clear hq2 hpc hB
        refine hK _ _ ⟨fun _ => HSF.out _ HM2.out, ?_⟩
        clear hK K
        refine RegionI.wpAnyI_one (i := 24) (by kernel_rfl) rfl (fun K hK => ?_)
        go_simp
        refine HL.out.mono ?_
        rintro e W3 ⟨v, rfl, hO, hB3⟩
        have hO2 := hO.lower hSZ
        obtain ⟨oa, oc, rfl, -, -⟩ := hO.reads hO.len63
        have HM3 := Aside0.mk (HM2.out.below hB3)
        have HF : Aside0 (PutR t w (.returned (.tuple #[.slice oa (tupB t).length oc, .int .i64 0])) W3) := ⟨⟨_, by unfold putE; rw [HRT.out]; rfl, by unfold putB; rw [HRT.out]; exact hO2, HM3.out.b⟩⟩
        have hS := HSF.out _ HM3.out
        refine hK _ _ ⟨fun _ => hS, ?_⟩
        clear hK K hO hO2 hB3 hSZ HL HM2
        generalize (tupB t).length = tl at *
        refine RegionI.wpAnyI_take (i := 25) (v := ?_) rfl (by kernel_rfl) (by kernel_rfl) (by kernel_rfl) (by kernel_rfl) (by kernel_rfl) (fun _ _ => rfl) (fun _ _ _ h => h) (by rfl) ?_ hS ?_
        rotate_left
        · (intro X hX; obtain ⟨hx0, hx1⟩ := hX; go_simp; try with_reducible rfl)
        refine RegionI.wpAnyI_take (i := 26) (v := ?_) rfl (by kernel_rfl) (by kernel_rfl) (by kernel_rfl) (by kernel_rfl) (by kernel_rfl) (fun _ _ => rfl) (fun _ _ _ h => h) (by rfl) ?_ hS ?_
        rotate_left
        · (intro X hX; obtain ⟨hx0, hx1⟩ := hX; go_simp; try with_reducible rfl)
        refine RegionI.wpAnyI_take (i := 27) (v := ?_) rfl (by kernel_rfl) (by kernel_rfl) (by kernel_rfl) (by kernel_rfl) (by kernel_rfl) (fun _ _ => rfl) (fun _ _ _ h => h) (by rfl) ?_ hS ?_
        rotate_left
        · (intro X hX; obtain ⟨hx0, hx1⟩ := hX; go_simp; try with_reducible rfl)
        refine RegionI.wpAnyI_take (i := 28) (v := ?_) rfl (by kernel_rfl) (by kernel_rfl) (by kernel_rfl) (by kernel_rfl) (by kernel_rfl) (fun _ _ => rfl) (fun _ _ _ h => h) (by rfl) ?_ hS ?_
        rotate_left
        · (intro X hX; obtain ⟨hx0, hx1⟩ := hX; go_simp; try with_reducible rfl)
        refine RegionI.wpAnyI_done (by kernel_rfl) ?_ _
        go_wp2_with fail
        go_ret2
        exact HF.out
      · go_simp
        refine (pieces_any _).mono ?_
        rintro e W1 ⟨gp, rfl, hpc1, hge, hB1⟩
        have HMa := Aside0.mk (HM6.out.below hB1)
        refine hK _ _ ⟨fun _ => HSF.out _ HMa.out, ?_⟩
        clear hK K
        refine RegionI.wpAnyI_one (i := 22) (by kernel_rfl) rfl (fun K hK => ?_)
        go_simp
        have hq2 := HQ.out W1
        have HM2 := Aside0.mk (HMa.out.alloc (.cells (valsV w.heap.size (verN t.s.v) t) 61))
        have hpc := blk_alloc hpc1 (.cells (valsV w.heap.size (verN t.s.v) t) 61)
        rw [hv] at HM2 hpc
        have hB : True := trivial
        clear HM6 HMa hpc1 hge hB1
        have HL := Aside0.mk (tup_lay H.out HRT.out (HM2.out.get 0 rfl) hq2 hpc)
        have hSZ := HM2.out.b.size
        clear hq2 hpc hB
        refine hK _ _ ⟨fun _ => HSF.out _ HM2.out, ?_⟩
        clear hK K
        refine RegionI.wpAnyI_one (i := 24) (by kernel_rfl) rfl (fun K hK => ?_)
        go_simp
        refine HL.out.mono ?_
        rintro e W3 ⟨v, rfl, hO, hB3⟩
        have hO2 := hO.lower hSZ
        obtain ⟨oa, oc, rfl, -, -⟩ := hO.reads hO.len63
        have HM3 := Aside0.mk (HM2.out.below hB3)
        have HF : Aside0 (PutR t w (.returned (.tuple #[.slice oa (tupB t).length oc, .int .i64 0])) W3) := ⟨⟨_, by unfold putE; rw [HRT.out]; rfl, by unfold putB; rw [HRT.out]; exact hO2, HM3.out.b⟩⟩
        have hS := HSF.out _ HM3.out
        refine hK _ _ ⟨fun _ => hS, ?_⟩
        clear hK K hO hO2 hB3 hSZ HL HM2
        generalize (tupB t).length = tl at *
        refine RegionI.wpAnyI_take (i := 25) (v := ?_) rfl (by kernel_rfl) (by kernel_rfl) (by kernel_rfl) (by kernel_rfl) (by kernel_rfl) (fun _ _ => rfl) (fun _ _ _ h => h) (by rfl) ?_ hS ?_
        rotate_left
        · (intro X hX; obtain ⟨hx0, hx1⟩ := hX; go_simp; try with_reducible rfl)
        refine RegionI.wpAnyI_take (i := 26) (v := ?_) rfl (by kernel_rfl) (by kernel_rfl) (by kernel_rfl) (by kernel_rfl) (by kernel_rfl) (fun _ _ => rfl) (fun _ _ _ h => h) (by rfl) ?_ hS ?_
        rotate_left
        · (intro X hX; obtain ⟨hx0, hx1⟩ := hX; go_simp; try with_reducible rfl)
        refine RegionI.wpAnyI_take (i := 27) (v := ?_) rfl (by kernel_rfl) (by kernel_rfl) (by kernel_rfl) (by kernel_rfl) (by kernel_rfl) (fun _ _ => rfl) (fun _ _ _ h => h) (by rfl) ?_ hS ?_
        rotate_left
        · (intro X hX; obtain ⟨hx0, hx1⟩ := hX; go_simp; try with_reducible rfl)
        refine RegionI.wpAnyI_take (i := 28) (v := ?_) rfl (by kernel_rfl) (by kernel_rfl) (by kernel_rfl) (by kernel_rfl) (by kernel_rfl) (fun _ _ => rfl) (fun _ _ _ h => h) (by rfl) ?_ hS ?_
        rotate_left
        · (intro X hX; obtain ⟨hx0, hx1⟩ := hX; go_simp; try with_reducible rfl)
        refine RegionI.wpAnyI_done (by kernel_rfl) ?_ _
        go_wp2_with fail
        go_ret2
        exact HF.out
end Go.Proofs.Ytfnpjfcfgilchaa.AddrW
namespace Go.Proofs.Ytfnpjfcfgilchaa.AddrW
open Go.RowKit Go.Proofs.Ytfnpjfcfgilchaa.Cur Go.Proofs.Ytfnpjfcfgilchaa.Own Go.Proofs.Ytfnpjfcfgilchaa.Segs Go.Proofs.Ytfnpjfcfgilchaa.Mem Go.Proofs.Ytfnpjfcfgilchaa.AddrEq Go.Proofs.Ytfnpjfcfgilchaa.AddrM Go.Proofs.Ytfnpjfcfgilchaa.Bits Go.Proofs.Ytfnpjfcfgilchaa.Help Go.Proofs.YtfnpjfcfgilchaaW.PrintWords Go.Proofs.YtfnpjfcfgilchaaW.PrintLast Go.Proofs.YtfnpjfcfgilchaaW.PrintMore
set_option linter.unusedVariables false
set_option linter.unusedSimpArgs false
theorem own_block {W : World} {g base : Nat} {xs : List Int} (hb : W.heap[g]? = some (.cells (nums .u8 xs).toArray 5 (0, 0))) (hg : base ≤ g) (hl : xs.length ≤ 9223372036854775807) : Owns W base (.slice (some ⟨g, 0, none⟩) xs.length xs.length) xs :=
  ⟨by simp [nums], .inr ⟨g, xs.length, _, rfl, hg, hb, Nat.le_refl _, by simpa [maxLen] using hl, by simp [nums], by rw [Nat.mul_one]; exact List.take_of_length_le (by simp [nums])⟩⟩
/-- A literal of bytes appended. -/
theorem app_lit {W : World} {base : Nat} {v : Value} {xs : List Int} (ys : List Int) (HO : Owns W base v xs) (hl : xs.length + ys.length ≤ 140737488355328) (hb : base ≤ W.heap.size) :
    ∃ v1 w1, (Builtin.append_ #[22, 22] 22 #[v, .slice (some ⟨W.heap.size, 0, none⟩) ys.length ys.length]).run Try.prog (W.alloc (.cells (nums .u8 ys).toArray 5)) = .ok v1 w1 ∧ Owns w1 base v1 (xs ++ ys) ∧ W.grownBy w1 v.ownBlock := by
  obtain ⟨v1, w1, h1, h2, h3, -⟩ := append_bytes (ty := 22) (c := ys.length) (HO.below (below_alloc (Below.refl _ _) (.cells (nums .u8 ys).toArray 5))) (C_new (blk_new W _) (by omega)) hl (by rw [alloc_size]; omega)
  exact ⟨v1, w1, h1, h2, (World.grownBy_alloc W _ _).trans h3⟩
structure RP (w : World) (t : Tu) (W : World) (v : Value) (xs : List Int) : Prop where
  b : BT w.heap.size t W
  o : Owns W w.heap.size v xs
  l : Below w.heap.size w W
theorem RP.step {w W W1 : World} {t : Tu} {v v1 : Value} {xs ys : List Int} (h : RP w t W v xs) (hO : Owns W1 w.heap.size v1 ys) (hg : W.grownBy W1 v.ownBlock) : RP w t W1 v1 ys :=
  ⟨blk_grown h.b hg (h.o.ne h.b (by decide)), hO, h.o.keeps h.l hg⟩
theorem src_cell {W : World} {g i : Nat} {t : Tu} (h : OkT t) (hb : BT g t W) (hi : i < 16) : W.cell? ⟨g, 1 + i, none⟩ = some (.int .u8 (t.s.b.getD i 0)) := by
  have := seg_cellj hb (i := 0) rfl (toff h).1 (1 + i) (x := .int .u8 (t.s.b.getD i 0)) (by rw [Nat.add_comm]; simp [tseg, avl, nums, List.getElem?_eq_getElem (show i < t.s.b.length by rw [h.s.l]; exact hi), List.getD_eq_getElem?_getD])
  rwa [Nat.zero_add] at this
theorem dst_cell {W : World} {g i : Nat} {t : Tu} (h : OkT t) (hb : BT g t W) (hi : i < 16) : W.cell? ⟨g, 18 + i, none⟩ = some (.int .u8 (t.d.b.getD i 0)) := by
  have := seg_cellj hb (i := 1) rfl (toff h).2.1 (1 + i) (x := .int .u8 (t.d.b.getD i 0)) (by rw [Nat.add_comm]; simp [tseg, avl, nums, List.getElem?_eq_getElem (show i < t.d.b.length by rw [h.d.l]; exact hi), List.getD_eq_getElem?_getD])
  rwa [show 17 + (1 + i) = 18 + i by omega] at this
set_option maxHeartbeats 8000000 in
theorem refPutTuple_any (t : Tu) (w : World) (h : OkT t) : Calls Try.prog 32 #[.agg (flat (tseg t))] w (PutR t w) := by
  have HM := Aside0.mk ((Mem.nil w).new (.cells (flat (tseg t)) 44))
  simp only [List.nil_append] at HM
  have H := Aside0.mk h
  have HR := Aside0.mk (fun W => RefRightTuple_any t W h)
  clear h
  go_enter Try.func32, Try.ntmps32
  go_wp2_with ((with_reducible refine gate_dst (N := 7) rfl ?_); refine Kd.event_run rfl (exec_load rfl rfl (load_tup H.out (HM.out.get 0 rfl))) ?_)
  refine (HR.out _).mono ?_
  rintro e w1 ⟨rfl, hB⟩
  replace HM := Aside0.mk (HM.out.below hB)
  clear hB
  cases hr : rtB t with
  | false =>
    have HF : Aside0 (PutR t w (.returned (.tuple #[.slice none 0 0, .int .i64 1])) w1) := ⟨⟨_, by unfold putE; rw [hr]; rfl, by unfold putB; rw [hr]; exact Owns.nil _ _, HM.out.b⟩⟩
    clear hr
    go_wp2_with fail
    go_ret2
    exact HF.out
  | true =>
    have HRT := Aside0.mk hr
    obtain ⟨-, hsp, hdp, hpp⟩ := rtB_facts hr
    have hp0 : 0 ≤ t.p := by omega
    have hp1 : t.p ≤ 17 := by omega
    obtain ⟨d0, -, d34, d35, d36⟩ := tcells H.out (HM.out.get 0 rfl)
    have hz : w.heap.size < w1.heap.size := blk_lt (HM.out.get 0 rfl)
    clear hr hpp HR
    go_upto_if 16 with fail
    go_cut [4] from 16 to 18 (fun s4 wx => Aside0 (RP w t wx s4 [verN t.s.v, t.p]))
    case first =>
      have hRP : ∀ ver, verN t.s.v = ver → RP w t (w1.alloc (.cells (nums .u8 [ver, t.p]).toArray 5)) (.slice (some ⟨w1.heap.size, 0, none⟩) 2 2) [verN t.s.v, t.p] := fun ver hver =>
        ⟨(HM.out.alloc _).get 0 rfl, by rw [hver]; exact own_block (xs := [ver, t.p]) (blk_new w1 _) HM.out.b.size (by simp), below_alloc HM.out.b _⟩
      have HRP := Aside0.mk hRP
      clear hRP
      cases hv : t.s.v
      · have hR := HRP.out 4 (by rw [hv]; rfl)
        have HR := Aside0.mk hR
        clear hR HRP
        go_wp2_with fail
        go_meet
        exact HR
      · have hR := HRP.out 6 (by rw [hv]; rfl)
        have HR := Aside0.mk hR
        clear hR HRP
        go_wp2_with fail
        go_meet
        exact HR
    have HRP := hcut
    clear hcut d0 d34 d35 d36 hz HM
    have HTB : Aside0 (tupB t = (([verN t.s.v, t.p] ++ t.s.b) ++ t.d.b) ++ [t.sp / 256, t.sp % 256, t.dp / 256, t.dp % 256]) := ⟨by simp [tupB]⟩
    go_wp2_with fail
    go_loopg [4, 5] 16 (fun kq v4 v5 w' => ∃ i : Nat, Aside0 (kq + i = 16) ∧ v5 = .int .i64 (i : Int) ∧ Aside0 (RP w t w' v4 ([verN t.s.v, t.p] ++ t.s.b.take i)))
    case atStart => exact ⟨0, ⟨rfl⟩, rfl, ⟨by rw [List.take_zero, List.append_nil]; exact HRP.out⟩⟩
    case round =>
      clear HRP
      obtain ⟨i, HK, rfl, HI⟩ := hrel
      cases gk with
      | succ kq =>
        have hi : i < 16 := by have := HK.out; omega
        have hi2 : ((i : Nat) : Int) < 16 := by omega
        have hc := src_cell H.out HI.out.b hi
        have hzz : w.heap.size < wr.heap.size := blk_lt HI.out.b
        obtain ⟨v1, w2, hrun, hO, hg⟩ := app_lit [t.s.b.getD i 0] HI.out.o (by have := H.out.s.l; have := H.out.d.l; simp; omega) HI.out.l.size
        have HN := HI.out.step hO hg
        rw [show ([verN t.s.v, t.p] ++ t.s.b.take i) ++ [t.s.b.getD i 0] = [verN t.s.v, t.p] ++ t.s.b.take (i + 1) by rw [List.append_assoc, ← take_snoc (by have := H.out.s.l; have := H.out.d.l; omega)]] at HN
        have HRUN : Aside0 ((Builtin.append_ #[22, 22] 22 #[u4, .slice (some ⟨wr.heap.size, 0, none⟩) 1 1]).run Try.prog (wr.alloc (.cells #[.int .u8 (t.s.b.getD i 0)] 5)) = .ok v1 w2) := ⟨hrun⟩
        have HN := Aside0.mk HN
        clear hO hg hrun
        generalize t.s.b.getD i 0 = x at *
        go_wp2_with ((with_reducible refine gate_dst (N := 30) rfl ?_); refine Kd.event_run rfl (exec_append rfl rfl rfl HRUN.out) ?_)
        go_roundg kq
        case measure => omega
        case rel => exact ⟨i + 1, ⟨by have := HK.out; omega⟩, by first | rfl | go_num, HN⟩
      | zero =>
        obtain rfl : i = 16 := by have := HK.out; omega
        have hI := HI.out
        rw [List.take_of_length_le (by have := H.out.s.l; have := H.out.d.l; omega)] at hI
        have HRP := Aside0.mk hI
        clear hI HI
        go_wp2_with fail
        go_loopg [4, 6] 16 (fun kq v4 v6 w' => ∃ i : Nat, Aside0 (kq + i = 16) ∧ v6 = .int .i64 (i : Int) ∧ Aside0 (RP w t w' v4 (([verN t.s.v, t.p] ++ t.s.b) ++ t.d.b.take i)))
        case atStart => exact ⟨0, ⟨rfl⟩, rfl, ⟨by rw [List.take_zero, List.append_nil]; exact HRP.out⟩⟩
        case round =>
          clear HRP
          obtain ⟨i, HK, rfl, HI⟩ := hrel
          cases gk with
          | succ kq =>
            have hi : i < 16 := by have := HK.out; omega
            have hi2 : ((i : Nat) : Int) < 16 := by omega
            have hc := dst_cell H.out HI.out.b hi
            have hzz : w.heap.size < wr.heap.size := blk_lt HI.out.b
            obtain ⟨v1, w2, hrun, hO, hg⟩ := app_lit [t.d.b.getD i 0] HI.out.o (by have := H.out.s.l; have := H.out.d.l; simp; omega) HI.out.l.size
            have HN := HI.out.step hO hg
            rw [show (([verN t.s.v, t.p] ++ t.s.b) ++ t.d.b.take i) ++ [t.d.b.getD i 0] = ([verN t.s.v, t.p] ++ t.s.b) ++ t.d.b.take (i + 1) by rw [List.append_assoc, ← take_snoc (by have := H.out.s.l; have := H.out.d.l; omega)]] at HN
            have HRUN : Aside0 ((Builtin.append_ #[22, 22] 22 #[u4, .slice (some ⟨wr.heap.size, 0, none⟩) 1 1]).run Try.prog (wr.alloc (.cells #[.int .u8 (t.d.b.getD i 0)] 5)) = .ok v1 w2) := ⟨hrun⟩
            have HN := Aside0.mk HN
            clear hO hg hrun
            generalize t.d.b.getD i 0 = x at *
            go_wp2_with ((with_reducible refine gate_dst (N := 42) rfl ?_); refine Kd.event_run rfl (exec_append rfl rfl rfl HRUN.out) ?_)
            go_roundg kq
            case measure => omega
            case rel => exact ⟨i + 1, ⟨by have := HK.out; omega⟩, by first | rfl | go_num, HN⟩
          | zero =>
            obtain rfl : i = 16 := by have := HK.out; omega
            have hI := HI.out
            rw [List.take_of_length_le (by have := H.out.s.l; have := H.out.d.l; omega)] at hI
            have HRP := Aside0.mk hI
            clear hI HI
            obtain ⟨-, -, d34, d35, d36⟩ := tcells H.out HRP.out.b
            obtain ⟨v1, w2, hrun, hO, hg⟩ := app_lit [t.sp / 256, t.sp % 256, t.dp / 256, t.dp % 256] HRP.out.o (by have := H.out.s.l; have := H.out.d.l; simp; omega) HRP.out.l.size
            have hN := HRP.out.step hO hg
            rw [← HTB.out] at hN
            obtain ⟨va, vc, rfl, -, -⟩ := hN.o.reads hN.o.len63
            have HF : Aside0 (PutR t w (.returned (.tuple #[.slice va (tupB t).length vc, .int .i64 0])) w2) := ⟨⟨_, by unfold putE; rw [HRT.out]; rfl, by unfold putB; rw [HRT.out]; exact hN.o, hN.l⟩⟩
            have e1 : IntKind.u8.wrap (t.sp / 256) = t.sp / 256 := wrap_u8_id (by omega) (by omega)
            have e2 : IntKind.u8.wrap (t.dp / 256) = t.dp / 256 := wrap_u8_id (by omega) (by omega)
            have HRUN : Aside0 ((Builtin.append_ #[22, 22] 22 #[u4, .slice (some ⟨wr.heap.size, 0, none⟩) 4 4]).run Try.prog (wr.alloc (.cells #[.int .u8 (t.sp / 256), .int .u8 (t.sp % 256), .int .u8 (t.dp / 256), .int .u8 (t.dp % 256)] 5)) = .ok (.slice va (tupB t).length vc) w2) := ⟨hrun⟩
            clear hO hg hrun hN HTB
            go_wp2_with ((with_reducible refine gate_dst (N := 59) rfl ?_); refine Kd.event_run rfl (exec_append rfl rfl rfl HRUN.out) ?_)
            go_ret2
            exact HF.out
end Go.Proofs.Ytfnpjfcfgilchaa.AddrW
