/- The law's own lists: ops. -/
import Derived.Test.YtcmibbhfocfccaaCurW8
namespace Go.Proofs.Ytcmibbhfocfccaa.Cur
open Go.RowKit Go.Proofs.Ytcmibbhfocfccaa.Segs Go.Proofs.Ytcmibbhfocfccaa.Own Go.Proofs.Ytcmibbhfocfccaa.CurP Go.Proofs.Ytcmibbhfocfccaa.Mem Go.Proofs.Ytcmibbhfocfccaa.Bits Go.Proofs.Ytcmibbhfocfccaa.Help Go.Proofs.YtcmibbhfocfccaaW.PrintWords Go.Proofs.YtcmibbhfocfccaaW.PrintLast Go.Proofs.YtcmibbhfocfccaaW.PrintMore
set_option linter.unusedVariables false
set_option linter.unusedSimpArgs false
theorem op_cells {w : World} {A : Option Addr} {l : List (Int × Int)} (h : dO.C w A l.length l) (i : Nat) (hi : i < l.length) :
    ∃ ad, A = some ad ∧ w.cell? (ad.add (i * 2)) = some (.int .i64 l[i].1) ∧ w.cell? ⟨(ad.add (i * 2)).block, (ad.add (i * 2)).off + 1, none⟩ = some (.int .i64 l[i].2) := by
  obtain ⟨ad, c, h1, h2, h3, h4⟩ := Kd.C_get h (0, 0) (i : Int) (by omega) (by omega)
  obtain ⟨c0, c1, rfl, h5, h6⟩ := h3
  rw [Int.toNat_natCast] at *
  have hg : l.getD i (0, 0) = l[i] := by rw [List.getD_eq_getElem?_getD, List.getElem?_eq_getElem hi]; rfl
  rw [hg] at h5 h6
  have h5' : c0 = [.int .i64 l[i].1] := h5
  have h6' : c1 = [.int .i64 l[i].2] := h6
  subst h5' h6'
  exact ⟨ad, h1, h4 0 _ rfl, by have := h4 1 _ rfl; rw [← Deep.add_add] at this; exact this⟩
theorem dPast15 (j : Nat) (hj : 15 ≤ j) : (j == 13 || j == 14) = false := by simp; omega
theorem op_M (W : World) (base : Nat) (ok : Nat → Prop) (k s : Int) : dO.M W base ok (k, s) [.int .i64 k, .int .i64 s] := ⟨[_], [_], rfl, rfl, rfl⟩
theorem info_op : (Try.prog.info? 53).map (fun i => (i.zero, i.size, i.bytes)) = some (some (.agg #[.int .i64 0, .int .i64 0]), dO.sz, 16) := by kernel_rfl
set_option maxHeartbeats 8000000 in
theorem ops_any (w : World) (A : Option Addr) (c : Nat) (l : List (Int × Int)) (hr : dO.C w A l.length l) (hc : l.length ≤ c) (hsz : l.length * 16 ≤ 140737488355328) :
    Calls Try.prog 10 #[.slice A l.length c] w fun e w' => ∃ v, e = .returned v ∧ Kd.S dO 53 w' w.heap.size (fun _ => True) v l ∧ Below w.heap.size w w' := by
  have HR := Aside0.mk hr
  clear hr
  go_enter Try.func10, Try.ntmps10
  go_wp2_with fail
  go_loopg [3, 4] l.length (fun kq v3 v4 w' => ∃ i : Nat, Aside0 (kq + i = l.length) ∧ v4 = .int .i64 (i : Int) ∧ Aside0 (Kd.S dO 53 w' w.heap.size (fun _ => True) v3 (l.take i)) ∧ Aside0 (Below w.heap.size w w'))
  case atStart => exact ⟨0, ⟨by simp⟩, rfl, ⟨Kd.S_nil _ _ _ _ _⟩, ⟨Below.refl _ _⟩⟩
  case round =>
    obtain ⟨i, HK, rfl, HS, HW⟩ := hrel
    cases gk with
    | zero =>
      have hi : i = l.length := by have := HK.out; omega
      subst hi
      have HS' := HS.out
      rw [List.take_length] at HS'
      have HS2 := Aside0.mk HS'
      clear HS HS'
      go_wp2_with fail
      go_ret
      exact ⟨_, rfl, HS2.out, HW.out⟩
    | succ kq =>
      have hi : i < l.length := by have := HK.out; omega
      have hi2 : ((i : Nat) : Int) < ((l.length : Nat) : Int) := by omega
      obtain ⟨ad, rfl, hc0, hc1⟩ := op_cells (Kd.C_below HR.out HW.out) i hi
      have HTS : Aside0 (l.take i ++ [(l[i].1, l[i].2)] = l.take (i + 1)) := ⟨by rw [List.take_succ_eq_append_getElem hi]⟩
      generalize l[i].1 = k at *
      generalize l[i].2 = s at *
      obtain ⟨va, vc, hv⟩ := Kd.S_slice HS.out
      subst hv
      have hl1 : ((l.take i).length + 1) * 16 ≤ 140737488355328 := by rw [List.length_take]; omega
      have HL1 := Aside0.mk hl1
      clear hl1
      generalize (Value.slice va (l.take i).length vc) = u3 at *
      go_wp2_with fail
      have hd0 : wr.drew.cell? (ad.add (i * 2)) = some (.int .i64 k) := hc0
      have hd1 : wr.drew.cell? ⟨(ad.add (i * 2)).block, (ad.add (i * 2)).off + 1, none⟩ = some (.int .i64 s) := hc1
      have HS5 := Aside0.mk (Kd.S_drew HS.out)
      have HW5 := Aside0.mk (below_drew HW.out)
      clear hc0 hc1 HS HW
      refine RegionI.region_I (S := fun X => X.cell? (ad.add (i * 2)) = some (.int .i64 k) ∧ X.cell? ⟨(ad.add (i * 2)).block, (ad.add (i * 2)).off + 1, none⟩ = some (.int .i64 s)) (D := fun j => j == 13 || j == 14) (by kernel_rfl) ⟨hd0, hd1⟩ ?_
      intro hS
      clear hd0 hd1
      generalize wr.drew = V at *
      refine RegionI.wpAnyI_take (i := 0) (v := ?_) rfl (by kernel_rfl) (by kernel_rfl) (by kernel_rfl) (by kernel_rfl) (by kernel_rfl) dPast15 (fun _ _ _ h => h) (by rfl) ?_ hS ?_
      rotate_left
      · (intro X hX; obtain ⟨hx0, hx1⟩ := hX; go_simp; try with_reducible rfl)
      refine RegionI.wpAnyI_take (i := 1) (v := ?_) rfl (by kernel_rfl) (by kernel_rfl) (by kernel_rfl) (by kernel_rfl) (by kernel_rfl) dPast15 (fun _ _ _ h => h) (by rfl) ?_ hS ?_
      rotate_left
      · (intro X hX; obtain ⟨hx0, hx1⟩ := hX; go_simp; try with_reducible rfl)
      refine RegionI.wpAnyI_take (i := 2) (v := ?_) rfl (by kernel_rfl) (by kernel_rfl) (by kernel_rfl) (by kernel_rfl) (by kernel_rfl) dPast15 (fun _ _ _ h => h) (by rfl) ?_ hS ?_
      rotate_left
      · (intro X hX; obtain ⟨hx0, hx1⟩ := hX; go_simp; try with_reducible rfl)
      refine RegionI.wpAnyI_take (i := 3) (v := ?_) rfl (by kernel_rfl) (by kernel_rfl) (by kernel_rfl) (by kernel_rfl) (by kernel_rfl) dPast15 (fun _ _ _ h => h) (by rfl) ?_ hS ?_
      rotate_left
      · (intro X hX; obtain ⟨hx0, hx1⟩ := hX; go_simp; try with_reducible rfl)
      refine RegionI.wpAnyI_take (i := 4) (v := ?_) rfl (by kernel_rfl) (by kernel_rfl) (by kernel_rfl) (by kernel_rfl) (by kernel_rfl) dPast15 (fun _ _ _ h => h) (by rfl) ?_ hS ?_
      rotate_left
      · (intro X hX; obtain ⟨hx0, hx1⟩ := hX; go_simp; try with_reducible rfl)
      refine RegionI.wpAnyI_take (i := 5) (v := ?_) rfl (by kernel_rfl) (by kernel_rfl) (by kernel_rfl) (by kernel_rfl) (by kernel_rfl) dPast15 (fun _ _ _ h => h) (by rfl) ?_ hS ?_
      rotate_left
      · (intro X hX; obtain ⟨hx0, hx1⟩ := hX; go_simp; try with_reducible rfl)
      refine RegionI.wpAnyI_take (i := 6) (v := ?_) rfl (by kernel_rfl) (by kernel_rfl) (by kernel_rfl) (by kernel_rfl) (by kernel_rfl) dPast15 (fun _ _ _ h => h) (by rfl) ?_ hS ?_
      rotate_left
      · (intro X hX; obtain ⟨hx0, hx1⟩ := hX; go_simp; try with_reducible rfl)
      refine RegionI.wpAnyI_take (i := 7) (v := ?_) rfl (by kernel_rfl) (by kernel_rfl) (by kernel_rfl) (by kernel_rfl) (by kernel_rfl) dPast15 (fun _ _ _ h => h) (by rfl) ?_ hS ?_
      rotate_left
      · (intro X hX; obtain ⟨hx0, hx1⟩ := hX; go_simp; try with_reducible rfl)
      refine RegionI.wpAnyI_take (i := 8) (v := ?_) rfl (by kernel_rfl) (by kernel_rfl) (by kernel_rfl) (by kernel_rfl) (by kernel_rfl) dPast15 (fun _ _ _ h => h) (by rfl) ?_ hS ?_
      rotate_left
      · (intro X hX; obtain ⟨hx0, hx1⟩ := hX; go_simp; try with_reducible rfl)
      refine RegionI.wpAnyI_take (i := 9) (v := ?_) rfl (by kernel_rfl) (by kernel_rfl) (by kernel_rfl) (by kernel_rfl) (by kernel_rfl) dPast15 (fun _ _ _ h => h) (by rfl) ?_ hS ?_
      rotate_left
      · (intro X hX; obtain ⟨hx0, hx1⟩ := hX; go_simp; try with_reducible rfl)
      refine RegionI.wpAnyI_take (i := 10) (v := ?_) rfl (by kernel_rfl) (by kernel_rfl) (by kernel_rfl) (by kernel_rfl) (by kernel_rfl) dPast15 (fun _ _ _ h => h) (by rfl) ?_ hS ?_
      rotate_left
      · (intro X hX; obtain ⟨hx0, hx1⟩ := hX; go_simp; try with_reducible rfl)
      refine RegionI.wpAnyI_take (i := 11) (v := ?_) rfl (by kernel_rfl) (by kernel_rfl) (by kernel_rfl) (by kernel_rfl) (by kernel_rfl) dPast15 (fun _ _ _ h => h) (by rfl) ?_ hS ?_
      rotate_left
      · (intro X hX; obtain ⟨hx0, hx1⟩ := hX; go_simp; try with_reducible rfl)
      have hS6 := And.intro (pw_cell_below (below_alloc (Below.refl V.heap.size V) (.cells #[.int .i64 k, .int .i64 s] 53)) hS.1) (pw_cell_below (below_alloc (Below.refl V.heap.size V) (.cells #[.int .i64 k, .int .i64 s] 53)) hS.2)
      clear hS
      refine RegionI.wpAnyI_one (i := 12) (by kernel_rfl) rfl (fun K hK => ?_)
      go_simp
      refine hK _ _ ⟨fun _ => hS6, ?_⟩
      clear hK K hS6
      refine RegionI.wpAnyI_one (i := 13) (by kernel_rfl) rfl (fun K hK => ?_)
      refine Kd.S_append_step dO (w0 := w) w.heap.size (by rfl) (.tmp 11) (.tmp 23) 29 53 (.agg #[.int .i64 0, .int .i64 0]) 16 rfl Try.underlying29 info_op rfl (by decide) (by decide) u3 (l.take i) (k, s) _ (fun _ => True) (fun _ => False) rfl rfl (op_M _ _ _ _ _)
          (fun q hq => hq.elim) (fun _ _ => trivial) (Kd.S_mono HS5.out (fun q hq => ⟨trivial, fun h => h⟩)) HW5.out HW5.out.size HL1.out ?_
      intro v1 w2 hS1 hB1 hg1 hat
      refine hK _ _ ⟨fun h => absurd h (by decide), ?_⟩
      clear hK K hg1 hat
      rw [HTS.out] at hS1
      have HS7 := Aside0.mk hS1
      have HW7 := Aside0.mk hB1
      clear hS1 hB1
      refine RegionI.wpAnyI_one (i := 14) (by kernel_rfl) rfl (fun K hK => ?_)
      go_simp
      refine hK _ _ ⟨fun h => absurd h (by decide), ?_⟩
      clear hK K
      refine RegionI.wpAnyI_done (by kernel_rfl) ?_ _
      go_wp2_with fail
      go_roundg kq
      case measure => omega
      case rel => exact ⟨i + 1, ⟨by have := HK.out; omega⟩, rfl, HS7, HW7⟩
end Go.Proofs.Ytcmibbhfocfccaa.Cur
