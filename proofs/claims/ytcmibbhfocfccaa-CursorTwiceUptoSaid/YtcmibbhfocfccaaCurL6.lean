/- The law's own lists: vals. -/
import Derived.Test.YtcmibbhfocfccaaCurB
import Derived.Test.YtcmibbhfocfccaaCurW9
import Derived.Test.YtcmibbhfocfccaaCurW10
import Derived.Test.YtcmibbhfocfccaaLent
namespace Go.Proofs.Ytcmibbhfocfccaa.Cur
open Go.RowKit Go.Proofs.Ytcmibbhfocfccaa.A Go.Proofs.Ytcmibbhfocfccaa.Segs Go.Proofs.Ytcmibbhfocfccaa.Own Go.Proofs.Ytcmibbhfocfccaa.CurP Go.Proofs.Ytcmibbhfocfccaa.Mem Go.Proofs.Ytcmibbhfocfccaa.Bits Go.Proofs.Ytcmibbhfocfccaa.Help Go.Proofs.YtcmibbhfocfccaaW.PrintWords Go.Proofs.YtcmibbhfocfccaaW.PrintLast Go.Proofs.YtcmibbhfocfccaaW.PrintMore
set_option linter.unusedVariables false
set_option linter.unusedSimpArgs false
theorem dPast16 (j : Nat) (hj : 16 ≤ j) : (j == 14 || j == 15) = false := by simp; omega
set_option maxHeartbeats 8000000 in
theorem vals_any (w : World) (A : Option Addr) (c : Nat) (l : List (Int × List Int)) (hr : dV.C w A l.length l) (hc : l.length ≤ c) (hsz : l.length * 32 ≤ 140737488355328) (hbs : ∀ v ∈ l, v.2.length ≤ 140737488351232) :
    Calls Try.prog 18 #[.slice A l.length c] w fun e w' => ∃ v, e = .returned v ∧ Kd.S dV 40 w' w.heap.size (fun _ => True) v l ∧ Below w.heap.size w w' := by
  have HR := Aside0.mk hr
  have HBS := Aside0.mk hbs
  clear hr hbs
  go_enter Try.func18, Try.ntmps18
  go_wp2_with fail
  go_loopg [3, 4] l.length (fun kq v3 v4 w' => ∃ i : Nat, Aside0 (kq + i = l.length) ∧ v4 = .int .i64 (i : Int) ∧ Aside0 (Kd.S dV 40 w' w.heap.size (fun _ => True) v3 (l.take i)) ∧ Aside0 (Below w.heap.size w w'))
  case atStart => exact ⟨0, ⟨by simp⟩, rfl, ⟨Kd.S_nil _ _ _ _ _⟩, ⟨Below.refl _ _⟩⟩
  case round =>
    obtain ⟨i, HK, rfl, HS, HW⟩ := hrel
    cases gk with
    | zero =>
      have hi : i = l.length := by have := HK.out; omega
      subst hi
      have HS' := HS.out
      rw [List.take_length] at HS'
      have HS2 := Aside0.mk HS'
      clear HS HS'
      go_wp2_with fail
      go_ret
      exact ⟨_, rfl, HS2.out, HW.out⟩
    | succ kq =>
      have hi : i < l.length := by have := HK.out; omega
      have hi2 : ((i : Nat) : Int) < ((l.length : Nat) : Int) := by omega
      obtain ⟨ad, B, bc, rfl, hc0, hc1, hbc, hbr⟩ := val_cells HR.out i hi
      replace hc0 := pw_cell_below HW.out hc0
      replace hc1 := pw_cell_below HW.out hc1
      have HBR := Aside0.mk (And.intro (Kd.C_below hbr HW.out) (HBS.out l[i] (List.getElem_mem hi)))
      clear hbc hbr
      have HTS : Aside0 (l.take i ++ [(l[i].1, l[i].2)] = l.take (i + 1)) := ⟨by rw [List.take_succ_eq_append_getElem hi]⟩
      generalize l[i].1 = k at *
      generalize l[i].2 = s at *
      generalize hsl : s.length = sl at *
      have HSL := Aside0.mk hsl
      clear hsl
      obtain ⟨va, vc, hv⟩ := Kd.S_slice HS.out
      subst hv
      have hl1 : ((l.take i).length + 1) * 32 ≤ 140737488355328 := by rw [List.length_take]; omega
      have HL1 := Aside0.mk hl1
      clear hl1
      generalize (Value.slice va (l.take i).length vc) = u3 at *
      go_wp2_with fail
      have hd0 : wr.drew.cell? (ad.add (i * 2)) = some (.int .u64 k) := hc0
      have hd1 : wr.drew.cell? ⟨(ad.add (i * 2)).block, (ad.add (i * 2)).off + 1, none⟩ = some (.slice B sl bc) := hc1
      have HS5 := Aside0.mk (Kd.S_drew HS.out)
      have HW5 := Aside0.mk (below_drew HW.out)
      have HBR5 : Aside0 (Kd.C (Kd.int .u8) wr.drew B s.length s ∧ s.length ≤ 140737488351232) := ⟨by have := Kd.C_drew HBR.out.1; rw [HSL.out]; exact this, by have := HBR.out.2; rw [HSL.out]; exact this⟩
      clear hc0 hc1 HS HW HBR
      refine RegionI.region_I (S := fun X => X.cell? (ad.add (i * 2)) = some (.int .u64 k) ∧ X.cell? ⟨(ad.add (i * 2)).block, (ad.add (i * 2)).off + 1, none⟩ = some (.slice B sl bc)) (D := fun j => j == 14 || j == 15) (by kernel_rfl) ⟨hd0, hd1⟩ ?_
      intro hS
      clear hd0 hd1
      generalize wr.drew = V at *
      refine RegionI.wpAnyI_take (i := 0) (v := ?_) rfl (by kernel_rfl) (by kernel_rfl) (by kernel_rfl) (by kernel_rfl) (by kernel_rfl) dPast16 (fun _ _ _ h => h) (by rfl) ?_ hS ?_
      rotate_left
      · (intro X hX; obtain ⟨hx0, hx1⟩ := hX; go_simp; try with_reducible rfl)
      refine RegionI.wpAnyI_take (i := 1) (v := ?_) rfl (by kernel_rfl) (by kernel_rfl) (by kernel_rfl) (by kernel_rfl) (by kernel_rfl) dPast16 (fun _ _ _ h => h) (by rfl) ?_ hS ?_
      rotate_left
      · (intro X hX; obtain ⟨hx0, hx1⟩ := hX; go_simp; try with_reducible rfl)
      refine RegionI.wpAnyI_take (i := 2) (v := ?_) rfl (by kernel_rfl) (by kernel_rfl) (by kernel_rfl) (by kernel_rfl) (by kernel_rfl) dPast16 (fun _ _ _ h => h) (by rfl) ?_ hS ?_
      rotate_left
      · (intro X hX; obtain ⟨hx0, hx1⟩ := hX; go_simp; try with_reducible rfl)
      refine RegionI.wpAnyI_take (i := 3) (v := ?_) rfl (by kernel_rfl) (by kernel_rfl) (by kernel_rfl) (by kernel_rfl) (by kernel_rfl) dPast16 (fun _ _ _ h => h) (by rfl) ?_ hS ?_
      rotate_left
      · (intro X hX; obtain ⟨hx0, hx1⟩ := hX; go_simp; try with_reducible rfl)
      refine RegionI.wpAnyI_take (i := 4) (v := ?_) rfl (by kernel_rfl) (by kernel_rfl) (by kernel_rfl) (by kernel_rfl) (by kernel_rfl) dPast16 (fun _ _ _ h => h) (by rfl) ?_ hS ?_
      rotate_left
      · (intro X hX; obtain ⟨hx0, hx1⟩ := hX; go_simp; try with_reducible rfl)
      refine RegionI.wpAnyI_take (i := 5) (v := ?_) rfl (by kernel_rfl) (by kernel_rfl) (by kernel_rfl) (by kernel_rfl) (by kernel_rfl) dPast16 (fun _ _ _ h => h) (by rfl) ?_ hS ?_
      rotate_left
      · (intro X hX; obtain ⟨hx0, hx1⟩ := hX; go_simp; try with_reducible rfl)
      refine RegionI.wpAnyI_take (i := 6) (v := ?_) rfl (by kernel_rfl) (by kernel_rfl) (by kernel_rfl) (by kernel_rfl) (by kernel_rfl) dPast16 (fun _ _ _ h => h) (by rfl) ?_ hS ?_
      rotate_left
      · (intro X hX; obtain ⟨hx0, hx1⟩ := hX; go_simp; try with_reducible rfl)
      refine RegionI.wpAnyI_take (i := 7) (v := ?_) rfl (by kernel_rfl) (by kernel_rfl) (by kernel_rfl) (by kernel_rfl) (by kernel_rfl) dPast16 (fun _ _ _ h => h) (by rfl) ?_ hS ?_
      rotate_left
      · (intro X hX; obtain ⟨hx0, hx1⟩ := hX; go_simp; try with_reducible rfl)
      refine RegionI.wpAnyI_take (i := 8) (v := ?_) rfl (by kernel_rfl) (by kernel_rfl) (by kernel_rfl) (by kernel_rfl) (by kernel_rfl) dPast16 (fun _ _ _ h => h) (by rfl) ?_ hS ?_
      rotate_left
      · (intro X hX; obtain ⟨hx0, hx1⟩ := hX; go_simp; try with_reducible rfl)
      refine RegionI.wpAnyI_take (i := 9) (v := ?_) rfl (by kernel_rfl) (by kernel_rfl) (by kernel_rfl) (by kernel_rfl) (by kernel_rfl) dPast16 (fun _ _ _ h => h) (by rfl) ?_ hS ?_
      rotate_left
      · (intro X hX; obtain ⟨hx0, hx1⟩ := hX; go_simp; try with_reducible rfl)
      refine RegionI.wpAnyI_take (i := 10) (v := ?_) rfl (by kernel_rfl) (by kernel_rfl) (by kernel_rfl) (by kernel_rfl) (by kernel_rfl) dPast16 (fun _ _ _ h => h) (by rfl) ?_ hS ?_
      rotate_left
      · (intro X hX; obtain ⟨hx0, hx1⟩ := hX; go_simp; try with_reducible rfl)
      refine RegionI.wpAnyI_one (i := 11) (by kernel_rfl) rfl (fun K hK => ?_)
      go_simp
      have HLC := Aside0.mk (Lent_calls B bc s V HBR5.out.1 HBR5.out.2)
      rw [HSL.out] at HLC
      refine HLC.out.mono ?_
      rintro e w1 ⟨g, rfl, hg, hL, hB⟩
      have hS1 := And.intro (pw_cell_below hB hS.1) (pw_cell_below hB hS.2)
      have hVb : w.heap.size ≤ V.heap.size := HW5.out.size
      have hR : Kd.R (Kd.int .u8) 5 w1 V.heap.size (fun q => V.heap.size ≤ q) (.slice (some ⟨g, 0, none⟩) sl (sl + 8)) s := by
        have := hL.owns hg (by have := HBR5.out.2; omega)
        rw [HSL.out] at this
        exact Kd.R_mono (Kd.R_bound this) (fun k hk => hk.2.1)
      have hM : dV.M w1 V.heap.size (fun q => V.heap.size ≤ q) (k, s) [.int .u64 k, .slice (some ⟨g, 0, none⟩) sl (sl + 8)] := ⟨[_], [_], rfl, rfl, _, rfl, hR⟩
      have HM := Aside0.mk (dV.M_lower hVb hM)
      have HS6 : Aside0 (Kd.S dV 40 w1 w.heap.size (fun q => True ∧ ¬ V.heap.size ≤ q) u3 (l.take i)) := ⟨Kd.S_mono (Kd.S_below (Kd.S_bound HS5.out) hB) (fun q hq => ⟨trivial, by have := hq.2.2.1; omega⟩)⟩
      have HLT : Aside0 (∀ q, u3.ownBlock = some q → q < V.heap.size) := ⟨Kd.S_lt HS5.out⟩
      have HW6 := Aside0.mk (below_step HW5.out hB)
      refine hK _ _ ⟨fun _ => hS1, ?_⟩
      clear hK K hS hM hR hL HLC HBR5 hB hg hVb
      refine RegionI.wpAnyI_one (i := 12) (by kernel_rfl) rfl (fun K hK => ?_)
      go_simp
      refine hK _ _ ⟨fun _ => hS1, ?_⟩
      clear hK K
      have hS6 := And.intro (pw_cell_below (below_alloc (Below.refl w1.heap.size w1) (.cells #[.int .u64 k, .slice (some ⟨g, 0, none⟩) sl (sl + 8)] 40)) hS1.1) (pw_cell_below (below_alloc (Below.refl w1.heap.size w1) (.cells #[.int .u64 k, .slice (some ⟨g, 0, none⟩) sl (sl + 8)] 40)) hS1.2)
      clear hS1
      refine RegionI.wpAnyI_one (i := 13) (by kernel_rfl) rfl (fun K hK => ?_)
      go_simp
      refine hK _ _ ⟨fun _ => hS6, ?_⟩
      clear hK K hS6
      refine RegionI.wpAnyI_one (i := 14) (by kernel_rfl) rfl (fun K hK => ?_)
      refine Kd.S_append_step dV (w0 := w) w.heap.size (by rfl) (.tmp 11) (.tmp 24) 25 40 (.agg #[.int .u64 0, .slice none 0 0]) 32 rfl Try.underlying25 info_val rfl (by decide) (by decide) u3 (l.take i) (k, s) _ (fun _ => True) (fun q => V.heap.size ≤ q) rfl rfl HM.out
          (fun q hq => ⟨trivial, fun h => by have := HLT.out q h.symm; omega⟩) (fun _ _ => trivial) HS6.out HW6.out HW6.out.size HL1.out ?_
      intro v1 w2 hS1 hB1 hg1 hat
      refine hK _ _ ⟨fun h => absurd h (by decide), ?_⟩
      clear hK K hg1 hat
      rw [HTS.out] at hS1
      have HS7 := Aside0.mk hS1
      have HW7 := Aside0.mk hB1
      clear hS1 hB1
      refine RegionI.wpAnyI_one (i := 15) (by kernel_rfl) rfl (fun K hK => ?_)
      go_simp
      refine hK _ _ ⟨fun h => absurd h (by decide), ?_⟩
      clear hK K
      refine RegionI.wpAnyI_done (by kernel_rfl) ?_ _
      go_wp2_with fail
      go_roundg kq
      case measure => omega
      case rel => exact ⟨i + 1, ⟨by have := HK.out; omega⟩, by first | rfl | go_num, HS7, HW7⟩
end Go.Proofs.Ytcmibbhfocfccaa.Cur
