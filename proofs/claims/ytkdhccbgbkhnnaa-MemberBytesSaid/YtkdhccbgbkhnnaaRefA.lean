/- RefA: RefW1, RefW2, RefW3, RefW4, RefW5, RefW6. -/
import Derived.Test.YtkdhccbgbkhnnaaRunA
namespace Go.Proofs.Ytkdhccbgbkhnnaa.Cur
open Go.RowKit Go.Proofs.Ytkdhccbgbkhnnaa.Segs Go.Proofs.Ytkdhccbgbkhnnaa.Own Go.Proofs.Ytkdhccbgbkhnnaa.CurP Go.Proofs.Ytkdhccbgbkhnnaa.Mem Go.Proofs.Ytkdhccbgbkhnnaa.Bits Go.Proofs.Ytkdhccbgbkhnnaa.Help Go.Proofs.YtkdhccbgbkhnnaaW.PrintWords Go.Proofs.YtkdhccbgbkhnnaaW.PrintLast Go.Proofs.YtkdhccbgbkhnnaaW.PrintMore
set_option linter.unusedVariables false
set_option linter.unusedSimpArgs false
structure RefR (W : World) (g : Nat) (A : Option Addr) (c : Nat) (xs : List Int) (at_ : Nat) (e : Int) : Prop where
  b : W.heap[g]? = some (.cells #[.slice A xs.length c, .int .i64 (at_ : Int), .int .i64 e] 87 (0, 0))
  r : Kd.C (Kd.int .u8) W A xs.length xs
  le : at_ ≤ xs.length
  cap : xs.length ≤ c
theorem RefR.cells {W : World} {g : Nat} {A : Option Addr} {c : Nat} {xs : List Int} {at_ : Nat} {e : Int} (h : RefR W g A c xs at_ e) : W.cell? ⟨g, 0, none⟩ = some (.slice A xs.length c) ∧ W.cell? ⟨g, 1, none⟩ = some (.int .i64 (at_ : Int)) ∧ W.cell? ⟨g, 2, none⟩ = some (.int .i64 e) := ⟨blk_cell h.b 0, blk_cell h.b 1, blk_cell h.b 2⟩
theorem RefR.drewN {W : World} {g : Nat} {A : Option Addr} {c : Nat} {xs : List Int} {at_ : Nat} {e : Int} (h : RefR W g A c xs at_ e) (n : Nat) : RefR (W.drewN n) g A c xs at_ e := ⟨blk_drewN h.b n, Kd.C_drewN h.r n, h.le, h.cap⟩
theorem RefR.err {W : World} {g : Nat} {A : Option Addr} {c : Nat} {xs : List Int} {at_ : Nat} {e : Int} (h : RefR W g A c xs at_ e) (k : Int) : RefR (W.setCell ⟨g, 2, none⟩ (.int .i64 k)) g A c xs at_ k ∧ W.grownBy (W.setCell ⟨g, 2, none⟩ (.int .i64 k)) (some g) :=
  ⟨⟨by rw [blk_set h.b]; rfl, C_setCell (p := none) h.cells.2.2 (by simp) h.r, h.le, h.cap⟩, setCells_grown W g [.int .i64 k] 2⟩
theorem RefR.far {W : World} {g : Nat} {A : Option Addr} {c : Nat} {xs : List Int} {at_ : Nat} {e : Int} (h : RefR W g A c xs at_ e) (k : Nat) (hk : k ≤ xs.length) : RefR (W.setCell ⟨g, 1, none⟩ (.int .i64 (k : Int))) g A c xs k e ∧ W.grownBy (W.setCell ⟨g, 1, none⟩ (.int .i64 (k : Int))) (some g) :=
  ⟨⟨by rw [blk_set h.b]; rfl, C_setCell (p := none) h.cells.2.1 (by simp) h.r, hk, h.cap⟩, setCells_grown W g [.int .i64 (k : Int)] 1⟩
def fitsE (xs : List Int) (at_ : Nat) (e n : Int) (ok : Bool) : Int := if e ≠ 0 then e else if ok = false then 1 else if n > (xs.length : Int) - at_ then 10 else 0
set_option maxHeartbeats 4000000 in
theorem fits_any (g : Nat) (A : Option Addr) (c : Nat) (xs : List Int) (at_ : Nat) (e n : Int) (ok : Bool) (w : World) (hT : RefR w g A c xs at_ e) :
    Calls Try.prog 61 #[.pointer (some ⟨g, 0, none⟩), .int .i64 n, .bool ok] w fun r w' => r = .returned (.bool (decide (fitsE xs at_ e n ok = 0))) ∧ RefR w' g A c xs at_ (fitsE xs at_ e n ok) ∧ w.grownBy w' (some g) := by
  obtain ⟨c0, c1, c2⟩ := hT.cells
  have f2 := blk_frozen hT.b 2
  have hle := hT.le
  have hmax := Kd.C_max hT.r
  have H := Aside0.mk hT
  clear hT
  by_cases he : e = 0
  · subst he
    have q0 : ((0 : Int) == 0) = true := rfl
    cases ok with
    | false =>
      have HE : Aside0 (fitsE xs at_ 0 n false = 1) := ⟨rfl⟩
      have HR := Aside0.mk (H.out.err 1)
      go_enter Try.func61, Try.ntmps61
      go_upto_region 7 with fail
      have c2' := (HR.out.1.cells).2.2
      clear c0 c1 c2 f2
      generalize w.setCell ⟨g, 2, none⟩ (.int .i64 1) = W at *
      go_wp2_with fail
      go_ret
      rw [HE.out]
      exact ⟨rfl, HR.out⟩
    | true =>
      have hw : IntKind.i64.wrap ((xs.length : Int) - at_) = (xs.length : Int) - at_ := IntWalk.i64_in _ (by omega)
      by_cases hn : (xs.length : Int) - at_ < n
      · have hd : decide ((xs.length : Int) - at_ < n) = true := by simpa using hn
        have HE : Aside0 (fitsE xs at_ 0 n true = 10) := ⟨by unfold fitsE; rw [if_neg (by decide), if_neg (by decide), if_pos hn]⟩
        clear hn
        go_enter Try.func61, Try.ntmps61
        go_wp2_with fail
        go_quiet (fail)
        rename_i nq _ _
        go_upto_region 7 with fail
        have HR := Aside0.mk ((H.out.drewN nq).err 10)
        have c2' := (HR.out.1.cells).2.2
        clear c0 c1 c2 f2
        generalize (w.drewN nq).setCell ⟨g, 2, none⟩ (.int .i64 10) = W at *
        go_wp2_with fail
        go_ret
        rw [HE.out]
        exact ⟨rfl, HR.out.1, (grown_drewN w nq _).trans HR.out.2⟩
      · have hd : decide ((xs.length : Int) - at_ < n) = false := by simpa using hn
        have HE : Aside0 (fitsE xs at_ 0 n true = 0) := ⟨by unfold fitsE; rw [if_neg (by decide), if_neg (by decide), if_neg (by omega)]⟩
        clear hn
        go_enter Try.func61, Try.ntmps61
        go_wp2_with fail
        go_quiet (fail)
        go_wp2_with fail
        go_ret
        rw [HE.out]
        exact ⟨rfl, H.out.drewN _, grown_drewN w _ _⟩
  · have q0 : (e == 0) = false := by simpa using he
    have HE : Aside0 (fitsE xs at_ e n ok = e) := ⟨if_pos he⟩
    have hd : decide (e = 0) = false := by simpa using he
    clear he
    go_enter Try.func61, Try.ntmps61
    go_wp2_with fail
    go_ret
    rw [HE.out, hd]
    exact ⟨rfl, H.out, World.grownBy.refl w _⟩
end Go.Proofs.Ytkdhccbgbkhnnaa.Cur
namespace Go.Proofs.Ytkdhccbgbkhnnaa.Cur
open Go.RowKit Go.Proofs.Ytkdhccbgbkhnnaa.Segs Go.Proofs.Ytkdhccbgbkhnnaa.Own Go.Proofs.Ytkdhccbgbkhnnaa.CurP Go.Proofs.Ytkdhccbgbkhnnaa.Mem Go.Proofs.Ytkdhccbgbkhnnaa.Bits Go.Proofs.Ytkdhccbgbkhnnaa.Help Go.Proofs.YtkdhccbgbkhnnaaW.PrintWords Go.Proofs.YtkdhccbgbkhnnaaW.PrintLast Go.Proofs.YtkdhccbgbkhnnaaW.PrintMore
set_option linter.unusedVariables false
set_option linter.unusedSimpArgs false
theorem drawn0_more {w w' : World} (h : Drawn0 w w') (n : Nat) : Drawn0 w (w'.drewN n) := by
  obtain ⟨k, rfl⟩ := h
  exact ⟨k + n, by rw [World.drewN_drewN]⟩
theorem rnum_no (g : Nat) (A : Option Addr) (c : Nat) (xs : List Int) (at_ : Nat) (e s : Int) (w : World) (hT : RefR w g A c xs at_ e) (hn : fitsE xs at_ e s (decide (1 ≤ s) && decide (s ≤ 8)) ≠ 0) :
    Calls Try.prog 46 #[.pointer (some ⟨g, 0, none⟩), .int .i64 s] w fun r w' => r = .returned (.int .u64 0) ∧ RefR w' g A c xs at_ (fitsE xs at_ e s (decide (1 ≤ s) && decide (s ≤ 8))) ∧ w.grownBy w' (some g) := by
  have HF := fits_any g A c xs at_ e s (decide (1 ≤ s) && decide (s ≤ 8)) w hT
  rw [show decide (fitsE xs at_ e s (decide (1 ≤ s) && decide (s ≤ 8)) = 0) = false by simpa using hn] at HF
  replace HF := Aside0.mk HF
  generalize fitsE xs at_ e s (decide (1 ≤ s) && decide (s ≤ 8)) = E at *
  clear hT hn
  cases h1 : decide (1 ≤ s) <;> cases h2 : decide (s ≤ 8) <;> (
    rw [h1, h2] at HF
    simp only [Bool.and_true, Bool.and_false, Bool.true_and, Bool.false_and] at HF
    go_enter Try.func46, Try.ntmps46
    go_wp2_with fail
    refine HF.out.mono ?_
    rintro r w' ⟨rfl, hw⟩
    have HW := Aside0.mk hw
    clear hw
    go_wp2_with fail
    go_ret
    exact ⟨rfl, HW.out⟩)
set_option maxHeartbeats 4000000 in
theorem rnum_yes (g : Nat) (A : Option Addr) (c : Nat) (xs : List Int) (at_ s : Nat) (w : World) (hT : RefR w g A c xs at_ 0) (hx : AllB xs) (h1 : 1 ≤ s) (h8 : s ≤ 8) (hn : at_ + s ≤ xs.length) :
    Calls Try.prog 46 #[.pointer (some ⟨g, 0, none⟩), .int .i64 (s : Int)] w fun r w' => r = .returned (.int .u64 (numL ((xs.drop at_).take s))) ∧ RefR w' g A c xs (at_ + s) 0 ∧ w.grownBy w' (some g) := by
  have HF := fits_any g A c xs at_ 0 s true w hT
  rw [show fitsE xs at_ 0 s true = 0 by unfold fitsE; rw [if_neg (by decide), if_neg (by decide), if_neg (by omega)]] at HF
  replace HF := Aside0.mk HF
  have hmax := Kd.C_max hT.r
  have d1 : decide (1 ≤ (s : Int)) = true := by simp; omega
  have d8 : decide ((s : Int) ≤ 8) = true := by simp; omega
  have HB := Aside0.mk ((hx.drop at_).take s)
  have HL : Aside0 (((xs.drop at_).take s).length = s ∧ at_ + s ≤ xs.length ∧ ∀ i, i < s → ((xs.drop at_).take s).getD i 0 = xs.getD (at_ + i) 0) := ⟨by simp; omega, hn, fun i hi => by simp [List.getD_eq_getElem?_getD, List.getElem?_take, hi]⟩
  clear hx hn hT
  go_enter Try.func46, Try.ntmps46
  go_wp2_with fail
  refine HF.out.mono ?_
  rintro r W ⟨rfl, hR, hG⟩
  have HR := Aside0.mk hR
  have HG := Aside0.mk hG
  clear hR hG HF
  have hcap := HR.out.cap
  generalize hys : (xs.drop at_).take s = ys at *
  have HY := Aside0.mk hys
  clear hys
  go_wp2_with fail
  go_loopg [5, 6] s (fun kq v5 v6 w' => ∃ i : Nat, Aside0 (kq + i = s) ∧ v6 = .int .i64 (i : Int) ∧ v5 = .int .u64 (numL (ys.take i)) ∧ Aside0 (Drawn0 W w'))
  case atStart => exact ⟨0, ⟨by simp⟩, rfl, rfl, ⟨Drawn0.refl _⟩⟩
  case round =>
    obtain ⟨i, HK, rfl, rfl, HD⟩ := hrel
    cases gk with
    | zero =>
      obtain rfl : i = s := by have := HK.out; omega
      obtain ⟨n, rfl⟩ := HD.out
      have HR2 := HR.out.drewN n
      obtain ⟨c0, c1, c2⟩ := HR2.cells
      have f1 := blk_frozen HR2.b 1
      have hw2 : IntKind.i64.wrap ((at_ : Int) + i) = ((at_ + i : Nat) : Int) := by rw [IntWalk.i64_in _ (by have := HL.out.2.1; omega)]; simp
      have HF := Aside0.mk (HR2.far (at_ + i) HL.out.2.1)
      have HT : Aside0 (ys.take i = ys) := ⟨List.take_of_length_le (by rw [HL.out.1]; exact Nat.le_refl _)⟩
      rw [HT.out]
      have HG2 := Aside0.mk (HG.out.trans (grown_drewN W n (some g)))
      clear HR2
      generalize hN : numL ys = N at *
      have HN := Aside0.mk hN
      clear hN
      go_wp2_with fail
      go_ret
      refine ⟨?_, HF.out.1, HG2.out.trans HF.out.2⟩
      rw [HY.out, HN.out]
      rfl
    | succ kq =>
      have hi : i < s := by have := HK.out; omega
      have hi2 : ((i : Nat) : Int) < ((s : Nat) : Int) := by omega
      obtain ⟨n, rfl⟩ := HD.out
      obtain ⟨c0, c1, c2⟩ := HR.out.cells
      obtain ⟨ad, rfl, hcl⟩ := (Kd.reads_of_C (d := (0 : Int)) HR.out.r).2.2 (by have := HL.out.2.1; omega)
      have hc := hcl (at_ + i) (by have := HL.out.2.1; omega)
      rw [← HL.out.2.2 i hi] at hc
      have hil : i < ys.length := by rw [HL.out.1]; exact hi
      have hsn : numL (ys.take (i + 1)) = numL (ys.take i) * 256 + ys.getD i 0 := by rw [take_snoc hil, numL_snoc]
      have hsm := numL_small (HB.out.take i) (by simp; omega)
      have hby : 0 ≤ ys.getD i 0 ∧ ys.getD i 0 < 256 := by
        rw [List.getD_eq_getElem?_getD, List.getElem?_eq_getElem hil]; exact HB.out _ (List.getElem_mem hil)
      have hor := num_step hsm.1 hsm.2 hby.1 hby.2
      rw [← hsn] at hor
      have hwc : IntKind.u64.wrap (ys.getD i 0) = ys.getD i 0 := wrap_u64_id (by omega) (by omega)
      have hw2 : IntKind.i64.wrap ((at_ : Int) + i) = ((at_ + i : Nat) : Int) := by rw [IntWalk.i64_in _ (by have := HL.out.2.1; omega)]; simp
      have hai : ((at_ + i : Nat) : Int) < ((xs.length : Nat) : Int) := by have := HL.out.2.1; omega
      clear hcl hsn hsm hby
      generalize hn2 : numL (ys.take (i + 1)) = n2 at *
      have HN2 := Aside0.mk hn2
      clear hn2
      generalize numL (ys.take i) = n1 at *
      generalize ys.getD i 0 = x at *
      generalize hai3 : at_ + i = ai at *
      go_wp2_with fail
      go_quiet (fail)
      go_wp2_with fail
      go_roundg kq
      case measure => omega
      case rel => exact ⟨i + 1, ⟨by have := HK.out; omega⟩, rfl, by rw [HN2.out], ⟨⟨_, rfl⟩⟩⟩
end Go.Proofs.Ytkdhccbgbkhnnaa.Cur
namespace Go.Proofs.Ytkdhccbgbkhnnaa.Cur
open Go.RowKit Go.Proofs.Ytkdhccbgbkhnnaa.Segs Go.Proofs.Ytkdhccbgbkhnnaa.Own Go.Proofs.Ytkdhccbgbkhnnaa.CurP Go.Proofs.Ytkdhccbgbkhnnaa.Mem Go.Proofs.Ytkdhccbgbkhnnaa.Bits Go.Proofs.Ytkdhccbgbkhnnaa.Help Go.Proofs.YtkdhccbgbkhnnaaW.PrintWords Go.Proofs.YtkdhccbgbkhnnaaW.PrintLast Go.Proofs.YtkdhccbgbkhnnaaW.PrintMore
set_option linter.unusedVariables false
set_option linter.unusedSimpArgs false
def RefZ (W : World) (g : Nat) (A : Option Addr) (c : Nat) (xs : List Int) (at_ s : Nat) : Prop := if ((xs.drop at_).take s).all (· == 0) then RefR W g A c xs (at_ + s) 0 else RefR W g A c xs at_ 11
end Go.Proofs.Ytkdhccbgbkhnnaa.Cur
namespace Go.Proofs.Ytkdhccbgbkhnnaa.Cur
open Go.RowKit Go.Proofs.Ytkdhccbgbkhnnaa.Segs Go.Proofs.Ytkdhccbgbkhnnaa.Own Go.Proofs.Ytkdhccbgbkhnnaa.CurP Go.Proofs.Ytkdhccbgbkhnnaa.Mem Go.Proofs.Ytkdhccbgbkhnnaa.Bits Go.Proofs.Ytkdhccbgbkhnnaa.Help Go.Proofs.YtkdhccbgbkhnnaaW.PrintWords Go.Proofs.YtkdhccbgbkhnnaaW.PrintLast Go.Proofs.YtkdhccbgbkhnnaaW.PrintMore
set_option linter.unusedVariables false
set_option linter.unusedSimpArgs false
theorem RefR.below {W W1 : World} {g : Nat} {A : Option Addr} {c : Nat} {xs : List Int} {at_ : Nat} {e : Int} (h : RefR W g A c xs at_ e) (hB : Below W.heap.size W W1) : RefR W1 g A c xs at_ e := ⟨blk_below h.b hB, Kd.C_below h.r hB, h.le, h.cap⟩
theorem C_part {w : World} {A : Option Addr} {xs : List Int} {c k n : Nat} (h : Kd.C (Kd.int .u8) w A xs.length xs) (hn : k + n ≤ xs.length) (hc : xs.length ≤ c) : Kd.C (Kd.int .u8) w (if c = k then A else A.map (fun x => x.add k)) n ((xs.drop k).take n) := by
  split
  · obtain rfl : n = 0 := by omega
    rw [List.take_zero]; exact C_zero _ _
  · exact C_cut h k n hn
end Go.Proofs.Ytkdhccbgbkhnnaa.Cur
namespace Go.Proofs.Ytkdhccbgbkhnnaa.Cur
open Go.RowKit Go.Proofs.Ytkdhccbgbkhnnaa.Segs Go.Proofs.Ytkdhccbgbkhnnaa.Own Go.Proofs.Ytkdhccbgbkhnnaa.CurP Go.Proofs.Ytkdhccbgbkhnnaa.Mem Go.Proofs.Ytkdhccbgbkhnnaa.Bits Go.Proofs.Ytkdhccbgbkhnnaa.Help Go.Proofs.YtkdhccbgbkhnnaaW.PrintWords Go.Proofs.YtkdhccbgbkhnnaaW.PrintLast Go.Proofs.YtkdhccbgbkhnnaaW.PrintMore
set_option linter.unusedVariables false
set_option linter.unusedSimpArgs false
theorem of_any (w : World) (A : Option Addr) (c : Nat) (xs : List Int) (hr : Kd.C (Kd.int .u8) w A xs.length xs) (hb : xs.length ≤ 140737488351232) :
    Calls Try.prog 45 #[.slice A xs.length c] w fun e w' => ∃ wB B d, e = .returned (.pointer (some ⟨wB.heap.size, 0, none⟩)) ∧ RefR w' wB.heap.size B d xs 0 0 ∧ Kd.C (Kd.int .u8) wB B xs.length xs ∧ Below w.heap.size w wB ∧ Below wB.heap.size wB w' := by
  obtain ⟨v1, w1, hrun, hO, hg, -⟩ := append_bytes (ty := 45) (c := c) (Owns.nil w w.heap.size) hr (by simp; omega) (Nat.le_refl _)
  rw [List.nil_append] at hO
  obtain ⟨B, d, rfl, hd, hrd⟩ := hO.reads (by omega)
  have hB : Below w.heap.size w w1 := below_grown0 hg
  have HRUN := Aside0.mk hrun
  have HF := Aside0.mk (And.intro hd (And.intro hrd hB))
  clear hrun hO hg hd hrd hB hr hb
  go_enter Try.func45, Try.ntmps45
  go_wp2_with ((with_reducible refine gate_dst (N := 6) rfl ?_); refine Kd.event_run rfl (exec_append rfl rfl rfl HRUN.out) ?_)
  go_ret
  exact ⟨w1, B, d, rfl, ⟨blk_new w1 _, Kd.C_below HF.out.2.1 (below_alloc (Below.refl _ _) _), Nat.zero_le _, HF.out.1⟩, HF.out.2.1, HF.out.2.2, below_alloc (Below.refl _ _) _⟩
end Go.Proofs.Ytkdhccbgbkhnnaa.Cur
namespace Go.Proofs.Ytkdhccbgbkhnnaa.Cur
open Go.RowKit Go.Proofs.Ytkdhccbgbkhnnaa.Segs Go.Proofs.Ytkdhccbgbkhnnaa.Own Go.Proofs.Ytkdhccbgbkhnnaa.CurP Go.Proofs.Ytkdhccbgbkhnnaa.Mem Go.Proofs.Ytkdhccbgbkhnnaa.Bits Go.Proofs.Ytkdhccbgbkhnnaa.Help Go.Proofs.YtkdhccbgbkhnnaaW.PrintWords Go.Proofs.YtkdhccbgbkhnnaaW.PrintLast Go.Proofs.YtkdhccbgbkhnnaaW.PrintMore
set_option linter.unusedVariables false
set_option linter.unusedSimpArgs false
set_option maxHeartbeats 2000000 in
theorem spoil_any (w : World) (base : Nat) (v : Value) (xs : List Int) (h : Owns w base v xs) :
    Calls Try.prog 38 #[v] w fun e w' => e = .returned (.tuple #[]) ∧ w.grownBy w' v.ownBlock := by
  have hmax := h.len63
  rcases h.2 with ⟨rfl, hn⟩ | ⟨g, cap, cur, rfl, _, hg, hnc, _, hsz, _⟩
  · clear h hn
    go_enter Try.func38, Try.ntmps38
    go_wp2_with fail
    go_loop [2] (fun v2 => v2 = .int .i64 0) (fun v2 => 0)
    case atStart => rfl
    case round =>
      subst hrel
      go_wp2_with fail
      exact bodyPost_end (results_none rfl _ _ _) rfl ⟨rfl, World.grownBy.refl w _⟩
  · have HG := Aside0.mk (And.intro hg hsz)
    clear h hg hsz
    generalize xs.length = n at *
    go_enter Try.func38, Try.ntmps38
    go_wp2_with fail
    go_loopg [2] n (fun kq v2 w' => ∃ i : Nat, Aside0 (kq + i = n) ∧ v2 = .int .i64 (i : Int) ∧ Aside0 ((∃ cs, w'.heap[g]? = some (.cells cs 5 (0, 0)) ∧ cs.size = cap * 1) ∧ w.grownBy w' (some g)))
    case atStart => exact ⟨0, ⟨by simp⟩, rfl, ⟨⟨_, HG.out.1, HG.out.2⟩, World.grownBy.refl w _⟩⟩
    case round =>
      obtain ⟨i, HK, rfl, HI⟩ := hrel
      cases gk with
      | zero =>
        obtain rfl : i = n := by have := HK.out; omega
        go_wp2_with fail
        exact bodyPost_end (results_none rfl _ _ _) rfl ⟨rfl, HI.out.2⟩
      | succ kq =>
        have hi : i < n := by have := HK.out; omega
        have hi2 : ((i : Nat) : Int) < ((n : Nat) : Int) := by omega
        obtain ⟨⟨cs, hb, hs⟩, hgr⟩ := HI.out
        have hil : i < cs.size := by omega
        have hc : wr.cell? ⟨g, i, none⟩ = some cs[i] := by rw [blk_cell hb]; exact Array.getElem?_eq_getElem hil
        have hf := blk_frozen hb i
        have hb2 := blk_set hb i (.int .u8 90)
        have hg2 := hgr.trans (setCells_grown wr g [.int .u8 90] i)
        have HN : Aside0 ((∃ cs, (wr.setCell ⟨g, i, none⟩ (.int .u8 90)).heap[g]? = some (.cells cs 5 (0, 0)) ∧ cs.size = cap * 1) ∧ w.grownBy (wr.setCell ⟨g, i, none⟩ (.int .u8 90)) (some g)) := ⟨⟨_, hb2, by simp [hs]⟩, hg2⟩
        generalize cs[i] = y at *
        clear hb hgr hb2 hg2 HI hs hil
        go_wp2_with fail
        go_roundg kq
        case measure => omega
        case rel => exact ⟨i + 1, ⟨by have := HK.out; omega⟩, rfl, HN⟩
end Go.Proofs.Ytkdhccbgbkhnnaa.Cur
