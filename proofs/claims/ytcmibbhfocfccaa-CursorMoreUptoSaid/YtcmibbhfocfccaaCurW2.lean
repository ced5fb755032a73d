/- The tape: a number, bytes, noughts. -/
import Derived.Test.YtcmibbhfocfccaaCurW1
import Derived.Deep.LoopGhost
namespace Go.Proofs.Ytcmibbhfocfccaa.Cur
open Go.RowKit Go.Proofs.Ytcmibbhfocfccaa.Own Go.Proofs.Ytcmibbhfocfccaa.CurP Go.Proofs.Ytcmibbhfocfccaa.Mem Go.Proofs.Ytcmibbhfocfccaa.Bits Go.Proofs.Ytcmibbhfocfccaa.Help Go.Proofs.YtcmibbhfocfccaaW.PrintWords Go.Proofs.YtcmibbhfocfccaaW.PrintLast Go.Proofs.YtcmibbhfocfccaaW.PrintMore
set_option linter.unusedVariables false
set_option linter.unusedSimpArgs false
theorem C_setCell {W : World} {A p : Option Addr} {q : Addr} {n : Nat} {xs : List Int} {y v : Value} (hc : W.cell? q = some y) (hy : ∀ x, y ≠ .int .u8 x) (h : Kd.C (Kd.int .u8) W A n xs) : Kd.C (Kd.int .u8) (W.setCell q v) A n xs := by
  obtain ⟨h1, h2, h3⟩ := Kd.reads_of_C (d := (0 : Int)) h
  refine Kd.C_of_reads (d := (0 : Int)) (h1 := fun _ => rfl) ⟨h1, h2, fun hp => ?_⟩
  obtain ⟨ad, rfl, hcl⟩ := h3 hp
  refine ⟨ad, rfl, fun j hj => ?_⟩
  have hj1 := hcl j hj
  rw [World.cell?_setCell_other]
  · exact hj1
  · intro e
    rw [← e, hc] at hj1
    exact hy _ (Option.some.inj hj1)
theorem Tape.set {W : World} {g : Nat} {A : Option Addr} {c : Nat} {xs : List Int} {at_ : Nat} (h : Tape W g A c xs at_) (k : Nat) (hk : k ≤ xs.length) :
    Tape (W.setCell ⟨g, 1, none⟩ (.int .i64 (k : Int))) g A c xs k ∧ W.grownBy (W.setCell ⟨g, 1, none⟩ (.int .i64 (k : Int))) (some g) :=
  ⟨⟨by rw [blk_set h.b]; rfl, C_setCell (p := none) h.cells.2 (by simp) h.r, hk, h.cap, h.c63⟩, setCells_grown W g [.int .i64 (k : Int)] 1⟩
theorem Tape.drewN {W : World} {g : Nat} {A : Option Addr} {c : Nat} {xs : List Int} {at_ : Nat} (h : Tape W g A c xs at_) (n : Nat) : Tape (W.drewN n) g A c xs at_ := ⟨blk_drewN h.b n, Kd.C_drewN h.r n, h.le, h.cap, h.c63⟩
theorem grown_drewN (w : World) (n : Nat) (row : Option Nat) : w.grownBy (w.drewN n) row := ⟨rfl, rfl, rfl, Nat.le_refl _, fun _ _ _ => rfl⟩
theorem grown0_any {w w1 : World} (h : w.grownBy w1 none) (row : Option Nat) : w.grownBy w1 row := ⟨h.os, h.tape, h.output, h.size, fun k hk _ => h.block k hk (by simp)⟩
theorem below_grown0 {w w1 : World} (h : w.grownBy w1 none) : Below w.heap.size w w1 := ⟨h.os, h.tape, h.output, h.size, fun k hk => h.block k hk (by simp)⟩
theorem Tape.below {W W1 : World} {g : Nat} {A : Option Addr} {c : Nat} {xs : List Int} {at_ : Nat} (h : Tape W g A c xs at_) (hB : Below W.heap.size W W1) : Tape W1 g A c xs at_ := ⟨blk_below h.b hB, Kd.C_below h.r hB, h.le, h.cap, h.c63⟩
theorem Tape.grown0 {W W1 : World} {g : Nat} {A : Option Addr} {c : Nat} {xs : List Int} {at_ : Nat} (h : Tape W g A c xs at_) (hg : W.grownBy W1 none) : Tape W1 g A c xs at_ := h.below (below_grown0 hg)
theorem need_no (g : Nat) (A : Option Addr) (c : Nat) (xs : List Int) (at_ : Nat) (n : Int) (w : World) (hT : Tape w g A c xs at_) (h : wantN xs at_ n ≠ 0) :
    Calls Try.prog 42 #[.pointer (some ⟨g, 0, none⟩), .int .i64 n] w fun e w' => e = stops (wantN xs at_ n) ∧ Drawn0 w w' := by
  unfold wantN at h ⊢
  by_cases h1 : n < 0
  · rw [if_pos h1]; exact need_neg g n w h1
  · rw [if_neg h1] at h ⊢
    split at h
    · rename_i h2; rw [if_pos h2]; exact need_many g A c xs at_ n w hT (by omega) (by omega)
    · exact absurd rfl h
theorem take_snoc {l : List Int} {i : Nat} (h : i < l.length) : l.take (i + 1) = l.take i ++ [l.getD i 0] := by
  rw [List.take_succ_eq_append_getElem h, List.getD_eq_getElem?_getD, List.getElem?_eq_getElem h]; rfl
set_option maxHeartbeats 2000000 in
theorem number_yes (g : Nat) (A : Option Addr) (c : Nat) (xs : List Int) (at_ s : Nat) (w : World) (hT : Tape w g A c xs at_) (hx : AllB xs) (h1 : 1 ≤ s) (h8 : s ≤ 8) (hn : at_ + s ≤ xs.length) :
    Calls Try.prog 35 #[.pointer (some ⟨g, 0, none⟩), .int .i64 (s : Int)] w fun e w' => e = .returned (.int .u64 (numL ((xs.drop at_).take s))) ∧ Tape w' g A c xs (at_ + s) ∧ w.grownBy w' (some g) := by
  have HT := Aside0.mk hT
  have d1 : decide ((s : Int) < 1) = false := by simp; omega
  have d8 : decide (8 < (s : Int)) = false := by simp; omega
  have HB := Aside0.mk ((hx.drop at_).take s)
  have hlen : ((xs.drop at_).take s).length = s := by simp; omega
  have hc63 := hT.c63
  have hcap := hT.cap
  have ha63 : (at_ : Int) + (s : Int) ≤ 9223372036854775807 := by omega
  have H := Aside0.mk (And.intro hlen hn)
  clear hT hx hlen
  generalize hys : (xs.drop at_).take s = ys at *
  go_enter Try.func35, Try.ntmps35
  go_wp2_with fail
  refine (need_yes g A c xs at_ s _ HT.out H.out.2).mono ?_
  rintro e w1 ⟨B, d, rfl, hd, hC, ⟨k, rfl⟩⟩
  rw [hys] at hC
  have HT1 := Aside0.mk (HT.out.drewN k)
  have HC := Aside0.mk (Kd.C_drewN hC k)
  have HG := Aside0.mk (grown_drewN w k (some g))
  clear HT hC hys
  generalize w.drewN k = W at *
  go_wp2_with fail
  go_loop [5, 7, 20] (fun v5 v7 v20 => ∃ i : Nat, i ≤ s ∧ v20 = .int .i64 (i : Int) ∧ v5 = .int .u64 (numL (ys.take i))) (fun _ _ v20 => s - (intOf v20).toNat)
  case atStart => exact ⟨0, Nat.zero_le _, rfl, rfl⟩
  case round =>
    obtain ⟨i, hi, rfl, rfl⟩ := hrel
    by_cases hlt : i < s
    · have hl : decide ((i : Int) < (s : Int)) = true := by simp; omega
      obtain ⟨ad, rfl, hcl⟩ := (Kd.reads_of_C (d := (0 : Int)) HC.out).2.2 (by omega)
      have hc := hcl i hlt
      have hil : i < ys.length := by rw [H.out.1]; exact hlt
      have hsn : numL (ys.take (i + 1)) = numL (ys.take i) * 256 + ys.getD i 0 := by rw [take_snoc hil, numL_snoc]
      have hsm := numL_small (HB.out.take i) (by simp; omega)
      have hby : 0 ≤ ys.getD i 0 ∧ ys.getD i 0 < 256 := by
        rw [List.getD_eq_getElem?_getD, List.getElem?_eq_getElem hil]; exact HB.out _ (List.getElem_mem hil)
      have hor := num_step hsm.1 hsm.2 hby.1 hby.2
      rw [← hsn] at hor
      have hwc : IntKind.u64.wrap (ys.getD i 0) = ys.getD i 0 := wrap_u64_id (by omega) (by omega)
      have HH := Aside0.mk (And.intro hsn (And.intro hsm hby))
      clear hcl hsn hsm hby
      generalize hn2 : numL (ys.take (i + 1)) = n2 at *
      have HN2 := Aside0.mk hn2
      clear hn2
      generalize numL (ys.take i) = n1 at *
      generalize ys.getD i 0 = x at *
      go_wp2_with fail
      exact ⟨⟨i + 1, hlt, by first | rfl | go_num, by rw [HN2.out]⟩, by simp [intOf]; omega⟩
    · obtain rfl : i = s := by omega
      have hl : decide ((i : Int) < (i : Int)) = false := by simp
      obtain ⟨c0, c1⟩ := HT1.out.cells
      have f1 : W.frozen? ⟨g, 1, none⟩ = false := blk_frozen HT1.out.b _
      have hn1 : ((at_ : Int) + (i : Int)) = ((at_ + i : Nat) : Int) := by omega
      have hw : IntKind.i64.wrap (((at_ : Int)) + (i : Int)) = (at_ : Int) + (i : Int) := IntWalk.i64_in _ (by omega)
      have HTS := Aside0.mk (HT1.out.set (at_ + i) H.out.2)
      rw [← hn1] at HTS
      clear hn1
      go_wp2_with fail
      go_ret
      refine ⟨?_, HTS.out.1, HG.out.trans HTS.out.2⟩
      rw [List.take_of_length_le (by rw [H.out.1]; exact Nat.le_refl _)]; rfl
theorem number_bad (g : Nat) (s : Int) (w : World) (h : s < 1 ∨ 8 < s) :
    Calls Try.prog 35 #[.pointer (some ⟨g, 0, none⟩), .int .i64 s] w fun e w' => e = stops 1 ∧ Drawn0 w w' := by
  by_cases h1 : s < 1
  · have d1 : decide (s < 1) = true := by simpa using h1
    clear h
    go_enter Try.func35, Try.ntmps35
    go_wp2_with fail
    exact ⟨rfl, rfl, Drawn0.refl _⟩
  · have d1 : decide (s < 1) = false := by simpa using h1
    have d2 : decide (8 < s) = true := by simp; omega
    clear h
    go_enter Try.func35, Try.ntmps35
    go_wp2_with fail
    exact ⟨rfl, rfl, Drawn0.refl _⟩
theorem number_many (g : Nat) (A : Option Addr) (c : Nat) (xs : List Int) (at_ : Nat) (s : Int) (w : World) (hT : Tape w g A c xs at_) (h1 : 1 ≤ s) (h8 : s ≤ 8) (hm : (xs.length : Int) - at_ < s) :
    Calls Try.prog 35 #[.pointer (some ⟨g, 0, none⟩), .int .i64 s] w fun e w' => e = stops 10 ∧ Drawn0 w w' := by
  have HT := Aside0.mk hT
  have d1 : decide (s < 1) = false := by simp; omega
  have d8 : decide (8 < s) = false := by simp; omega
  have H := Aside0.mk (And.intro h1 hm)
  clear hT hm
  go_enter Try.func35, Try.ntmps35
  go_wp2_with fail
  refine (need_many g A c xs at_ s _ HT.out (by have := H.out.1; omega) H.out.2).mono ?_
  rintro e w1 ⟨rfl, hD⟩
  exact ⟨rfl, rfl, hD⟩
set_option maxHeartbeats 2000000 in
theorem bytes_yes (g : Nat) (A : Option Addr) (c : Nat) (xs : List Int) (at_ n : Nat) (w : World) (hT : Tape w g A c xs at_) (hn : at_ + n ≤ xs.length) (hb : n ≤ 140737488351232) :
    Calls Try.prog 39 #[.pointer (some ⟨g, 0, none⟩), .int .i64 (n : Int)] w fun e w' => ∃ v, e = .returned v ∧ Owns w' w.heap.size v ((xs.drop at_).take n) ∧ Tape w' g A c xs (at_ + n) ∧ w.grownBy w' (some g) := by
  have HT := Aside0.mk hT
  have hlen : ((xs.drop at_).take n).length = n := by simp; omega
  have hc63 := hT.c63
  have hcap := hT.cap
  have ha63 : (at_ : Int) + (n : Int) ≤ 9223372036854775807 := by omega
  have H := Aside0.mk (And.intro hlen (And.intro hn hb))
  clear hT hlen hb
  generalize hys : (xs.drop at_).take n = ys at *
  go_enter Try.func39, Try.ntmps39
  go_wp2_with fail
  refine (need_yes g A c xs at_ n _ HT.out H.out.2.1).mono ?_
  rintro e w1 ⟨B, d, rfl, hd, hC, ⟨k, rfl⟩⟩
  rw [hys] at hC
  have HT1 := Aside0.mk (HT.out.drewN k)
  have HG := Aside0.mk (grown_drewN w k (some g))
  have hC1 : Kd.C (Kd.int .u8) (w.drewN k) B ys.length ys := by rw [H.out.1]; exact Kd.C_drewN hC k
  have hsz : (w.drewN k).heap.size = w.heap.size := rfl
  obtain ⟨v1, w2, hrun, hO, hg, hown⟩ := append_bytes (ty := 22) (c := d) (base := w.heap.size) (Owns.nil (w.drewN k) w.heap.size) hC1 (by have := H.out; simp; omega) (Nat.le_refl _)
  rw [List.nil_append] at hO
  rw [H.out.1] at hrun
  have hg0 : (w.drewN k).grownBy w2 none := hg
  have hT2 : Tape w2 g A c xs at_ := HT1.out.grown0 hg0
  obtain ⟨c0, c1⟩ := hT2.cells
  have f1 : w2.frozen? ⟨g, 1, none⟩ = false := blk_frozen hT2.b _
  have hw : IntKind.i64.wrap (((at_ : Int)) + (n : Int)) = (at_ : Int) + (n : Int) := IntWalk.i64_in _ (by omega)
  have HTS := Aside0.mk (hT2.set (at_ + n) H.out.2.1)
  have hO2 : Owns (w2.setCell ⟨g, 1, none⟩ (.int .i64 ((at_ + n : Nat) : Int))) w.heap.size v1 ys := hO.kept (HTS.out.2) (by
    rcases hv : v1.ownBlock with _ | q
    · exact .inl rfl
    · refine .inr (fun e => ?_)
      have := hO.ne hT2.b (by decide)
      rw [hv] at this
      exact this (e ▸ rfl))
  have HO := Aside0.mk hO2
  have HGG := Aside0.mk (HG.out.trans (grown0_any hg0 (some g)))
  rw [show ((at_ + n : Nat) : Int) = (at_ : Int) + (n : Int) by omega] at HTS HO
  have HRUN := Aside0.mk hrun
  clear HT HT1 HG hC hC1 hrun hO hO2 hg hg0 hT2 hown hsz hys
  go_wp2_with ((with_reducible refine gate_dst (N := 9) rfl ?_); refine Kd.event_run rfl (exec_append rfl rfl rfl HRUN.out) ?_)
  go_ret
  exact ⟨v1, rfl, HO.out, HTS.out.1, HGG.out.trans HTS.out.2⟩
theorem bytes_no (g : Nat) (A : Option Addr) (c : Nat) (xs : List Int) (at_ : Nat) (n : Int) (w : World) (hT : Tape w g A c xs at_) (h : wantN xs at_ n ≠ 0) :
    Calls Try.prog 39 #[.pointer (some ⟨g, 0, none⟩), .int .i64 n] w fun e w' => e = stops (wantN xs at_ n) ∧ Drawn0 w w' := by
  have HN := Aside0.mk (need_no g A c xs at_ n w hT h)
  clear h hT
  go_enter Try.func39, Try.ntmps39
  go_wp2_with fail
  refine HN.out.mono ?_
  rintro e w1 ⟨rfl, hD⟩
  exact ⟨rfl, rfl, hD⟩
end Go.Proofs.Ytcmibbhfocfccaa.Cur
