/- CurA: CurW1, CurW2, CurW3, CurW4, CurW5. -/
import Derived.Test.YtcmibbhfocfccaaProg
import Derived.Test.YtcmibbhfocfccaaWMore
import Derived.Test.YtcmibbhfocfccaaWGuard
import Derived.Test.YtcmibbhfocfccaaBase
import Derived.Test.YtcmibbhfocfccaaBits
import Derived.Test.YtcmibbhfocfccaaCurQ
import Derived.Deep.RegionHeld3
import Derived.Deep.CutRange
import Derived.WalkLawsBesides
import Derived.IntWalk
import Derived.Deep.Slices
import Derived.Test.YtcmibbhfocfccaaOwn
import Derived.Deep.QuietTactic
import Derived.BigQuiet
import Derived.Deep.LoopGhost
import Derived.Test.YtcmibbhfocfccaaSegs
import Derived.Defers
import Derived.Recover
import Derived.Laws.Pointers
namespace Go.Proofs.Ytcmibbhfocfccaa.Cur
open Go.RowKit Go.Proofs.Ytcmibbhfocfccaa.Own Go.Proofs.Ytcmibbhfocfccaa.CurP Go.Proofs.Ytcmibbhfocfccaa.Mem Go.Proofs.Ytcmibbhfocfccaa.Bits Go.Proofs.Ytcmibbhfocfccaa.Help Go.Proofs.YtcmibbhfocfccaaW.PrintWords Go.Proofs.YtcmibbhfocfccaaW.PrintLast Go.Proofs.YtcmibbhfocfccaaW.PrintMore
set_option linter.unusedVariables false
set_option linter.unusedSimpArgs false
/-- Somebody gives up, and why. -/
def stopV (k : Int) : Value := .iface 73 (.agg #[.int .i64 k])
def stops (k : Int) : Ending := .panicked [{ v := stopV k, recovered := false }]
/-- A tape's block, and what stands behind the tape in it. -/
def tapeC (A : Option Addr) (n c : Nat) (at_ : Nat) (more : List Value) : Array Value := (.slice A n c :: .int .i64 (at_ : Int) :: more).toArray
/-- A tape at the head of a block of type t. -/
structure TapeG (t : Nat) (more : List Value) (W : World) (g : Nat) (A : Option Addr) (c : Nat) (xs : List Int) (at_ : Nat) : Prop where
  b : W.heap[g]? = some (.cells (tapeC A xs.length c at_ more) t (0, 0))
  r : Kd.C (Kd.int .u8) W A xs.length xs
  le : at_ ≤ xs.length
  cap : xs.length ≤ c
  c63 : xs.length ≤ 9223372036854775807
abbrev Tape (W : World) (g : Nat) (A : Option Addr) (c : Nat) (xs : List Int) (at_ : Nat) : Prop := TapeG 61 [] W g A c xs at_
section
variable {t : Nat} {more : List Value} {W : World} {g : Nat} {A : Option Addr} {c : Nat} {xs : List Int} {at_ : Nat}
theorem TapeG.drew (h : TapeG t more W g A c xs at_) : TapeG t more W.drew g A c xs at_ := ⟨blk_drew h.b, Kd.C_drew h.r, h.le, h.cap, h.c63⟩
theorem TapeG.cells (h : TapeG t more W g A c xs at_) : W.cell? ⟨g, 0, none⟩ = some (.slice A xs.length c) ∧ W.cell? ⟨g, 1, none⟩ = some (.int .i64 (at_ : Int)) := ⟨(blk_cell h.b 0).trans (by simp [tapeC]), (blk_cell h.b 1).trans (by simp [tapeC])⟩
end
theorem C_zero (w : World) (A : Option Addr) : Kd.C (Kd.int .u8) w A 0 [] :=
  Kd.C_of_reads (d := (0 : Int)) (h1 := fun _ => rfl) ⟨rfl, by simp, fun h => absurd h (by simp)⟩
/-- A part of bytes that are read. -/
theorem C_cut {w : World} {A : Option Addr} {xs : List Int} (h : Kd.C (Kd.int .u8) w A xs.length xs) (k n : Nat) (hn : k + n ≤ xs.length) : Kd.C (Kd.int .u8) w (A.map (·.add k)) n ((xs.drop k).take n) := by
  have hl : ((xs.drop k).take n).length = n := by simp; omega
  rcases Nat.eq_zero_or_pos n with rfl | hp
  · rw [List.take_zero]; exact C_zero _ _
  · obtain ⟨h1, h2, h3⟩ := Kd.reads_of_C (d := (0 : Int)) h
    obtain ⟨ad, rfl, hc⟩ := h3 (by omega)
    refine Kd.C_of_reads (d := (0 : Int)) (h1 := fun _ => rfl) ⟨by rw [hl], by omega, fun _ => ⟨_, rfl, fun j hj => ?_⟩⟩
    have := hc (k + j) (by omega)
    rw [Deep.add_add, this]
    simp [List.getD_eq_getElem?_getD, List.getElem?_take, hj]
theorem need_neg (g : Nat) (n : Int) (w : World) (hn : n < 0) : Calls Try.prog 42 #[.pointer (some ⟨g, 0, none⟩), .int .i64 n] w fun e w' => e = stops 1 ∧ Drawn0 w w' := by
  have d : decide (n < 0) = true := by simpa using hn
  go_enter Try.func42, Try.ntmps42
  go_wp2_with fail
  exact ⟨rfl, rfl, Drawn0.refl _⟩
theorem need_many (g : Nat) (A : Option Addr) (c : Nat) (xs : List Int) (at_ : Nat) (n : Int) (w : World) {t : Nat} {more : List Value} (hT : TapeG t more w g A c xs at_) (hn : 0 ≤ n) (hm : (xs.length : Int) - at_ < n) :
    Calls Try.prog 42 #[.pointer (some ⟨g, 0, none⟩), .int .i64 n] w fun e w' => e = stops 10 ∧ Drawn0 w w' := by
  obtain ⟨c0, c1⟩ := hT.cells
  have hle := hT.le
  have hcap := hT.cap
  have hc63 := hT.c63
  have d : decide (n < 0) = false := by simpa using hn
  have d2 : decide ((xs.length : Int) - at_ < n) = true := by simpa using hm
  have hw : IntKind.i64.wrap ((xs.length : Int) - at_) = (xs.length : Int) - at_ := IntWalk.i64_in _ (by omega)
  clear hT
  go_enter Try.func42, Try.ntmps42
  go_wp2_with fail
  go_quiet (fail)
  go_wp2_with fail
  exact ⟨rfl, rfl, ⟨_, rfl⟩⟩
theorem need_yes (g : Nat) (A : Option Addr) (c : Nat) (xs : List Int) (at_ n : Nat) (w : World) {t : Nat} {more : List Value} (hT : TapeG t more w g A c xs at_) (hn : at_ + n ≤ xs.length) :
    Calls Try.prog 42 #[.pointer (some ⟨g, 0, none⟩), .int .i64 (n : Int)] w fun e w' => ∃ B d, e = .returned (.slice B n d) ∧ n ≤ d ∧ Kd.C (Kd.int .u8) w B n ((xs.drop at_).take n) ∧ Drawn0 w w' := by
  obtain ⟨c0, c1⟩ := hT.cells
  have hle := hT.le
  have hcap := hT.cap
  have hc63 := hT.c63
  have d : decide ((n : Int) < 0) = false := by simp
  have d2 : decide ((xs.length : Int) - at_ < (n : Int)) = false := by simp; omega
  have hw : IntKind.i64.wrap ((xs.length : Int) - at_) = (xs.length : Int) - at_ := IntWalk.i64_in _ (by omega)
  have hw2 : IntKind.i64.wrap ((at_ : Int) + n) = (at_ : Int) + n := IntWalk.i64_in _ (by omega)
  have h3 : (at_ : Int) ≤ (at_ : Int) + n := by omega
  have h4 : (at_ : Int) + n ≤ (c : Int) := by omega
  have HR := Aside0.mk hT.r
  have HLE := Aside0.mk (And.intro hn hT.cap)
  clear hT
  go_enter Try.func42, Try.ntmps42
  go_wp2_with fail
  go_quiet (fail)
  go_wp2_with fail
  go_quiet (fail)
  go_wp2_with fail
  all_goals go_ret
  · exact ⟨_, _, rfl, by have := HLE.out; omega, by
      obtain rfl : n = 0 := by have := HLE.out; omega
      rw [List.take_zero]; exact C_zero _ _, ⟨_, rfl⟩⟩
  · exact ⟨_, _, rfl, by have := HLE.out; omega, C_cut HR.out at_ n HLE.out.1, ⟨_, rfl⟩⟩
end Go.Proofs.Ytcmibbhfocfccaa.Cur
namespace Go.Proofs.Ytcmibbhfocfccaa.Cur
open Go.RowKit Go.Proofs.Ytcmibbhfocfccaa.Own Go.Proofs.Ytcmibbhfocfccaa.CurP Go.Proofs.Ytcmibbhfocfccaa.Mem Go.Proofs.Ytcmibbhfocfccaa.Bits Go.Proofs.Ytcmibbhfocfccaa.Help Go.Proofs.YtcmibbhfocfccaaW.PrintWords Go.Proofs.YtcmibbhfocfccaaW.PrintLast Go.Proofs.YtcmibbhfocfccaaW.PrintMore
set_option linter.unusedVariables false
set_option linter.unusedSimpArgs false
theorem C_setCell {W : World} {A p : Option Addr} {q : Addr} {n : Nat} {xs : List Int} {y v : Value} (hc : W.cell? q = some y) (hy : ∀ x, y ≠ .int .u8 x) (h : Kd.C (Kd.int .u8) W A n xs) : Kd.C (Kd.int .u8) (W.setCell q v) A n xs := by
  obtain ⟨h1, h2, h3⟩ := Kd.reads_of_C (d := (0 : Int)) h
  refine Kd.C_of_reads (d := (0 : Int)) (h1 := fun _ => rfl) ⟨h1, h2, fun hp => ?_⟩
  obtain ⟨ad, rfl, hcl⟩ := h3 hp
  refine ⟨ad, rfl, fun j hj => ?_⟩
  have hj1 := hcl j hj
  rw [World.cell?_setCell_other]
  · exact hj1
  · intro e
    rw [← e, hc] at hj1
    exact hy _ (Option.some.inj hj1)
theorem TapeG.set {t : Nat} {more : List Value} {W : World} {g : Nat} {A : Option Addr} {c : Nat} {xs : List Int} {at_ : Nat} (h : TapeG t more W g A c xs at_) (k : Nat) (hk : k ≤ xs.length) :
    TapeG t more (W.setCell ⟨g, 1, none⟩ (.int .i64 (k : Int))) g A c xs k ∧ W.grownBy (W.setCell ⟨g, 1, none⟩ (.int .i64 (k : Int))) (some g) :=
  ⟨⟨by rw [blk_set h.b]; simp [tapeC], C_setCell (p := none) h.cells.2 (by simp) h.r, hk, h.cap, h.c63⟩, setCells_grown W g [.int .i64 (k : Int)] 1⟩
theorem TapeG.drewN {t : Nat} {more : List Value} {W : World} {g : Nat} {A : Option Addr} {c : Nat} {xs : List Int} {at_ : Nat} (h : TapeG t more W g A c xs at_) (n : Nat) : TapeG t more (W.drewN n) g A c xs at_ := ⟨blk_drewN h.b n, Kd.C_drewN h.r n, h.le, h.cap, h.c63⟩
theorem grown_drewN (w : World) (n : Nat) (row : Option Nat) : w.grownBy (w.drewN n) row := ⟨rfl, rfl, rfl, Nat.le_refl _, fun _ _ _ => rfl⟩
theorem grown0_any {w w1 : World} (h : w.grownBy w1 none) (row : Option Nat) : w.grownBy w1 row := ⟨h.os, h.tape, h.output, h.size, fun k hk _ => h.block k hk (by simp)⟩
theorem below_grown0 {w w1 : World} (h : w.grownBy w1 none) : Below w.heap.size w w1 := ⟨h.os, h.tape, h.output, h.size, fun k hk => h.block k hk (by simp)⟩
theorem TapeG.below {t : Nat} {more : List Value} {W W1 : World} {g : Nat} {A : Option Addr} {c : Nat} {xs : List Int} {at_ : Nat} (h : TapeG t more W g A c xs at_) (hB : Below W.heap.size W W1) : TapeG t more W1 g A c xs at_ := ⟨blk_below h.b hB, Kd.C_below h.r hB, h.le, h.cap, h.c63⟩
theorem TapeG.grown0 {t : Nat} {more : List Value} {W W1 : World} {g : Nat} {A : Option Addr} {c : Nat} {xs : List Int} {at_ : Nat} (h : TapeG t more W g A c xs at_) (hg : W.grownBy W1 none) : TapeG t more W1 g A c xs at_ := h.below (below_grown0 hg)
theorem need_no (g : Nat) (A : Option Addr) (c : Nat) (xs : List Int) (at_ : Nat) (n : Int) (w : World) {t : Nat} {more : List Value} (hT : TapeG t more w g A c xs at_) (h : wantN xs at_ n ≠ 0) :
    Calls Try.prog 42 #[.pointer (some ⟨g, 0, none⟩), .int .i64 n] w fun e w' => e = stops (wantN xs at_ n) ∧ Drawn0 w w' := by
  unfold wantN at h ⊢
  by_cases h1 : n < 0
  · rw [if_pos h1]; exact need_neg g n w h1
  · rw [if_neg h1] at h ⊢
    split at h
    · rename_i h2; rw [if_pos h2]; exact need_many g A c xs at_ n w hT (by omega) (by omega)
    · exact absurd rfl h
theorem take_snoc {l : List Int} {i : Nat} (h : i < l.length) : l.take (i + 1) = l.take i ++ [l.getD i 0] := by
  rw [List.take_succ_eq_append_getElem h, List.getD_eq_getElem?_getD, List.getElem?_eq_getElem h]; rfl
set_option maxHeartbeats 2000000 in
theorem number_yes (g : Nat) (A : Option Addr) (c : Nat) (xs : List Int) (at_ s : Nat) (w : World) {t : Nat} {more : List Value} (hT : TapeG t more w g A c xs at_) (hx : AllB xs) (h1 : 1 ≤ s) (h8 : s ≤ 8) (hn : at_ + s ≤ xs.length) :
    Calls Try.prog 35 #[.pointer (some ⟨g, 0, none⟩), .int .i64 (s : Int)] w fun e w' => e = .returned (.int .u64 (numL ((xs.drop at_).take s))) ∧ TapeG t more w' g A c xs (at_ + s) ∧ w.grownBy w' (some g) := by
  have HT := Aside0.mk hT
  have d1 : decide ((s : Int) < 1) = false := by simp; omega
  have d8 : decide (8 < (s : Int)) = false := by simp; omega
  have HB := Aside0.mk ((hx.drop at_).take s)
  have hlen : ((xs.drop at_).take s).length = s := by simp; omega
  have hc63 := hT.c63
  have hcap := hT.cap
  have ha63 : (at_ : Int) + (s : Int) ≤ 9223372036854775807 := by omega
  have H := Aside0.mk (And.intro hlen hn)
  clear hT hx hlen
  generalize hys : (xs.drop at_).take s = ys at *
  go_enter Try.func35, Try.ntmps35
  go_wp2_with fail
  refine (need_yes g A c xs at_ s _ HT.out H.out.2).mono ?_
  rintro e w1 ⟨B, d, rfl, hd, hC, ⟨k, rfl⟩⟩
  rw [hys] at hC
  have HT1 := Aside0.mk (HT.out.drewN k)
  have HC := Aside0.mk (Kd.C_drewN hC k)
  have HG := Aside0.mk (grown_drewN w k (some g))
  clear HT hC hys
  generalize w.drewN k = W at *
  go_wp2_with fail
  go_loop [5, 7, 20] (fun v5 v7 v20 => ∃ i : Nat, i ≤ s ∧ v20 = .int .i64 (i : Int) ∧ v5 = .int .u64 (numL (ys.take i))) (fun _ _ v20 => s - (intOf v20).toNat)
  case atStart => exact ⟨0, Nat.zero_le _, rfl, rfl⟩
  case round =>
    obtain ⟨i, hi, rfl, rfl⟩ := hrel
    by_cases hlt : i < s
    · have hl : decide ((i : Int) < (s : Int)) = true := by simp; omega
      obtain ⟨ad, rfl, hcl⟩ := (Kd.reads_of_C (d := (0 : Int)) HC.out).2.2 (by omega)
      have hc := hcl i hlt
      have hil : i < ys.length := by rw [H.out.1]; exact hlt
      have hsn : numL (ys.take (i + 1)) = numL (ys.take i) * 256 + ys.getD i 0 := by rw [take_snoc hil, numL_snoc]
      have hsm := numL_small (HB.out.take i) (by simp; omega)
      have hby : 0 ≤ ys.getD i 0 ∧ ys.getD i 0 < 256 := by
        rw [List.getD_eq_getElem?_getD, List.getElem?_eq_getElem hil]; exact HB.out _ (List.getElem_mem hil)
      have hor := num_step hsm.1 hsm.2 hby.1 hby.2
      rw [← hsn] at hor
      have hwc : IntKind.u64.wrap (ys.getD i 0) = ys.getD i 0 := wrap_u64_id (by omega) (by omega)
      have HH := Aside0.mk (And.intro hsn (And.intro hsm hby))
      clear hcl hsn hsm hby
      generalize hn2 : numL (ys.take (i + 1)) = n2 at *
      have HN2 := Aside0.mk hn2
      clear hn2
      generalize numL (ys.take i) = n1 at *
      generalize ys.getD i 0 = x at *
      go_wp2_with fail
      exact ⟨⟨i + 1, hlt, by first | rfl | go_num, by rw [HN2.out]⟩, by simp [intOf]; omega⟩
    · obtain rfl : i = s := by omega
      have hl : decide ((i : Int) < (i : Int)) = false := by simp
      obtain ⟨c0, c1⟩ := HT1.out.cells
      have f1 : W.frozen? ⟨g, 1, none⟩ = false := blk_frozen HT1.out.b _
      have hn1 : ((at_ : Int) + (i : Int)) = ((at_ + i : Nat) : Int) := by omega
      have hw : IntKind.i64.wrap (((at_ : Int)) + (i : Int)) = (at_ : Int) + (i : Int) := IntWalk.i64_in _ (by omega)
      have HTS := Aside0.mk (HT1.out.set (at_ + i) H.out.2)
      rw [← hn1] at HTS
      clear hn1
      go_wp2_with fail
      go_ret
      refine ⟨?_, HTS.out.1, HG.out.trans HTS.out.2⟩
      rw [List.take_of_length_le (by rw [H.out.1]; exact Nat.le_refl _)]; rfl
theorem number_bad (g : Nat) (s : Int) (w : World) (h : s < 1 ∨ 8 < s) :
    Calls Try.prog 35 #[.pointer (some ⟨g, 0, none⟩), .int .i64 s] w fun e w' => e = stops 1 ∧ Drawn0 w w' := by
  by_cases h1 : s < 1
  · have d1 : decide (s < 1) = true := by simpa using h1
    clear h
    go_enter Try.func35, Try.ntmps35
    go_wp2_with fail
    exact ⟨rfl, rfl, Drawn0.refl _⟩
  · have d1 : decide (s < 1) = false := by simpa using h1
    have d2 : decide (8 < s) = true := by simp; omega
    clear h
    go_enter Try.func35, Try.ntmps35
    go_wp2_with fail
    exact ⟨rfl, rfl, Drawn0.refl _⟩
theorem number_many (g : Nat) (A : Option Addr) (c : Nat) (xs : List Int) (at_ : Nat) (s : Int) (w : World) {t : Nat} {more : List Value} (hT : TapeG t more w g A c xs at_) (h1 : 1 ≤ s) (h8 : s ≤ 8) (hm : (xs.length : Int) - at_ < s) :
    Calls Try.prog 35 #[.pointer (some ⟨g, 0, none⟩), .int .i64 s] w fun e w' => e = stops 10 ∧ Drawn0 w w' := by
  have HT := Aside0.mk hT
  have d1 : decide (s < 1) = false := by simp; omega
  have d8 : decide (8 < s) = false := by simp; omega
  have H := Aside0.mk (And.intro h1 hm)
  clear hT hm
  go_enter Try.func35, Try.ntmps35
  go_wp2_with fail
  refine (need_many g A c xs at_ s _ HT.out (by have := H.out.1; omega) H.out.2).mono ?_
  rintro e w1 ⟨rfl, hD⟩
  exact ⟨rfl, rfl, hD⟩
set_option maxHeartbeats 2000000 in
theorem bytes_yes (g : Nat) (A : Option Addr) (c : Nat) (xs : List Int) (at_ n : Nat) (w : World) {t : Nat} {more : List Value} (hT : TapeG t more w g A c xs at_) (hn : at_ + n ≤ xs.length) (hb : n ≤ 140737488351232) (htt : t ≠ 5) :
    Calls Try.prog 39 #[.pointer (some ⟨g, 0, none⟩), .int .i64 (n : Int)] w fun e w' => ∃ v, e = .returned v ∧ Owns w' w.heap.size v ((xs.drop at_).take n) ∧ TapeG t more w' g A c xs (at_ + n) ∧ w.grownBy w' (some g) := by
  have HT := Aside0.mk hT
  have hlen : ((xs.drop at_).take n).length = n := by simp; omega
  have hc63 := hT.c63
  have hcap := hT.cap
  have ha63 : (at_ : Int) + (n : Int) ≤ 9223372036854775807 := by omega
  have H := Aside0.mk (And.intro hlen (And.intro hn hb))
  clear hT hlen hb
  generalize hys : (xs.drop at_).take n = ys at *
  go_enter Try.func39, Try.ntmps39
  go_wp2_with fail
  refine (need_yes g A c xs at_ n _ HT.out H.out.2.1).mono ?_
  rintro e w1 ⟨B, d, rfl, hd, hC, ⟨k, rfl⟩⟩
  rw [hys] at hC
  have HT1 := Aside0.mk (HT.out.drewN k)
  have HG := Aside0.mk (grown_drewN w k (some g))
  have hC1 : Kd.C (Kd.int .u8) (w.drewN k) B ys.length ys := by rw [H.out.1]; exact Kd.C_drewN hC k
  have hsz : (w.drewN k).heap.size = w.heap.size := rfl
  obtain ⟨v1, w2, hrun, hO, hg, hown⟩ := append_bytes (ty := 22) (c := d) (base := w.heap.size) (Owns.nil (w.drewN k) w.heap.size) hC1 (by have := H.out; simp; omega) (Nat.le_refl _)
  rw [List.nil_append] at hO
  rw [H.out.1] at hrun
  have hg0 : (w.drewN k).grownBy w2 none := hg
  have hT2 : TapeG t more w2 g A c xs at_ := HT1.out.grown0 hg0
  obtain ⟨c0, c1⟩ := hT2.cells
  have f1 : w2.frozen? ⟨g, 1, none⟩ = false := blk_frozen hT2.b _
  have hw : IntKind.i64.wrap (((at_ : Int)) + (n : Int)) = (at_ : Int) + (n : Int) := IntWalk.i64_in _ (by omega)
  have HTS := Aside0.mk (hT2.set (at_ + n) H.out.2.1)
  have hO2 : Owns (w2.setCell ⟨g, 1, none⟩ (.int .i64 ((at_ + n : Nat) : Int))) w.heap.size v1 ys := hO.kept (HTS.out.2) (by
    rcases hv : v1.ownBlock with _ | q
    · exact .inl rfl
    · refine .inr (fun e => ?_)
      have := hO.ne hT2.b htt
      rw [hv] at this
      exact this (e ▸ rfl))
  have HO := Aside0.mk hO2
  have HGG := Aside0.mk (HG.out.trans (grown0_any hg0 (some g)))
  rw [show ((at_ + n : Nat) : Int) = (at_ : Int) + (n : Int) by omega] at HTS HO
  have HRUN := Aside0.mk hrun
  clear HT HT1 HG hC hC1 hrun hO hO2 hg hg0 hT2 hown hsz hys
  go_wp2_with ((with_reducible refine gate_dst (N := 9) rfl ?_); refine Kd.event_run rfl (exec_append rfl rfl rfl HRUN.out) ?_)
  go_ret
  exact ⟨v1, rfl, HO.out, HTS.out.1, HGG.out.trans HTS.out.2⟩
theorem bytes_no (g : Nat) (A : Option Addr) (c : Nat) (xs : List Int) (at_ : Nat) (n : Int) (w : World) {t : Nat} {more : List Value} (hT : TapeG t more w g A c xs at_) (h : wantN xs at_ n ≠ 0) :
    Calls Try.prog 39 #[.pointer (some ⟨g, 0, none⟩), .int .i64 n] w fun e w' => e = stops (wantN xs at_ n) ∧ Drawn0 w w' := by
  have HN := Aside0.mk (need_no g A c xs at_ n w hT h)
  clear h hT
  go_enter Try.func39, Try.ntmps39
  go_wp2_with fail
  refine HN.out.mono ?_
  rintro e w1 ⟨rfl, hD⟩
  exact ⟨rfl, rfl, hD⟩
end Go.Proofs.Ytcmibbhfocfccaa.Cur
namespace Go.Proofs.Ytcmibbhfocfccaa.Cur
open Go.RowKit Go.Proofs.Ytcmibbhfocfccaa.Own Go.Proofs.Ytcmibbhfocfccaa.CurP Go.Proofs.Ytcmibbhfocfccaa.Mem Go.Proofs.Ytcmibbhfocfccaa.Bits Go.Proofs.Ytcmibbhfocfccaa.Help Go.Proofs.YtcmibbhfocfccaaW.PrintWords Go.Proofs.YtcmibbhfocfccaaW.PrintLast Go.Proofs.YtcmibbhfocfccaaW.PrintMore
set_option linter.unusedVariables false
set_option linter.unusedSimpArgs false
theorem zero_no (g : Nat) (A : Option Addr) (c : Nat) (xs : List Int) (at_ : Nat) (n : Int) (w : World) {t : Nat} {more : List Value} (hT : TapeG t more w g A c xs at_) (h : wantN xs at_ n ≠ 0) :
    Calls Try.prog 40 #[.pointer (some ⟨g, 0, none⟩), .int .i64 n] w fun e w' => e = stops (wantN xs at_ n) ∧ Drawn0 w w' := by
  have HN := Aside0.mk (need_no g A c xs at_ n w hT h)
  clear h hT
  go_enter Try.func40, Try.ntmps40
  go_wp2_with fail
  refine HN.out.mono ?_
  rintro e w1 ⟨rfl, hD⟩
  exact ⟨rfl, rfl, hD⟩
/-- What zero comes to. -/
def ZPost (t : Nat) (more : List Value) (g : Nat) (A : Option Addr) (c : Nat) (xs : List Int) (at_ n : Nat) (w : World) (e : Ending) (w' : World) : Prop :=
  if ((xs.drop at_).take n).all (· == 0) then e = .returned (.tuple #[]) ∧ TapeG t more w' g A c xs (at_ + n) ∧ w.grownBy w' (some g) else e = stops 11 ∧ Drawn0 w w'
set_option maxHeartbeats 2000000 in
theorem zero_yes (g : Nat) (A : Option Addr) (c : Nat) (xs : List Int) (at_ n : Nat) (w : World) {t : Nat} {more : List Value} (hT : TapeG t more w g A c xs at_) (hn : at_ + n ≤ xs.length) :
    Calls Try.prog 40 #[.pointer (some ⟨g, 0, none⟩), .int .i64 (n : Int)] w (ZPost t more g A c xs at_ n w) := by
  have HT := Aside0.mk hT
  have hlen : ((xs.drop at_).take n).length = n := by simp; omega
  have hc63 := hT.c63
  have hcap := hT.cap
  have ha63 : (at_ : Int) + (n : Int) ≤ 9223372036854775807 := by omega
  have H := Aside0.mk (And.intro hlen hn)
  have HZ : Aside0 (∀ e w', ZPost t more g A c xs at_ n w e w' = if ((xs.drop at_).take n).all (· == 0) then e = .returned (.tuple #[]) ∧ TapeG t more w' g A c xs (at_ + n) ∧ w.grownBy w' (some g) else e = stops 11 ∧ Drawn0 w w') := ⟨fun _ _ => rfl⟩
  clear hT hlen
  generalize hys : (xs.drop at_).take n = ys at *
  go_enter Try.func40, Try.ntmps40
  go_wp2_with fail
  refine (need_yes g A c xs at_ n _ HT.out H.out.2).mono ?_
  rintro e w1 ⟨B, d, rfl, hd, hC, ⟨k, rfl⟩⟩
  rw [hys] at hC
  have HT1 := Aside0.mk (HT.out.drewN k)
  have HC := Aside0.mk (Kd.C_drewN hC k)
  have HG := Aside0.mk (grown_drewN w k (some g))
  have HD : Aside0 (Drawn0 w (w.drewN k)) := ⟨⟨k, rfl⟩⟩
  clear HT hC hys
  generalize w.drewN k = W at *
  go_wp2_with fail
  go_loop [5, 10] (fun v5 v10 => ∃ i : Nat, i ≤ n ∧ v10 = .int .i64 (i : Int) ∧ Aside0 ((ys.take i).all (· == 0) = true)) (fun _ v10 => n - (intOf v10).toNat)
  case atStart => exact ⟨0, Nat.zero_le _, rfl, ⟨rfl⟩⟩
  case round =>
    obtain ⟨i, hi, rfl, HA⟩ := hrel
    by_cases hlt : i < n
    · have hl : decide ((i : Int) < (n : Int)) = true := by simp; omega
      obtain ⟨ad, rfl, hcl⟩ := (Kd.reads_of_C (d := (0 : Int)) HC.out).2.2 (by omega)
      have hc := hcl i hlt
      have hil : i < ys.length := by rw [H.out.1]; exact hlt
      have HTK := Aside0.mk (take_snoc hil)
      by_cases hx : ys.getD i 0 = 0
      · have hx0 : (ys.getD i 0 != 0) = false := by rw [hx]; rfl
        have HA2 : Aside0 ((ys.take (i + 1)).all (· == 0) = true) := ⟨by rw [HTK.out, List.all_append, HA.out, hx]; rfl⟩
        clear hcl hx HTK
        generalize ys.getD i 0 = x at *
        go_wp2_with fail
        exact ⟨⟨i + 1, hlt, by first | rfl | go_num, HA2⟩, by simp [intOf]; omega⟩
      · have hx0 : (ys.getD i 0 != 0) = true := by simpa using hx
        have HNO : Aside0 (ys.all (· == 0) = false) := ⟨by
          rw [Bool.eq_false_iff]
          intro h
          rw [List.all_eq_true] at h
          have := h _ (List.getElem_mem hil)
          rw [List.getD_eq_getElem?_getD, List.getElem?_eq_getElem hil] at hx
          exact hx (by simpa using this)⟩
        clear hcl hx HTK
        generalize ys.getD i 0 = x at *
        go_wp2_with fail
        refine ⟨rfl, ?_⟩
        rw [HZ.out, HNO.out]
        exact ⟨rfl, HD.out⟩
    · obtain rfl : i = n := by omega
      have hl : decide ((i : Int) < (i : Int)) = false := by simp
      obtain ⟨c0, c1⟩ := HT1.out.cells
      have f1 : W.frozen? ⟨g, 1, none⟩ = false := blk_frozen HT1.out.b _
      have hw : IntKind.i64.wrap (((at_ : Int)) + (i : Int)) = (at_ : Int) + (i : Int) := IntWalk.i64_in _ (by omega)
      have HTS := Aside0.mk (HT1.out.set (at_ + i) H.out.2)
      rw [show ((at_ + i : Nat) : Int) = (at_ : Int) + (i : Int) by omega] at HTS
      have HAL : Aside0 (ys.all (· == 0) = true) := ⟨by have := HA.out; rwa [List.take_of_length_le (by rw [H.out.1]; exact Nat.le_refl _)] at this⟩
      go_wp2_with fail
      refine bodyPost_end (results_none rfl _ _ _) rfl ?_
      rw [HZ.out, HAL.out]
      exact ⟨rfl, HTS.out.1, HG.out.trans HTS.out.2⟩
end Go.Proofs.Ytcmibbhfocfccaa.Cur
namespace Go.Proofs.Ytcmibbhfocfccaa.Cur
open Go.RowKit Go.Proofs.Ytcmibbhfocfccaa.Segs Go.Proofs.Ytcmibbhfocfccaa.Own Go.Proofs.Ytcmibbhfocfccaa.CurP Go.Proofs.Ytcmibbhfocfccaa.Mem Go.Proofs.Ytcmibbhfocfccaa.Bits Go.Proofs.Ytcmibbhfocfccaa.Help Go.Proofs.YtcmibbhfocfccaaW.PrintWords Go.Proofs.YtcmibbhfocfccaaW.PrintLast Go.Proofs.YtcmibbhfocfccaaW.PrintMore
set_option linter.unusedVariables false
set_option linter.unusedSimpArgs false
/-- A block without bytes. -/
def NoB (cs : Array Value) : Prop := ∀ (j : Nat) (x : Int), cs[j]? ≠ some (.int .u8 x)
theorem C_grown_ne {W W2 : World} {q : Nat} {cs : Array Value} {t : TypeId} {A : Option Addr} {n : Nat} {xs : List Int} (hb : W.heap[q]? = some (.cells cs t (0, 0))) (hn : NoB cs) (hg : W.grownBy W2 (some q)) (h : Kd.C (Kd.int .u8) W A n xs) : Kd.C (Kd.int .u8) W2 A n xs := by
  obtain ⟨h1, h2, h3⟩ := Kd.reads_of_C (d := (0 : Int)) h
  refine Kd.C_of_reads (d := (0 : Int)) (h1 := fun _ => rfl) ⟨h1, h2, fun hp => ?_⟩
  obtain ⟨ad, rfl, hcl⟩ := h3 hp
  refine ⟨ad, rfl, fun j hj => ?_⟩
  have hj1 := hcl j hj
  refine hg.cell hj1 ?_
  intro e
  have e : (ad.add j).block = q := by simpa using e
  have := hj1
  unfold World.cell? at this
  rw [e, hb] at this
  simp only at this
  split at this
  · cases this
  · exact hn _ _ this
theorem noB2 {x y : Value} (hx : ∀ n, x ≠ .int .u8 n) (hy : ∀ n, y ≠ .int .u8 n) : NoB #[x, y] := by
  intro j n h
  match j with
  | 0 => exact hx n (by simpa using h)
  | 1 => exact hy n (by simpa using h)
  | j + 2 => simp at h
theorem TapeG.grown_ne {tt : Nat} {more : List Value} {W W2 : World} {q g : Nat} {cs : Array Value} {t : TypeId} {A : Option Addr} {c : Nat} {xs : List Int} {at_ : Nat} (h : TapeG tt more W g A c xs at_) (hb : W.heap[q]? = some (.cells cs t (0, 0))) (hn : NoB cs) (hq : g ≠ q) (hg : W.grownBy W2 (some q)) : TapeG tt more W2 g A c xs at_ :=
  ⟨blk_grown h.b hg (by simpa using hq), C_grown_ne hb hn hg h.r, h.le, h.cap, h.c63⟩
theorem infoV : (Try.prog.info? 40).map (·.size) = some 2 := by kernel_rfl
/-- A Val stored over another one. -/
theorem val_over {W : World} {q : Nat} {x y x' y' : Value} (hb : W.heap[q]? = some (.cells #[x, y] 40 (0, 0))) (hx : x'.oneCell' = true) (hy : y'.oneCell' = true) :
    ∃ W1, (storeVar 40 ⟨q, 0, none⟩ (.agg #[x', y'])).run Try.prog W = .ok () W1 ∧ W1.heap[q]? = some (.cells #[x', y'] 40 (0, 0)) ∧ W.grownBy W1 (some q) := by
  have h := seg_over (P := Try.prog) (ty := 40) (segs := [[x], [y]]) (segs' := [[x'], [y']]) hb rfl infoV rfl (by simp [hx, hy])
  exact ⟨_, h, setRow_heap _ _ _ _ _ _ hb, ⟨rfl, rfl, rfl, by simp, fun k _ hk => setRow_other W q k _ (fun e => hk (by simp [e]))⟩⟩
/-- What a piece comes to. -/
def PPost (g : Nat) (A : Option Addr) (c : Nat) (xs : List Int) (at_ : Nat) (k s : Int) (w : World) (e : Ending) (w' : World) : Prop :=
  if (pieceR xs at_ k s).1 = 0 then ∃ v, e = .returned (.agg #[.int .u64 (pieceR xs at_ k s).2.1, v]) ∧ Owns w' w.heap.size v (pieceR xs at_ k s).2.2.1 ∧ Tape w' g A c xs (pieceR xs at_ k s).2.2.2 ∧ w.grownBy w' (some g)
  else e = stops (pieceR xs at_ k s).1 ∧ Tape w' g A c xs at_ ∧ w.grownBy w' none
theorem PPost.yes {g : Nat} {A : Option Addr} {c : Nat} {xs : List Int} {at_ : Nat} {k s : Int} {w : World} {e : Ending} {w' : World} {N : Int} {B : List Int} {m : Nat} {v : Value} (hr : pieceR xs at_ k s = (0, N, B, m)) (he : e = .returned (.agg #[.int .u64 N, v])) (hO : Owns w' w.heap.size v B) (hT : Tape w' g A c xs m) (hg : w.grownBy w' (some g)) : PPost g A c xs at_ k s w e w' := by
  unfold PPost; rw [hr, if_pos rfl]; exact ⟨v, he, hO, hT, hg⟩
theorem PPost.no {g : Nat} {A : Option Addr} {c : Nat} {xs : List Int} {at_ : Nat} {k s : Int} {w : World} {e : Ending} {w' : World} {E : Int} (hr : (pieceR xs at_ k s).1 = E) (h0 : E ≠ 0) (he : e = stops E) (hT : Tape w' g A c xs at_) (hg : w.grownBy w' none) : PPost g A c xs at_ k s w e w' := by
  unfold PPost; rw [if_neg (by rw [hr]; exact h0), hr]; exact ⟨he, hT, hg⟩
theorem wantN_zero {xs : List Int} {at_ : Nat} {s : Int} (h : wantN xs at_ s = 0) : ∃ n : Nat, s = n ∧ (at_ ≤ xs.length → at_ + n ≤ xs.length) := by
  unfold wantN at h
  split at h
  · omega
  · split at h
    · omega
    · exact ⟨s.toNat, by omega, fun hl => by omega⟩
theorem grown2 {w W w1 W2 : World} {g q : Nat} (h0 : w.grownBy W (some g)) (h1 : W.grownBy w1 (some g)) (h2 : w1.grownBy W2 (some q)) (hq : w.heap.size ≤ q) : w.grownBy W2 (some g) := by
  have h := h0.trans h1
  exact ⟨h2.os.trans h.os, h2.tape.trans h.tape, h2.output.trans h.output, Nat.le_trans h.size h2.size, fun k hk hne => by
    rw [h2.block k (Nat.lt_of_lt_of_le hk h.size) (by simp; omega)]
    exact h.block k hk hne⟩
theorem results_val {fn : Func} {p : Tmp} (h : fn.results = #[.cell p 40]) (tmps : Array Value) (w : World) (q : Nat) {x y : Value} (hp : tmps.getD p undef = .pointer (some ⟨q, 0, none⟩)) (hb : w.heap[q]? = some (.cells #[x, y] 40 (0, 0))) :
    (results fn tmps).run Try.prog w = .ok (.agg #[x, y]) w :=
  results_cell_row h tmps w q _ _ (0, 0) _ hp hb Try.underlying40 rfl (by rw [infoV]; rfl)
set_option maxHeartbeats 8000000 in
theorem piece_any (g : Nat) (A : Option Addr) (c : Nat) (xs : List Int) (at_ : Nat) (k s : Int) (w : World) (hT : Tape w g A c xs at_) (hx : AllB xs) (hb : xs.length ≤ 140737488351232) (hs : -9223372036854775808 ≤ s ∧ s ≤ 9223372036854775807) :
    Calls Try.prog 25 #[.pointer (some ⟨g, 0, none⟩), .agg #[.int .i64 k, .int .i64 s]] w (PPost g A c xs at_ k s w) := by
  have hlt : g < w.heap.size := blk_lt hT.b
  have hT0 : Tape ((w.alloc (.cells #[.int .i64 k, .int .i64 s] 53)).alloc (.cells #[.int .u64 0, .slice none 0 0] 40)) g A c xs at_ := hT.below (below_alloc (below_alloc (Below.refl _ _) _) _)
  have hV : ((w.alloc (.cells #[.int .i64 k, .int .i64 s] 53)).alloc (.cells #[.int .u64 0, .slice none 0 0] 40)).heap[w.heap.size + 1]? = some (.cells #[.int .u64 0, .slice none 0 0] 40 (0, 0)) := blk_new_at (Array.size_push _).symm
  have hO : ((w.alloc (.cells #[.int .i64 k, .int .i64 s] 53)).alloc (.cells #[.int .u64 0, .slice none 0 0] 40)).heap[w.heap.size]? = some (.cells #[.int .i64 k, .int .i64 s] 53 (0, 0)) := blk_alloc (blk_new w _) _
  have hB : Below w.heap.size w ((w.alloc (.cells #[.int .i64 k, .int .i64 s] 53)).alloc (.cells #[.int .u64 0, .slice none 0 0] 40)) := below_alloc (below_alloc (Below.refl _ _) _) _
  have hsz : ((w.alloc (.cells #[.int .i64 k, .int .i64 s] 53)).alloc (.cells #[.int .u64 0, .slice none 0 0] 40)).heap.size = w.heap.size + 2 := by show ((w.heap.push _).push _).size = _; rw [Array.size_push, Array.size_push]
  go_enter Try.func25, Try.ntmps25
  go_upto_region 1 with fail
  generalize (w.alloc (.cells #[.int .i64 k, .int .i64 s] 53)).alloc (.cells #[.int .u64 0, .slice none 0 0] 40) = W at *
  have ck := blk_cell hO 0
  have cs := blk_cell hO 1
  have hg0 : w.grownBy W none := ⟨hB.os, hB.tape, hB.output, hB.size, fun k hk _ => hB.block k hk⟩
  have H := Aside0.mk (And.intro hx (And.intro hb (And.intro hs (And.intro hT0 (And.intro hV (And.intro hg0 (And.intro hlt hsz)))))))
  clear hx hb hs hT0 hV hO hB hsz hT hlt hg0
  by_cases k0 : k = 0
  · subst k0
    have q0 : ((0 : Int) == 0) = true := rfl
    by_cases hbad : s < 1 ∨ 8 < s
    · have HR : Aside0 ((pieceR xs at_ 0 s).1 = 1) := ⟨by rw [pieceR, if_pos rfl, if_pos (by omega)]⟩
      have HN := Aside0.mk (number_bad g s W hbad)
      clear hbad
      go_wp2_with fail
      refine HN.out.mono ?_
      rintro e w1 ⟨rfl, ⟨n, rfl⟩⟩
      refine ⟨rfl, PPost.no HR.out (by decide) rfl (H.out.2.2.2.1.drewN n) ?_⟩
      exact H.out.2.2.2.2.2.1.trans (grown_drewN W n none)
    · by_cases hm : (xs.length : Int) - at_ < s
      · have HR : Aside0 ((pieceR xs at_ 0 s).1 = 10) := ⟨by rw [pieceR, if_pos rfl, if_neg (by omega), if_pos (by omega)]⟩
        have HN := Aside0.mk (number_many g A c xs at_ s W H.out.2.2.2.1 (by omega) (by omega) hm)
        clear hbad hm
        go_wp2_with fail
        refine HN.out.mono ?_
        rintro e w1 ⟨rfl, ⟨n, rfl⟩⟩
        refine ⟨rfl, PPost.no HR.out (by decide) rfl (H.out.2.2.2.1.drewN n) ?_⟩
        exact H.out.2.2.2.2.2.1.trans (grown_drewN W n none)
      · obtain ⟨n, rfl⟩ : ∃ n : Nat, s = n := ⟨s.toNat, by omega⟩
        have HR : Aside0 (pieceR xs at_ 0 (n : Int) = (0, numL ((xs.drop at_).take n), [], at_ + n)) := ⟨by rw [pieceR, if_pos rfl, if_neg (by omega), if_neg (by omega)]; simp⟩
        have HN := Aside0.mk (number_yes g A c xs at_ n W H.out.2.2.2.1 H.out.1 (by omega) (by omega) (by omega))
        generalize numL ((xs.drop at_).take n) = N at *
        clear hbad hm
        go_wp2_with fail
        refine HN.out.mono ?_
        rintro e w1 ⟨rfl, hT1, hg1⟩
        have hv1 := blk_grown H.out.2.2.2.2.1 hg1 (by have := H.out.2.2.2.2.2.2; simp; omega)
        obtain ⟨W2, hst, hv2, hg2⟩ := val_over (x' := .int .u64 N) (y' := .slice none 0 0) hv1 rfl rfl
        have hT2 := hT1.grown_ne hv1 (noB2 (by simp) (by simp)) (by have := H.out.2.2.2.2.2.2; omega) hg2
        have HST := Aside0.mk hst
        have HF := Aside0.mk (And.intro hv2 (And.intro hT2 (grown2 (grown0_any H.out.2.2.2.2.2.1 (some g)) hg1 hg2 (by omega))))
        clear hT1 hg1 hv1 hst hv2 hg2 hT2 HN
        go_wp2_with ((with_reducible refine gate_store (t := 40) rfl ?_); refine event_skip rfl (exec_store rfl rfl rfl HST.out) ?_)
        exact bodyPost_ret (results_val rfl _ _ (w.heap.size + 1) rfl HF.out.1) rfl (PPost.yes HR.out rfl (Owns.nil _ _) HF.out.2.1 HF.out.2.2)
  · have q0 : (k == 0) = false := by simpa using k0
    have HK0 := Aside0.mk k0
    clear k0
    by_cases k1 : k = 1
    · subst k1
      by_cases hw : wantN xs at_ s = 0
      · obtain ⟨n, hsn, hn⟩ := wantN_zero hw
        have HR : Aside0 (pieceR xs at_ 1 s = (0, 0, (xs.drop at_).take n, at_ + n)) := ⟨by subst hsn; rw [pieceR, if_neg (by decide), if_pos rfl, if_pos hw]; simp⟩
        subst hsn
        have HN := Aside0.mk (bytes_yes g A c xs at_ n W H.out.2.2.2.1 (hn H.out.2.2.2.1.le) (by have := hn H.out.2.2.2.1.le; have := H.out.2.1; omega) (by decide))
        have hBl : ((xs.drop at_).take n).length ≤ 9223372036854775807 := by have := H.out.2.1; simp; omega
        generalize (xs.drop at_).take n = B at *
        clear hw hn
        go_wp2_with fail
        refine HN.out.mono ?_
        rintro e w1 ⟨v, rfl, hO1, hT1, hg1⟩
        obtain ⟨B1, e1, rfl, -, -⟩ := hO1.reads hBl
        have hv1 := blk_grown H.out.2.2.2.2.1 hg1 (by have := H.out.2.2.2.2.2.2; simp; omega)
        obtain ⟨W2, hst, hv2, hg2⟩ := val_over (x' := .int .u64 0) (y' := _) hv1 rfl hO1.one
        have hT2 := hT1.grown_ne hv1 (noB2 (by simp) (by simp)) (by have := H.out.2.2.2.2.2.2; omega) hg2
        have hO2 := (hO1.lower (b := w.heap.size) (by have := H.out.2.2.2.2.2.2; omega)).kept hg2 (hO1.apart hv1 (by decide))
        have HST := Aside0.mk hst
        have HF := Aside0.mk (And.intro hv2 (And.intro hT2 (And.intro (grown2 (grown0_any H.out.2.2.2.2.2.1 (some g)) hg1 hg2 (by omega)) hO2)))
        clear hT1 hg1 hv1 hst hv2 hg2 hT2 HN hO1 hO2
        go_wp2_with ((with_reducible refine gate_store (t := 40) rfl ?_); refine event_skip rfl (exec_store rfl rfl rfl HST.out) ?_)
        exact bodyPost_ret (results_val rfl _ _ (w.heap.size + 1) rfl HF.out.1) rfl (PPost.yes HR.out rfl HF.out.2.2.2 HF.out.2.1 HF.out.2.2.1)
      · have HR : Aside0 ((pieceR xs at_ 1 s).1 = wantN xs at_ s) := ⟨by rw [pieceR, if_neg (by decide), if_pos rfl, if_neg hw]⟩
        have HN := Aside0.mk (bytes_no g A c xs at_ s W H.out.2.2.2.1 hw)
        have HW := Aside0.mk hw
        clear hw
        go_wp2_with fail
        refine HN.out.mono ?_
        rintro e w1 ⟨rfl, ⟨n, rfl⟩⟩
        refine ⟨rfl, PPost.no HR.out HW.out rfl (H.out.2.2.2.1.drewN n) ?_⟩
        exact H.out.2.2.2.2.2.1.trans (grown_drewN W n none)
    · have q1 : (k == 1) = false := by simpa using k1
      have HK1 := Aside0.mk k1
      clear k1
      by_cases k2 : k = 2
      · subst k2
        by_cases hw : wantN xs at_ s = 0
        · obtain ⟨n, hsn, hn⟩ := wantN_zero hw
          have HR : Aside0 (pieceR xs at_ 2 s = (0, 0, [], at_ + n)) := ⟨by subst hsn; rw [pieceR, if_neg (by decide), if_neg (by decide), if_pos rfl, if_pos hw]; simp⟩
          subst hsn
          have HN := Aside0.mk (bytes_yes g A c xs at_ n W H.out.2.2.2.1 (hn H.out.2.2.2.1.le) (by have := hn H.out.2.2.2.1.le; have := H.out.2.1; omega) (by decide))
          generalize (xs.drop at_).take n = B at *
          clear hw hn
          go_wp2_with fail
          refine HN.out.mono ?_
          rintro e w1 ⟨v, rfl, -, hT1, hg1⟩
          have hv1 := blk_grown H.out.2.2.2.2.1 hg1 (by have := H.out.2.2.2.2.2.2; simp; omega)
          obtain ⟨W2, hst, hv2, hg2⟩ := val_over (x' := .int .u64 0) (y' := .slice none 0 0) hv1 rfl rfl
          have hT2 := hT1.grown_ne hv1 (noB2 (by simp) (by simp)) (by have := H.out.2.2.2.2.2.2; omega) hg2
          have HST := Aside0.mk hst
          have HF := Aside0.mk (And.intro hv2 (And.intro hT2 (grown2 (grown0_any H.out.2.2.2.2.2.1 (some g)) hg1 hg2 (by omega))))
          clear hT1 hg1 hv1 hst hv2 hg2 hT2 HN
          go_wp2_with ((with_reducible refine gate_store (t := 40) rfl ?_); refine event_skip rfl (exec_store rfl rfl rfl HST.out) ?_)
          exact bodyPost_ret (results_val rfl _ _ (w.heap.size + 1) rfl HF.out.1) rfl (PPost.yes HR.out rfl (Owns.nil _ _) HF.out.2.1 HF.out.2.2)
        · have HR : Aside0 ((pieceR xs at_ 2 s).1 = wantN xs at_ s) := ⟨by rw [pieceR, if_neg (by decide), if_neg (by decide), if_pos rfl, if_neg hw]⟩
          have HN := Aside0.mk (bytes_no g A c xs at_ s W H.out.2.2.2.1 hw)
          have HW := Aside0.mk hw
          clear hw
          go_wp2_with fail
          refine HN.out.mono ?_
          rintro e w1 ⟨rfl, ⟨n, rfl⟩⟩
          refine ⟨rfl, PPost.no HR.out HW.out rfl (H.out.2.2.2.1.drewN n) ?_⟩
          exact H.out.2.2.2.2.2.1.trans (grown_drewN W n none)
      · have q2 : (k == 2) = false := by simpa using k2
        have HK2 := Aside0.mk k2
        clear k2
        by_cases k3 : k = 3
        · subst k3
          by_cases hw : wantN xs at_ s = 0
          · obtain ⟨n, hsn, hn⟩ := wantN_zero hw
            subst hsn
            have HN := Aside0.mk (zero_yes g A c xs at_ n W H.out.2.2.2.1 (hn H.out.2.2.2.1.le))
            by_cases hz : ((xs.drop at_).take n).all (· == 0) = true
            · have HR : Aside0 (pieceR xs at_ 3 (n : Int) = (0, 0, [], at_ + n)) := ⟨by rw [pieceR, if_neg (by decide), if_neg (by decide), if_neg (by decide), if_pos rfl, if_pos hw]; simp only [Int.toNat_natCast]; rw [if_pos hz]⟩
              have HZ : Aside0 (∀ e w1, ZPost 61 [] g A c xs at_ n W e w1 → e = .returned (.tuple #[]) ∧ Tape w1 g A c xs (at_ + n) ∧ W.grownBy w1 (some g)) := ⟨fun e w1 h => by unfold ZPost at h; rwa [if_pos hz] at h⟩
              clear hw hn hz
              go_wp2_with fail
              refine HN.out.mono ?_
              rintro e w1 hp
              obtain ⟨rfl, hT1, hg1⟩ := HZ.out e w1 hp
              have hv1 := blk_grown H.out.2.2.2.2.1 hg1 (by have := H.out.2.2.2.2.2.2; simp; omega)
              obtain ⟨W2, hst, hv2, hg2⟩ := val_over (x' := .int .u64 0) (y' := .slice none 0 0) hv1 rfl rfl
              have hT2 := hT1.grown_ne hv1 (noB2 (by simp) (by simp)) (by have := H.out.2.2.2.2.2.2; omega) hg2
              have HST := Aside0.mk hst
              have HF := Aside0.mk (And.intro hv2 (And.intro hT2 (grown2 (grown0_any H.out.2.2.2.2.2.1 (some g)) hg1 hg2 (by omega))))
              clear hT1 hg1 hv1 hst hv2 hg2 hT2 HN hp HZ
              go_wp2_with ((with_reducible refine gate_store (t := 40) rfl ?_); refine event_skip rfl (exec_store rfl rfl rfl HST.out) ?_)
              exact bodyPost_ret (results_val rfl _ _ (w.heap.size + 1) rfl HF.out.1) rfl (PPost.yes HR.out rfl (Owns.nil _ _) HF.out.2.1 HF.out.2.2)
            · have HR : Aside0 ((pieceR xs at_ 3 (n : Int)).1 = 11) := ⟨by rw [pieceR, if_neg (by decide), if_neg (by decide), if_neg (by decide), if_pos rfl, if_pos hw]; simp only [Int.toNat_natCast]; rw [if_neg hz]⟩
              have HZ : Aside0 (∀ e w1, ZPost 61 [] g A c xs at_ n W e w1 → e = stops 11 ∧ Drawn0 W w1) := ⟨fun e w1 h => by unfold ZPost at h; rwa [if_neg hz] at h⟩
              clear hw hn hz
              go_wp2_with fail
              refine HN.out.mono ?_
              rintro e w1 hp
              obtain ⟨rfl, ⟨m, rfl⟩⟩ := HZ.out e w1 hp
              refine ⟨rfl, PPost.no HR.out (by decide) rfl (H.out.2.2.2.1.drewN m) ?_⟩
              exact H.out.2.2.2.2.2.1.trans (grown_drewN W m none)
          · have HR : Aside0 ((pieceR xs at_ 3 s).1 = wantN xs at_ s) := ⟨by rw [pieceR, if_neg (by decide), if_neg (by decide), if_neg (by decide), if_pos rfl, if_neg hw]⟩
            have HN := Aside0.mk (zero_no g A c xs at_ s W H.out.2.2.2.1 hw)
            have HW := Aside0.mk hw
            clear hw
            go_wp2_with fail
            refine HN.out.mono ?_
            rintro e w1 ⟨rfl, ⟨n, rfl⟩⟩
            refine ⟨rfl, PPost.no HR.out HW.out rfl (H.out.2.2.2.1.drewN n) ?_⟩
            exact H.out.2.2.2.2.2.1.trans (grown_drewN W n none)
        · have q3 : (k == 3) = false := by simpa using k3
          have HK3 := Aside0.mk k3
          clear k3
          by_cases k4 : k = 4
          · subst k4
            by_cases hs0 : s = 0
            · subst hs0
              have HR : Aside0 (pieceR xs at_ 4 0 = (0, 0, xs.drop at_, xs.length)) := ⟨by rw [pieceR, if_neg (by decide), if_neg (by decide), if_neg (by decide), if_neg (by decide), if_pos ⟨rfl, rfl⟩]⟩
              have hle := H.out.2.2.2.1.le
              have qs : ((0 : Int) == 0) = true := rfl
              obtain ⟨c0, c1⟩ := H.out.2.2.2.1.drew.cells
              have hsub : IntKind.i64.wrap ((xs.length : Int) - (at_ : Int)) = (xs.length : Int) - (at_ : Int) := IntWalk.i64_in _ (by have := H.out.2.1; omega)
              have HN := Aside0.mk (bytes_yes g A c xs at_ (xs.length - at_) W.drew H.out.2.2.2.1.drew (by omega) (by have := H.out.2.1; omega) (by decide))
              rw [show ((xs.length - at_ : Nat) : Int) = (xs.length : Int) - (at_ : Int) by omega] at HN
              have HTK : Aside0 ((xs.drop at_).take (xs.length - at_) = xs.drop at_) := ⟨List.take_of_length_le (by simp)⟩
              rw [HTK.out, show at_ + (xs.length - at_) = xs.length by omega] at HN
              have hBl : (xs.drop at_).length ≤ 9223372036854775807 := by have := H.out.2.1; simp; omega
              have HV := Aside0.mk (blk_drew H.out.2.2.2.2.1)
              have HG := Aside0.mk (H.out.2.2.2.2.2.1.trans (show W.grownBy W.drew none from ⟨rfl, rfl, rfl, Nat.le_refl _, fun _ _ _ => rfl⟩))
              have HS : Aside0 (g < w.heap.size ∧ W.drew.heap.size = w.heap.size + 2) := ⟨H.out.2.2.2.2.2.2⟩
              have hle2 : (at_ : Int) ≤ (xs.length : Int) := by omega
              clear HTK
              go_upto_region 14 with fail
              refine RegionF.region_F (F := (fun X => X = W.drew)) 11 (by kernel_rfl) (by kernel_rfl) rfl ?_
              simp only [List.take_succ_cons, List.take_zero, List.drop_succ_cons, List.drop_zero]
              generalize W.drew = Y at *
              apply RegionF.wpF_step
              · rfl
              · (intro X hX; subst hX; go_simp; exact RegionF.GivesF.value rfl rfl)
              refine RegionF.wpF_put (fun K' hK' => ?_)
              go_simp
              refine hK' _ ?_
              clear hK' K'
              apply RegionF.wpF_step
              · rfl
              · (intro X hX; subst hX; go_simp; exact RegionF.GivesF.value rfl rfl)
              refine RegionF.wpF_put (fun K' hK' => ?_)
              go_simp
              refine hK' _ ?_
              clear hK' K'
              apply RegionF.wpF_step
              · rfl
              · (intro X hX; subst hX; go_simp; exact RegionF.GivesF.value rfl rfl)
              refine RegionF.wpF_put (fun K' hK' => ?_)
              go_simp
              refine hK' _ ?_
              clear hK' K'
              apply RegionF.wpF_step
              · rfl
              · (intro X hX; subst hX; go_simp; exact RegionF.GivesF.value rfl rfl)
              refine RegionF.wpF_put (fun K' hK' => ?_)
              go_simp
              refine hK' _ ?_
              clear hK' K'
              apply RegionF.wpF_step
              · rfl
              · (intro X hX; subst hX; go_simp; exact RegionF.GivesF.value rfl rfl)
              refine RegionF.wpF_put (fun K' hK' => ?_)
              go_simp
              refine hK' _ ?_
              clear hK' K'
              apply RegionF.wpF_step
              · rfl
              · (intro X hX; subst hX; go_simp; exact RegionF.GivesF.value rfl rfl)
              refine RegionF.wpF_put (fun K' hK' => ?_)
              go_simp
              refine hK' _ ?_
              clear hK' K'
              apply RegionF.wpF_step
              · rfl
              · (intro X hX; subst hX; go_simp; exact RegionF.GivesF.value rfl rfl)
              refine RegionF.wpF_put (fun K' hK' => ?_)
              go_simp
              refine hK' _ ?_
              clear hK' K'
              apply RegionF.wpF_step
              · rfl
              · (intro X hX; subst hX; go_simp; exact RegionF.GivesF.value rfl rfl)
              refine RegionF.wpF_put (fun K' hK' => ?_)
              go_simp
              refine hK' _ ?_
              clear hK' K'
              apply RegionF.wpF_step
              · rfl
              · (intro X hX; subst hX; go_simp; exact RegionF.GivesF.value rfl rfl)
              refine RegionF.wpF_put (fun K' hK' => ?_)
              go_simp
              refine hK' _ ?_
              clear hK' K'
              apply RegionF.wpF_step
              · rfl
              · (intro X hX; subst hX; go_simp; exact RegionF.GivesF.value rfl rfl)
              refine RegionF.wpF_put (fun K' hK' => ?_)
              go_simp
              refine hK' _ ?_
              clear hK' K'
              apply RegionF.wpF_step
              · rfl
              · (intro X hX; subst hX; go_simp; exact RegionF.GivesF.value rfl rfl)
              refine RegionF.wpF_put (fun K' hK' => ?_)
              go_simp
              refine hK' _ ?_
              clear hK' K'
              refine RegionF.wpF_nil (fun X hX => ?_)
              subst hX
              generalize xs.drop at_ = B at *
              go_wp2_with fail
              refine HN.out.mono ?_
              rintro e w1 ⟨v, rfl, hO1, hT1, hg1⟩
              obtain ⟨B1, e1, rfl, -, -⟩ := hO1.reads hBl
              have hv1 := blk_grown HV.out hg1 (by have := HS.out; simp; omega)
              obtain ⟨W2, hst, hv2, hg2⟩ := val_over (x' := .int .u64 0) (y' := _) hv1 rfl hO1.one
              have hT2 := hT1.grown_ne hv1 (noB2 (by simp) (by simp)) (by have := HS.out; omega) hg2
              have hO2 := (hO1.lower (b := w.heap.size) (by have := HS.out; omega)).kept hg2 (hO1.apart hv1 (by decide))
              have HST := Aside0.mk hst
              have HF := Aside0.mk (And.intro hv2 (And.intro hT2 (And.intro (grown2 (grown0_any HG.out (some g)) hg1 hg2 (by omega)) hO2)))
              clear hT1 hg1 hv1 hst hv2 hg2 hT2 HN hO1 hO2
              go_wp2_with ((with_reducible refine gate_store (t := 40) rfl ?_); refine event_skip rfl (exec_store rfl rfl rfl HST.out) ?_)
              exact bodyPost_ret (results_val rfl _ _ (w.heap.size + 1) rfl HF.out.1) rfl (PPost.yes HR.out rfl HF.out.2.2.2 HF.out.2.1 HF.out.2.2.1)
            · have HR : Aside0 ((pieceR xs at_ 4 s).1 = 1) := ⟨by rw [pieceR, if_neg (by decide), if_neg (by decide), if_neg (by decide), if_neg (by decide), if_neg (fun h => hs0 h.2)]⟩
              have qs : (s == 0) = false := by simpa using hs0
              clear hs0
              go_wp2_with fail
              exact ⟨rfl, PPost.no HR.out (by decide) rfl H.out.2.2.2.1 H.out.2.2.2.2.2.1⟩
          · have q4 : (k == 4) = false := by simpa using k4
            have HR : Aside0 ((pieceR xs at_ k s).1 = 1) := ⟨by rw [pieceR, if_neg HK0.out, if_neg HK1.out, if_neg HK2.out, if_neg HK3.out, if_neg (fun h => k4 h.1)]⟩
            clear k4
            go_wp2_with fail
            exact ⟨rfl, PPost.no HR.out (by decide) rfl H.out.2.2.2.1 H.out.2.2.2.2.2.1⟩
end Go.Proofs.Ytcmibbhfocfccaa.Cur
namespace Go.Proofs.Ytcmibbhfocfccaa.Cur
open Go.RowKit Go.Proofs.Ytcmibbhfocfccaa.Segs Go.Proofs.Ytcmibbhfocfccaa.Own Go.Proofs.Ytcmibbhfocfccaa.CurP Go.Proofs.Ytcmibbhfocfccaa.Mem Go.Proofs.Ytcmibbhfocfccaa.Bits Go.Proofs.Ytcmibbhfocfccaa.Help Go.Proofs.YtcmibbhfocfccaaW.PrintWords Go.Proofs.YtcmibbhfocfccaaW.PrintLast Go.Proofs.YtcmibbhfocfccaaW.PrintMore
set_option linter.unusedVariables false
set_option linter.unusedSimpArgs false
theorem catch_idle (p : Addr) (w : World) :
    CallsD Try.prog 38 #[.pointer (some p)] .returning w fun e u' w' => e = .returned (.tuple #[]) ∧ u' = .returning ∧ w' = w := by
  refine callsD_of_wpS Try.func38 rfl fun c₀ cs hu => ?_
  apply wpS_seq
  apply wpS_region
  simp [wpOpsS, go_sem, recoverD, hu, Try.ntmps38, Exit.thenS]
  have ht : (#[Value.pointer (some p)] ++ (Array.replicate 11 undef).setIfInBounds 3 (Value.nilIface)) = #[.pointer (some p), undef, undef, undef, Value.nilIface, undef, undef, undef, undef, undef, undef, undef] := rfl
  rw [ht]
  refine wpS_of_wp ?_
  go_wp2_with fail
  cases c₀
  simp_all [bodyPostS, results, Try.results38]
theorem catch_stop (b : Nat) (k x : Int) (older : List PanicEntry) (w : World) (hb : w.heap[b]? = some (.cells #[.int .i64 x] 26 (0, 0))) :
    CallsD Try.prog 38 #[.pointer (some ⟨b, 0, none⟩)] (.panicking ({ v := stopV k, recovered := false } :: older)) w fun e u' w' =>
      e = .returned (.tuple #[]) ∧ u' = .panicking ({ v := stopV k, recovered := true } :: older) ∧ w' = (w.alloc (.cells #[.int .i64 k] 73)).setCell ⟨b, 0, none⟩ (.int .i64 k) := by
  have hc : (w.alloc (.cells #[.int .i64 k] 73)).cell? ⟨b, 0, none⟩ = some (.int .i64 x) := blk_cell (blk_alloc hb _) 0
  have hz : (w.alloc (.cells #[.int .i64 k] 73)).frozen? ⟨b, 0, none⟩ = false := blk_frozen (blk_alloc hb _) 0
  have hta : ∀ w : World, (Instr.typeAssert (.iface 73 (.agg #[.int .i64 k])) 20 73 true).run Try.prog w = .ok (.tuple #[.agg #[.int .i64 k], .bool true]) w := fun w => by kernel_rfl
  refine callsD_of_wpS Try.func38 rfl fun c₀ cs hu => ?_
  apply wpS_seq
  apply wpS_region
  simp [wpOpsS, go_sem, recoverD, hu, Try.ntmps38, Exit.thenS, stopV]
  have ht : (#[Value.pointer (some ⟨b, 0, none⟩)] ++ (Array.replicate 11 undef).setIfInBounds 3 (Value.iface 73 (.agg #[.int .i64 k]))) = #[.pointer (some ⟨b, 0, none⟩), undef, undef, undef, Value.iface 73 (.agg #[.int .i64 k]), undef, undef, undef, undef, undef, undef, undef] := rfl
  rw [ht]
  refine wpS_of_wp ?_
  go_wp2_with fail
  cases c₀
  simp_all [bodyPostS, results, Try.results38]
/-- What try comes to: R says of the world behind what was tried how it ended. -/
theorem try_any (f : FuncId) (caps : Array Value) (w : World) (R : Int → World → Prop)
    (hf : ∀ w : World, (callFunc f caps).run Try.prog w = .ok (.enter f caps) w) (hR : ∀ k W, R k W → W.heap[w.heap.size]? = some (.cells #[.int .i64 0] 26 (0, 0)))
    (h : Calls Try.prog f caps (w.alloc (.cells #[.int .i64 0] 26)) fun e W => (e = .returned (.tuple #[]) ∧ R 0 W) ∨ ∃ k, e = stops k ∧ R k W) :
    Calls Try.prog 23 #[.func (.func f) #[] caps] w fun e w' => ∃ k W, e = .returned (.int .i64 k) ∧ R k W ∧ W.grownBy w' (some w.heap.size) := by
  have hmf : ∀ (fn : Fn) (first cap : Array Value) (w : World), (Instr.makeFunc fn first cap).run Try.prog w = .ok (.func fn first cap) w := fun _ _ _ _ => rfl
  have H := Aside0.mk h
  have HR := Aside0.mk hR
  clear h hR
  go_enter_defers Try.func23, Try.ntmps23
  go_wp2_with fail
  refine H.out.mono ?_
  rintro e W (⟨rfl, hW⟩ | ⟨k, rfl, hW⟩)
  · have hb := HR.out 0 W hW
    have cb := blk_cell hb 0
    have fb := blk_frozen hb 0
    have HW := Aside0.mk (And.intro hW hb)
    clear hW hb
    go_wp2_with fail
    refine leaves_cons (f := 38) (args := #[.pointer (some ⟨w.heap.size, 0, none⟩)]) (by simp) (by simp [go_sem]) ?_
    refine (catch_idle ⟨w.heap.size, 0, none⟩ _).mono ?_
    rintro e u' w'' ⟨rfl, rfl, rfl⟩
    have hcc := blk_cell (blk_set HW.out.2 0 (.int .i64 0)) 0
    have hcc2 : (W.setCell ⟨w.heap.size, 0, none⟩ (.int .i64 0)).cell? ⟨w.heap.size, 0, none⟩ = some (.int .i64 0) := by rw [hcc]; rfl
    have hfin : ∃ W', R 0 W' ∧ W'.grownBy (W.setCell ⟨w.heap.size, 0, none⟩ (.int .i64 0)) (some w.heap.size) := ⟨W, HW.out.1, setCells_grown W w.heap.size [.int .i64 0] 0⟩
    clear hcc cb fb HW
    generalize W.setCell ⟨w.heap.size, 0, none⟩ (.int .i64 0) = Y at *
    simp [Leaves, settle, results, Try.results23, go_sem, hcc2]
    exact hfin
  · have hb := HR.out k W hW
    have HW := Aside0.mk (And.intro hW hb)
    clear hW hb
    unfold stops
    go_wp2_with fail
    refine leaves_cons (f := 38) (args := #[.pointer (some ⟨w.heap.size, 0, none⟩)]) (by simp) (by simp [go_sem]) ?_
    refine (catch_stop w.heap.size k 0 [] _ HW.out.2).mono ?_
    rintro e u' w'' ⟨rfl, rfl, rfl⟩
    have hcc := blk_cell (blk_set (blk_alloc HW.out.2 (.cells #[.int .i64 k] 73)) 0 (.int .i64 k)) 0
    have hcc2 : ((W.alloc (.cells #[.int .i64 k] 73)).setCell ⟨w.heap.size, 0, none⟩ (.int .i64 k)).cell? ⟨w.heap.size, 0, none⟩ = some (.int .i64 k) := by rw [hcc]; rfl
    have hfin : ∃ W', R k W' ∧ W'.grownBy ((W.alloc (.cells #[.int .i64 k] 73)).setCell ⟨w.heap.size, 0, none⟩ (.int .i64 k)) (some w.heap.size) := ⟨W, HW.out.1, (World.grownBy_alloc W _ _).trans (setCells_grown _ w.heap.size [.int .i64 k] 0)⟩
    clear hcc HW
    generalize (W.alloc (.cells #[.int .i64 k] 73)).setCell ⟨w.heap.size, 0, none⟩ (.int .i64 k) = Y at *
    simp [Leaves, settle, results, Try.results23, go_sem, hcc2]
    exact hfin
end Go.Proofs.Ytcmibbhfocfccaa.Cur
