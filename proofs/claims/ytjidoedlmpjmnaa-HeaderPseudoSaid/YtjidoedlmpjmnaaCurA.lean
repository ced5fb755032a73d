/- CurA: CurW1, CurW2, CurW3, CurW4. -/
import Derived.Test.YtjidoedlmpjmnaaCurT
import Derived.Test.YtjidoedlmpjmnaaProg
import Derived.Test.YtjidoedlmpjmnaaWMore
import Derived.Test.YtjidoedlmpjmnaaWGuard
import Derived.Test.YtjidoedlmpjmnaaBase
import Derived.Test.YtjidoedlmpjmnaaBits
import Derived.Test.YtjidoedlmpjmnaaCurQ
import Derived.Deep.RegionHeld3
import Derived.Deep.CutRange
import Derived.WalkLawsBesides
import Derived.IntWalk
import Derived.Deep.Slices
import Derived.Deep.QuietTactic
import Derived.BigQuiet
import Derived.Deep.LoopGhost
namespace Go.Proofs.Ytjidoedlmpjmnaa.Cur
open Go.RowKit Go.Proofs.Ytjidoedlmpjmnaa.Own Go.Proofs.Ytjidoedlmpjmnaa.CurP Go.Proofs.Ytjidoedlmpjmnaa.Mem Go.Proofs.Ytjidoedlmpjmnaa.Bits Go.Proofs.Ytjidoedlmpjmnaa.Help Go.Proofs.YtjidoedlmpjmnaaW.PrintWords Go.Proofs.YtjidoedlmpjmnaaW.PrintLast Go.Proofs.YtjidoedlmpjmnaaW.PrintMore
set_option linter.unusedVariables false
set_option linter.unusedSimpArgs false
/-- A tape's block, and what stands behind the tape in it. -/
def tapeC (A : Option Addr) (n c : Nat) (at_ : Nat) (more : List Value) : Array Value := (.slice A n c :: .int .i64 (at_ : Int) :: more).toArray
/-- A tape at the head of a block of type t. -/
structure TapeG (t : Nat) (more : List Value) (W : World) (g : Nat) (A : Option Addr) (c : Nat) (xs : List Int) (at_ : Nat) : Prop where
  b : W.heap[g]? = some (.cells (tapeC A xs.length c at_ more) t (0, 0))
  r : Kd.C (Kd.int .u8) W A xs.length xs
  le : at_ ≤ xs.length
  cap : xs.length ≤ c
  c63 : xs.length ≤ 9223372036854775807
abbrev Tape (W : World) (g : Nat) (A : Option Addr) (c : Nat) (xs : List Int) (at_ : Nat) : Prop := TapeG 82 [] W g A c xs at_
section
variable {t : Nat} {more : List Value} {W : World} {g : Nat} {A : Option Addr} {c : Nat} {xs : List Int} {at_ : Nat}
theorem TapeG.drew (h : TapeG t more W g A c xs at_) : TapeG t more W.drew g A c xs at_ := ⟨blk_drew h.b, Kd.C_drew h.r, h.le, h.cap, h.c63⟩
theorem TapeG.cells (h : TapeG t more W g A c xs at_) : W.cell? ⟨g, 0, none⟩ = some (.slice A xs.length c) ∧ W.cell? ⟨g, 1, none⟩ = some (.int .i64 (at_ : Int)) := ⟨(blk_cell h.b 0).trans (by simp [tapeC]), (blk_cell h.b 1).trans (by simp [tapeC])⟩
end
theorem need_neg (g : Nat) (n : Int) (w : World) (hn : n < 0) : Calls Try.prog 63 #[.pointer (some ⟨g, 0, none⟩), .int .i64 n] w fun e w' => e = stops 1 ∧ Drawn0 w w' := by
  have d : decide (n < 0) = true := by simpa using hn
  go_enter Try.func63, Try.ntmps63
  go_wp2_with fail
  exact ⟨rfl, rfl, Drawn0.refl _⟩
theorem need_many (g : Nat) (A : Option Addr) (c : Nat) (xs : List Int) (at_ : Nat) (n : Int) (w : World) {t : Nat} {more : List Value} (hT : TapeG t more w g A c xs at_) (hn : 0 ≤ n) (hm : (xs.length : Int) - at_ < n) :
    Calls Try.prog 63 #[.pointer (some ⟨g, 0, none⟩), .int .i64 n] w fun e w' => e = stops 10 ∧ Drawn0 w w' := by
  obtain ⟨c0, c1⟩ := hT.cells
  have hle := hT.le
  have hcap := hT.cap
  have hc63 := hT.c63
  have d : decide (n < 0) = false := by simpa using hn
  have d2 : decide ((xs.length : Int) - at_ < n) = true := by simpa using hm
  have hw : IntKind.i64.wrap ((xs.length : Int) - at_) = (xs.length : Int) - at_ := IntWalk.i64_in _ (by omega)
  clear hT
  go_enter Try.func63, Try.ntmps63
  go_wp2_with fail
  go_quiet (fail)
  go_wp2_with fail
  exact ⟨rfl, rfl, ⟨_, rfl⟩⟩
theorem need_yes (g : Nat) (A : Option Addr) (c : Nat) (xs : List Int) (at_ n : Nat) (w : World) {t : Nat} {more : List Value} (hT : TapeG t more w g A c xs at_) (hn : at_ + n ≤ xs.length) :
    Calls Try.prog 63 #[.pointer (some ⟨g, 0, none⟩), .int .i64 (n : Int)] w fun e w' => ∃ B d, e = .returned (.slice B n d) ∧ n ≤ d ∧ Kd.C (Kd.int .u8) w B n ((xs.drop at_).take n) ∧ Drawn0 w w' := by
  obtain ⟨c0, c1⟩ := hT.cells
  have hle := hT.le
  have hcap := hT.cap
  have hc63 := hT.c63
  have d : decide ((n : Int) < 0) = false := by simp
  have d2 : decide ((xs.length : Int) - at_ < (n : Int)) = false := by simp; omega
  have hw : IntKind.i64.wrap ((xs.length : Int) - at_) = (xs.length : Int) - at_ := IntWalk.i64_in _ (by omega)
  have hw2 : IntKind.i64.wrap ((at_ : Int) + n) = (at_ : Int) + n := IntWalk.i64_in _ (by omega)
  have h3 : (at_ : Int) ≤ (at_ : Int) + n := by omega
  have h4 : (at_ : Int) + n ≤ (c : Int) := by omega
  have HR := Aside0.mk hT.r
  have HLE := Aside0.mk (And.intro hn hT.cap)
  clear hT
  go_enter Try.func63, Try.ntmps63
  go_wp2_with fail
  go_quiet (fail)
  go_wp2_with fail
  go_quiet (fail)
  go_wp2_with fail
  all_goals go_ret
  · exact ⟨_, _, rfl, by have := HLE.out; omega, by
      obtain rfl : n = 0 := by have := HLE.out; omega
      rw [List.take_zero]; exact C_zero _ _, ⟨_, rfl⟩⟩
  · exact ⟨_, _, rfl, by have := HLE.out; omega, C_cut HR.out at_ n HLE.out.1, ⟨_, rfl⟩⟩
end Go.Proofs.Ytjidoedlmpjmnaa.Cur
namespace Go.Proofs.Ytjidoedlmpjmnaa.Cur
open Go.RowKit Go.Proofs.Ytjidoedlmpjmnaa.Own Go.Proofs.Ytjidoedlmpjmnaa.CurP Go.Proofs.Ytjidoedlmpjmnaa.Mem Go.Proofs.Ytjidoedlmpjmnaa.Bits Go.Proofs.Ytjidoedlmpjmnaa.Help Go.Proofs.YtjidoedlmpjmnaaW.PrintWords Go.Proofs.YtjidoedlmpjmnaaW.PrintLast Go.Proofs.YtjidoedlmpjmnaaW.PrintMore
set_option linter.unusedVariables false
set_option linter.unusedSimpArgs false
theorem TapeG.set {t : Nat} {more : List Value} {W : World} {g : Nat} {A : Option Addr} {c : Nat} {xs : List Int} {at_ : Nat} (h : TapeG t more W g A c xs at_) (k : Nat) (hk : k ≤ xs.length) :
    TapeG t more (W.setCell ⟨g, 1, none⟩ (.int .i64 (k : Int))) g A c xs k ∧ W.grownBy (W.setCell ⟨g, 1, none⟩ (.int .i64 (k : Int))) (some g) :=
  ⟨⟨by rw [blk_set h.b]; simp [tapeC], C_setCell (p := none) h.cells.2 (by simp) h.r, hk, h.cap, h.c63⟩, setCells_grown W g [.int .i64 (k : Int)] 1⟩
theorem TapeG.drewN {t : Nat} {more : List Value} {W : World} {g : Nat} {A : Option Addr} {c : Nat} {xs : List Int} {at_ : Nat} (h : TapeG t more W g A c xs at_) (n : Nat) : TapeG t more (W.drewN n) g A c xs at_ := ⟨blk_drewN h.b n, Kd.C_drewN h.r n, h.le, h.cap, h.c63⟩
theorem TapeG.below {t : Nat} {more : List Value} {W W1 : World} {g : Nat} {A : Option Addr} {c : Nat} {xs : List Int} {at_ : Nat} (h : TapeG t more W g A c xs at_) (hB : Below W.heap.size W W1) : TapeG t more W1 g A c xs at_ := ⟨blk_below h.b hB, Kd.C_below h.r hB, h.le, h.cap, h.c63⟩
theorem TapeG.grown0 {t : Nat} {more : List Value} {W W1 : World} {g : Nat} {A : Option Addr} {c : Nat} {xs : List Int} {at_ : Nat} (h : TapeG t more W g A c xs at_) (hg : W.grownBy W1 none) : TapeG t more W1 g A c xs at_ := h.below (below_grown0 hg)
theorem need_no (g : Nat) (A : Option Addr) (c : Nat) (xs : List Int) (at_ : Nat) (n : Int) (w : World) {t : Nat} {more : List Value} (hT : TapeG t more w g A c xs at_) (h : wantN xs at_ n ≠ 0) :
    Calls Try.prog 63 #[.pointer (some ⟨g, 0, none⟩), .int .i64 n] w fun e w' => e = stops (wantN xs at_ n) ∧ Drawn0 w w' := by
  unfold wantN at h ⊢
  by_cases h1 : n < 0
  · rw [if_pos h1]; exact need_neg g n w h1
  · rw [if_neg h1] at h ⊢
    split at h
    · rename_i h2; rw [if_pos h2]; exact need_many g A c xs at_ n w hT (by omega) (by omega)
    · exact absurd rfl h
set_option maxHeartbeats 2000000 in
theorem number_yes (g : Nat) (A : Option Addr) (c : Nat) (xs : List Int) (at_ s : Nat) (w : World) {t : Nat} {more : List Value} (hT : TapeG t more w g A c xs at_) (hx : AllB xs) (h1 : 1 ≤ s) (h8 : s ≤ 8) (hn : at_ + s ≤ xs.length) :
    Calls Try.prog 60 #[.pointer (some ⟨g, 0, none⟩), .int .i64 (s : Int)] w fun e w' => e = .returned (.int .u64 (numL ((xs.drop at_).take s))) ∧ TapeG t more w' g A c xs (at_ + s) ∧ w.grownBy w' (some g) := by
  have HT := Aside0.mk hT
  have d1 : decide ((s : Int) < 1) = false := by simp; omega
  have d8 : decide (8 < (s : Int)) = false := by simp; omega
  have HB := Aside0.mk ((hx.drop at_).take s)
  have hlen : ((xs.drop at_).take s).length = s := by simp; omega
  have hc63 := hT.c63
  have hcap := hT.cap
  have ha63 : (at_ : Int) + (s : Int) ≤ 9223372036854775807 := by omega
  have H := Aside0.mk (And.intro hlen hn)
  clear hT hx hlen
  generalize hys : (xs.drop at_).take s = ys at *
  go_enter Try.func60, Try.ntmps60
  go_wp2_with fail
  refine (need_yes g A c xs at_ s _ HT.out H.out.2).mono ?_
  rintro e w1 ⟨B, d, rfl, hd, hC, ⟨k, rfl⟩⟩
  rw [hys] at hC
  have HT1 := Aside0.mk (HT.out.drewN k)
  have HC := Aside0.mk (Kd.C_drewN hC k)
  have HG := Aside0.mk (grown_drewN w k (some g))
  clear HT hC hys
  generalize w.drewN k = W at *
  go_wp2_with fail
  go_loop [5, 7, 20] (fun v5 v7 v20 => ∃ i : Nat, i ≤ s ∧ v20 = .int .i64 (i : Int) ∧ v5 = .int .u64 (numL (ys.take i))) (fun _ _ v20 => s - (intOf v20).toNat)
  case atStart => exact ⟨0, Nat.zero_le _, rfl, rfl⟩
  case round =>
    obtain ⟨i, hi, rfl, rfl⟩ := hrel
    by_cases hlt : i < s
    · have hl : decide ((i : Int) < (s : Int)) = true := by simp; omega
      obtain ⟨ad, rfl, hcl⟩ := (Kd.reads_of_C (d := (0 : Int)) HC.out).2.2 (by omega)
      have hc := hcl i hlt
      have hil : i < ys.length := by rw [H.out.1]; exact hlt
      have hsn : numL (ys.take (i + 1)) = numL (ys.take i) * 256 + ys.getD i 0 := by rw [take_snoc hil, numL_snoc]
      have hsm := numL_small (HB.out.take i) (by simp; omega)
      have hby : 0 ≤ ys.getD i 0 ∧ ys.getD i 0 < 256 := by
        rw [List.getD_eq_getElem?_getD, List.getElem?_eq_getElem hil]; exact HB.out _ (List.getElem_mem hil)
      have hor := num_step hsm.1 hsm.2 hby.1 hby.2
      rw [← hsn] at hor
      have hwc : IntKind.u64.wrap (ys.getD i 0) = ys.getD i 0 := wrap_u64_id (by omega) (by omega)
      have HH := Aside0.mk (And.intro hsn (And.intro hsm hby))
      clear hcl hsn hsm hby
      generalize hn2 : numL (ys.take (i + 1)) = n2 at *
      have HN2 := Aside0.mk hn2
      clear hn2
      generalize numL (ys.take i) = n1 at *
      generalize ys.getD i 0 = x at *
      go_wp2_with fail
      exact ⟨⟨i + 1, hlt, by first | rfl | go_num, by rw [HN2.out]⟩, by simp [intOf]; omega⟩
    · obtain rfl : i = s := by omega
      have hl : decide ((i : Int) < (i : Int)) = false := by simp
      obtain ⟨c0, c1⟩ := HT1.out.cells
      have f1 : W.frozen? ⟨g, 1, none⟩ = false := blk_frozen HT1.out.b _
      have hn1 : ((at_ : Int) + (i : Int)) = ((at_ + i : Nat) : Int) := by omega
      have hw : IntKind.i64.wrap (((at_ : Int)) + (i : Int)) = (at_ : Int) + (i : Int) := IntWalk.i64_in _ (by omega)
      have HTS := Aside0.mk (HT1.out.set (at_ + i) H.out.2)
      rw [← hn1] at HTS
      clear hn1
      go_wp2_with fail
      go_ret
      refine ⟨?_, HTS.out.1, HG.out.trans HTS.out.2⟩
      rw [List.take_of_length_le (by rw [H.out.1]; exact Nat.le_refl _)]; rfl
theorem number_bad (g : Nat) (s : Int) (w : World) (h : s < 1 ∨ 8 < s) :
    Calls Try.prog 60 #[.pointer (some ⟨g, 0, none⟩), .int .i64 s] w fun e w' => e = stops 1 ∧ Drawn0 w w' := by
  by_cases h1 : s < 1
  · have d1 : decide (s < 1) = true := by simpa using h1
    clear h
    go_enter Try.func60, Try.ntmps60
    go_wp2_with fail
    exact ⟨rfl, rfl, Drawn0.refl _⟩
  · have d1 : decide (s < 1) = false := by simpa using h1
    have d2 : decide (8 < s) = true := by simp; omega
    clear h
    go_enter Try.func60, Try.ntmps60
    go_wp2_with fail
    exact ⟨rfl, rfl, Drawn0.refl _⟩
theorem number_many (g : Nat) (A : Option Addr) (c : Nat) (xs : List Int) (at_ : Nat) (s : Int) (w : World) {t : Nat} {more : List Value} (hT : TapeG t more w g A c xs at_) (h1 : 1 ≤ s) (h8 : s ≤ 8) (hm : (xs.length : Int) - at_ < s) :
    Calls Try.prog 60 #[.pointer (some ⟨g, 0, none⟩), .int .i64 s] w fun e w' => e = stops 10 ∧ Drawn0 w w' := by
  have HT := Aside0.mk hT
  have d1 : decide (s < 1) = false := by simp; omega
  have d8 : decide (8 < s) = false := by simp; omega
  have H := Aside0.mk (And.intro h1 hm)
  clear hT hm
  go_enter Try.func60, Try.ntmps60
  go_wp2_with fail
  refine (need_many g A c xs at_ s _ HT.out (by have := H.out.1; omega) H.out.2).mono ?_
  rintro e w1 ⟨rfl, hD⟩
  exact ⟨rfl, rfl, hD⟩
set_option maxHeartbeats 2000000 in
theorem bytes_yes (g : Nat) (A : Option Addr) (c : Nat) (xs : List Int) (at_ n : Nat) (w : World) {t : Nat} {more : List Value} (hT : TapeG t more w g A c xs at_) (hn : at_ + n ≤ xs.length) (hb : n ≤ 140737488351232) (htt : t ≠ 5) :
    Calls Try.prog 61 #[.pointer (some ⟨g, 0, none⟩), .int .i64 (n : Int)] w fun e w' => ∃ v, e = .returned v ∧ Owns w' w.heap.size v ((xs.drop at_).take n) ∧ TapeG t more w' g A c xs (at_ + n) ∧ w.grownBy w' (some g) := by
  have HT := Aside0.mk hT
  have hlen : ((xs.drop at_).take n).length = n := by simp; omega
  have hc63 := hT.c63
  have hcap := hT.cap
  have ha63 : (at_ : Int) + (n : Int) ≤ 9223372036854775807 := by omega
  have H := Aside0.mk (And.intro hlen (And.intro hn hb))
  clear hT hlen hb
  generalize hys : (xs.drop at_).take n = ys at *
  go_enter Try.func61, Try.ntmps61
  go_wp2_with fail
  refine (need_yes g A c xs at_ n _ HT.out H.out.2.1).mono ?_
  rintro e w1 ⟨B, d, rfl, hd, hC, ⟨k, rfl⟩⟩
  rw [hys] at hC
  have HT1 := Aside0.mk (HT.out.drewN k)
  have HG := Aside0.mk (grown_drewN w k (some g))
  have hC1 : Kd.C (Kd.int .u8) (w.drewN k) B ys.length ys := by rw [H.out.1]; exact Kd.C_drewN hC k
  have hsz : (w.drewN k).heap.size = w.heap.size := rfl
  obtain ⟨v1, w2, hrun, hO, hg, hown⟩ := append_bytes (ty := 25) (c := d) (base := w.heap.size) (Owns.nil (w.drewN k) w.heap.size) hC1 (by have := H.out; simp; omega) (Nat.le_refl _)
  rw [List.nil_append] at hO
  rw [H.out.1] at hrun
  have hg0 : (w.drewN k).grownBy w2 none := hg
  have hT2 : TapeG t more w2 g A c xs at_ := HT1.out.grown0 hg0
  obtain ⟨c0, c1⟩ := hT2.cells
  have f1 : w2.frozen? ⟨g, 1, none⟩ = false := blk_frozen hT2.b _
  have hw : IntKind.i64.wrap (((at_ : Int)) + (n : Int)) = (at_ : Int) + (n : Int) := IntWalk.i64_in _ (by omega)
  have HTS := Aside0.mk (hT2.set (at_ + n) H.out.2.1)
  have hO2 : Owns (w2.setCell ⟨g, 1, none⟩ (.int .i64 ((at_ + n : Nat) : Int))) w.heap.size v1 ys := hO.kept (HTS.out.2) (by
    rcases hv : v1.ownBlock with _ | q
    · exact .inl rfl
    · refine .inr (fun e => ?_)
      have := hO.ne hT2.b htt
      rw [hv] at this
      exact this (e ▸ rfl))
  have HO := Aside0.mk hO2
  have HGG := Aside0.mk (HG.out.trans (grown0_any hg0 (some g)))
  rw [show ((at_ + n : Nat) : Int) = (at_ : Int) + (n : Int) by omega] at HTS HO
  have HRUN := Aside0.mk hrun
  clear HT HT1 HG hC hC1 hrun hO hO2 hg hg0 hT2 hown hsz hys
  go_wp2_with ((with_reducible refine gate_dst (N := 9) rfl ?_); refine Kd.event_run rfl (exec_append rfl rfl rfl HRUN.out) ?_)
  go_ret
  exact ⟨v1, rfl, HO.out, HTS.out.1, HGG.out.trans HTS.out.2⟩
theorem bytes_no (g : Nat) (A : Option Addr) (c : Nat) (xs : List Int) (at_ : Nat) (n : Int) (w : World) {t : Nat} {more : List Value} (hT : TapeG t more w g A c xs at_) (h : wantN xs at_ n ≠ 0) :
    Calls Try.prog 61 #[.pointer (some ⟨g, 0, none⟩), .int .i64 n] w fun e w' => e = stops (wantN xs at_ n) ∧ Drawn0 w w' := by
  have HN := Aside0.mk (need_no g A c xs at_ n w hT h)
  clear h hT
  go_enter Try.func61, Try.ntmps61
  go_wp2_with fail
  refine HN.out.mono ?_
  rintro e w1 ⟨rfl, hD⟩
  exact ⟨rfl, rfl, hD⟩
end Go.Proofs.Ytjidoedlmpjmnaa.Cur
namespace Go.Proofs.Ytjidoedlmpjmnaa.Cur
open Go.RowKit Go.Proofs.Ytjidoedlmpjmnaa.Own Go.Proofs.Ytjidoedlmpjmnaa.CurP Go.Proofs.Ytjidoedlmpjmnaa.Mem Go.Proofs.Ytjidoedlmpjmnaa.Bits Go.Proofs.Ytjidoedlmpjmnaa.Help Go.Proofs.YtjidoedlmpjmnaaW.PrintWords Go.Proofs.YtjidoedlmpjmnaaW.PrintLast Go.Proofs.YtjidoedlmpjmnaaW.PrintMore
set_option linter.unusedVariables false
set_option linter.unusedSimpArgs false
theorem zero_no (g : Nat) (A : Option Addr) (c : Nat) (xs : List Int) (at_ : Nat) (n : Int) (w : World) {t : Nat} {more : List Value} (hT : TapeG t more w g A c xs at_) (h : wantN xs at_ n ≠ 0) :
    Calls Try.prog 62 #[.pointer (some ⟨g, 0, none⟩), .int .i64 n] w fun e w' => e = stops (wantN xs at_ n) ∧ Drawn0 w w' := by
  have HN := Aside0.mk (need_no g A c xs at_ n w hT h)
  clear h hT
  go_enter Try.func62, Try.ntmps62
  go_wp2_with fail
  refine HN.out.mono ?_
  rintro e w1 ⟨rfl, hD⟩
  exact ⟨rfl, rfl, hD⟩
/-- What zero comes to. -/
def ZPost (t : Nat) (more : List Value) (g : Nat) (A : Option Addr) (c : Nat) (xs : List Int) (at_ n : Nat) (w : World) (e : Ending) (w' : World) : Prop :=
  if ((xs.drop at_).take n).all (· == 0) then e = .returned (.tuple #[]) ∧ TapeG t more w' g A c xs (at_ + n) ∧ w.grownBy w' (some g) else e = stops 11 ∧ Drawn0 w w'
set_option maxHeartbeats 2000000 in
theorem zero_yes (g : Nat) (A : Option Addr) (c : Nat) (xs : List Int) (at_ n : Nat) (w : World) {t : Nat} {more : List Value} (hT : TapeG t more w g A c xs at_) (hn : at_ + n ≤ xs.length) :
    Calls Try.prog 62 #[.pointer (some ⟨g, 0, none⟩), .int .i64 (n : Int)] w (ZPost t more g A c xs at_ n w) := by
  have HT := Aside0.mk hT
  have hlen : ((xs.drop at_).take n).length = n := by simp; omega
  have hc63 := hT.c63
  have hcap := hT.cap
  have ha63 : (at_ : Int) + (n : Int) ≤ 9223372036854775807 := by omega
  have H := Aside0.mk (And.intro hlen hn)
  have HZ : Aside0 (∀ e w', ZPost t more g A c xs at_ n w e w' = if ((xs.drop at_).take n).all (· == 0) then e = .returned (.tuple #[]) ∧ TapeG t more w' g A c xs (at_ + n) ∧ w.grownBy w' (some g) else e = stops 11 ∧ Drawn0 w w') := ⟨fun _ _ => rfl⟩
  clear hT hlen
  generalize hys : (xs.drop at_).take n = ys at *
  go_enter Try.func62, Try.ntmps62
  go_wp2_with fail
  refine (need_yes g A c xs at_ n _ HT.out H.out.2).mono ?_
  rintro e w1 ⟨B, d, rfl, hd, hC, ⟨k, rfl⟩⟩
  rw [hys] at hC
  have HT1 := Aside0.mk (HT.out.drewN k)
  have HC := Aside0.mk (Kd.C_drewN hC k)
  have HG := Aside0.mk (grown_drewN w k (some g))
  have HD : Aside0 (Drawn0 w (w.drewN k)) := ⟨⟨k, rfl⟩⟩
  clear HT hC hys
  generalize w.drewN k = W at *
  go_wp2_with fail
  go_loop [5, 10] (fun v5 v10 => ∃ i : Nat, i ≤ n ∧ v10 = .int .i64 (i : Int) ∧ Aside0 ((ys.take i).all (· == 0) = true)) (fun _ v10 => n - (intOf v10).toNat)
  case atStart => exact ⟨0, Nat.zero_le _, rfl, ⟨rfl⟩⟩
  case round =>
    obtain ⟨i, hi, rfl, HA⟩ := hrel
    by_cases hlt : i < n
    · have hl : decide ((i : Int) < (n : Int)) = true := by simp; omega
      obtain ⟨ad, rfl, hcl⟩ := (Kd.reads_of_C (d := (0 : Int)) HC.out).2.2 (by omega)
      have hc := hcl i hlt
      have hil : i < ys.length := by rw [H.out.1]; exact hlt
      have HTK := Aside0.mk (take_snoc hil)
      by_cases hx : ys.getD i 0 = 0
      · have hx0 : (ys.getD i 0 != 0) = false := by rw [hx]; rfl
        have HA2 : Aside0 ((ys.take (i + 1)).all (· == 0) = true) := ⟨by rw [HTK.out, List.all_append, HA.out, hx]; rfl⟩
        clear hcl hx HTK
        generalize ys.getD i 0 = x at *
        go_wp2_with fail
        exact ⟨⟨i + 1, hlt, by first | rfl | go_num, HA2⟩, by simp [intOf]; omega⟩
      · have hx0 : (ys.getD i 0 != 0) = true := by simpa using hx
        have HNO : Aside0 (ys.all (· == 0) = false) := ⟨by
          rw [Bool.eq_false_iff]
          intro h
          rw [List.all_eq_true] at h
          have := h _ (List.getElem_mem hil)
          rw [List.getD_eq_getElem?_getD, List.getElem?_eq_getElem hil] at hx
          exact hx (by simpa using this)⟩
        clear hcl hx HTK
        generalize ys.getD i 0 = x at *
        go_wp2_with fail
        refine ⟨rfl, ?_⟩
        rw [HZ.out, HNO.out]
        exact ⟨rfl, HD.out⟩
    · obtain rfl : i = n := by omega
      have hl : decide ((i : Int) < (i : Int)) = false := by simp
      obtain ⟨c0, c1⟩ := HT1.out.cells
      have f1 : W.frozen? ⟨g, 1, none⟩ = false := blk_frozen HT1.out.b _
      have hw : IntKind.i64.wrap (((at_ : Int)) + (i : Int)) = (at_ : Int) + (i : Int) := IntWalk.i64_in _ (by omega)
      have HTS := Aside0.mk (HT1.out.set (at_ + i) H.out.2)
      rw [show ((at_ + i : Nat) : Int) = (at_ : Int) + (i : Int) by omega] at HTS
      have HAL : Aside0 (ys.all (· == 0) = true) := ⟨by have := HA.out; rwa [List.take_of_length_le (by rw [H.out.1]; exact Nat.le_refl _)] at this⟩
      go_wp2_with fail
      refine bodyPost_end (results_none rfl _ _ _) rfl ?_
      rw [HZ.out, HAL.out]
      exact ⟨rfl, HTS.out.1, HG.out.trans HTS.out.2⟩
end Go.Proofs.Ytjidoedlmpjmnaa.Cur
namespace Go.Proofs.Ytjidoedlmpjmnaa.Cur
open Go.RowKit Go.Proofs.Ytjidoedlmpjmnaa.Segs Go.Proofs.Ytjidoedlmpjmnaa.Own Go.Proofs.Ytjidoedlmpjmnaa.CurP Go.Proofs.Ytjidoedlmpjmnaa.Mem Go.Proofs.Ytjidoedlmpjmnaa.Bits Go.Proofs.Ytjidoedlmpjmnaa.Help Go.Proofs.YtjidoedlmpjmnaaW.PrintWords Go.Proofs.YtjidoedlmpjmnaaW.PrintLast Go.Proofs.YtjidoedlmpjmnaaW.PrintMore
set_option linter.unusedVariables false
set_option linter.unusedSimpArgs false
theorem TapeG.grown_ne {tt : Nat} {more : List Value} {W W2 : World} {q g : Nat} {cs : Array Value} {t : TypeId} {A : Option Addr} {c : Nat} {xs : List Int} {at_ : Nat} (h : TapeG tt more W g A c xs at_) (hb : W.heap[q]? = some (.cells cs t (0, 0))) (hn : NoB cs) (hq : g ≠ q) (hg : W.grownBy W2 (some q)) : TapeG tt more W2 g A c xs at_ :=
  ⟨blk_grown h.b hg (by simpa using hq), C_grown_ne hb hn hg h.r, h.le, h.cap, h.c63⟩
/-- A Val stored over another one. -/
theorem val_over {W : World} {q : Nat} {x y x' y' : Value} (hb : W.heap[q]? = some (.cells #[x, y] 53 (0, 0))) (hx : x'.oneCell' = true) (hy : y'.oneCell' = true) :
    ∃ W1, (storeVar 53 ⟨q, 0, none⟩ (.agg #[x', y'])).run Try.prog W = .ok () W1 ∧ W1.heap[q]? = some (.cells #[x', y'] 53 (0, 0)) ∧ W.grownBy W1 (some q) := by
  have h := seg_over (P := Try.prog) (ty := 53) (segs := [[x], [y]]) (segs' := [[x'], [y']]) hb rfl infoV rfl (by simp [hx, hy])
  exact ⟨_, h, setRow_heap _ _ _ _ _ _ hb, ⟨rfl, rfl, rfl, by simp, fun k _ hk => setRow_other W q k _ (fun e => hk (by simp [e]))⟩⟩
/-- What a piece comes to. -/
def PPost (g : Nat) (A : Option Addr) (c : Nat) (xs : List Int) (at_ : Nat) (k s : Int) (w : World) (e : Ending) (w' : World) : Prop :=
  if (pieceR xs at_ k s).1 = 0 then ∃ v, e = .returned (.agg #[.int .u64 (pieceR xs at_ k s).2.1, v]) ∧ Owns w' w.heap.size v (pieceR xs at_ k s).2.2.1 ∧ Tape w' g A c xs (pieceR xs at_ k s).2.2.2 ∧ w.grownBy w' (some g)
  else e = stops (pieceR xs at_ k s).1 ∧ Tape w' g A c xs at_ ∧ w.grownBy w' none
theorem PPost.yes {g : Nat} {A : Option Addr} {c : Nat} {xs : List Int} {at_ : Nat} {k s : Int} {w : World} {e : Ending} {w' : World} {N : Int} {B : List Int} {m : Nat} {v : Value} (hr : pieceR xs at_ k s = (0, N, B, m)) (he : e = .returned (.agg #[.int .u64 N, v])) (hO : Owns w' w.heap.size v B) (hT : Tape w' g A c xs m) (hg : w.grownBy w' (some g)) : PPost g A c xs at_ k s w e w' := by
  unfold PPost; rw [hr, if_pos rfl]; exact ⟨v, he, hO, hT, hg⟩
theorem PPost.no {g : Nat} {A : Option Addr} {c : Nat} {xs : List Int} {at_ : Nat} {k s : Int} {w : World} {e : Ending} {w' : World} {E : Int} (hr : (pieceR xs at_ k s).1 = E) (h0 : E ≠ 0) (he : e = stops E) (hT : Tape w' g A c xs at_) (hg : w.grownBy w' none) : PPost g A c xs at_ k s w e w' := by
  unfold PPost; rw [if_neg (by rw [hr]; exact h0), hr]; exact ⟨he, hT, hg⟩
theorem wantN_zero {xs : List Int} {at_ : Nat} {s : Int} (h : wantN xs at_ s = 0) : ∃ n : Nat, s = n ∧ (at_ ≤ xs.length → at_ + n ≤ xs.length) := by
  unfold wantN at h
  split at h
  · omega
  · split at h
    · omega
    · exact ⟨s.toNat, by omega, fun hl => by omega⟩
theorem grown2 {w W w1 W2 : World} {g q : Nat} (h0 : w.grownBy W (some g)) (h1 : W.grownBy w1 (some g)) (h2 : w1.grownBy W2 (some q)) (hq : w.heap.size ≤ q) : w.grownBy W2 (some g) := by
  have h := h0.trans h1
  exact ⟨h2.os.trans h.os, h2.tape.trans h.tape, h2.output.trans h.output, Nat.le_trans h.size h2.size, fun k hk hne => by
    rw [h2.block k (Nat.lt_of_lt_of_le hk h.size) (by simp; omega)]
    exact h.block k hk hne⟩
theorem results_val {fn : Func} {p : Tmp} (h : fn.results = #[.cell p 53]) (tmps : Array Value) (w : World) (q : Nat) {x y : Value} (hp : tmps.getD p undef = .pointer (some ⟨q, 0, none⟩)) (hb : w.heap[q]? = some (.cells #[x, y] 53 (0, 0))) :
    (results fn tmps).run Try.prog w = .ok (.agg #[x, y]) w :=
  results_cell_row h tmps w q _ _ (0, 0) _ hp hb Try.underlying53 rfl (by rw [infoV]; rfl)
set_option maxHeartbeats 8000000 in
theorem piece_any (g : Nat) (A : Option Addr) (c : Nat) (xs : List Int) (at_ : Nat) (k s : Int) (w : World) (hT : Tape w g A c xs at_) (hx : AllB xs) (hb : xs.length ≤ 140737488351232) (hs : -9223372036854775808 ≤ s ∧ s ≤ 9223372036854775807) :
    Calls Try.prog 58 #[.pointer (some ⟨g, 0, none⟩), .agg #[.int .i64 k, .int .i64 s]] w (PPost g A c xs at_ k s w) := by
  have hlt : g < w.heap.size := blk_lt hT.b
  have hT0 : Tape ((w.alloc (.cells #[.int .i64 k, .int .i64 s] 68)).alloc (.cells #[.int .u64 0, .slice none 0 0] 53)) g A c xs at_ := hT.below (below_alloc (below_alloc (Below.refl _ _) _) _)
  have hV : ((w.alloc (.cells #[.int .i64 k, .int .i64 s] 68)).alloc (.cells #[.int .u64 0, .slice none 0 0] 53)).heap[w.heap.size + 1]? = some (.cells #[.int .u64 0, .slice none 0 0] 53 (0, 0)) := blk_new_at (Array.size_push _).symm
  have hO : ((w.alloc (.cells #[.int .i64 k, .int .i64 s] 68)).alloc (.cells #[.int .u64 0, .slice none 0 0] 53)).heap[w.heap.size]? = some (.cells #[.int .i64 k, .int .i64 s] 68 (0, 0)) := blk_alloc (blk_new w _) _
  have hB : Below w.heap.size w ((w.alloc (.cells #[.int .i64 k, .int .i64 s] 68)).alloc (.cells #[.int .u64 0, .slice none 0 0] 53)) := below_alloc (below_alloc (Below.refl _ _) _) _
  have hsz : ((w.alloc (.cells #[.int .i64 k, .int .i64 s] 68)).alloc (.cells #[.int .u64 0, .slice none 0 0] 53)).heap.size = w.heap.size + 2 := by show ((w.heap.push _).push _).size = _; rw [Array.size_push, Array.size_push]
  go_enter Try.func58, Try.ntmps58
  go_upto_region 1 with fail
  generalize (w.alloc (.cells #[.int .i64 k, .int .i64 s] 68)).alloc (.cells #[.int .u64 0, .slice none 0 0] 53) = W at *
  have ck := blk_cell hO 0
  have cs := blk_cell hO 1
  have hg0 : w.grownBy W none := ⟨hB.os, hB.tape, hB.output, hB.size, fun k hk _ => hB.block k hk⟩
  have H := Aside0.mk (And.intro hx (And.intro hb (And.intro hs (And.intro hT0 (And.intro hV (And.intro hg0 (And.intro hlt hsz)))))))
  clear hx hb hs hT0 hV hO hB hsz hT hlt hg0
  by_cases k0 : k = 0
  · subst k0
    have q0 : ((0 : Int) == 0) = true := rfl
    by_cases hbad : s < 1 ∨ 8 < s
    · have HR : Aside0 ((pieceR xs at_ 0 s).1 = 1) := ⟨by rw [pieceR, if_pos rfl, if_pos (by omega)]⟩
      have HN := Aside0.mk (number_bad g s W hbad)
      clear hbad
      go_wp2_with fail
      refine HN.out.mono ?_
      rintro e w1 ⟨rfl, ⟨n, rfl⟩⟩
      refine ⟨rfl, PPost.no HR.out (by decide) rfl (H.out.2.2.2.1.drewN n) ?_⟩
      exact H.out.2.2.2.2.2.1.trans (grown_drewN W n none)
    · by_cases hm : (xs.length : Int) - at_ < s
      · have HR : Aside0 ((pieceR xs at_ 0 s).1 = 10) := ⟨by rw [pieceR, if_pos rfl, if_neg (by omega), if_pos (by omega)]⟩
        have HN := Aside0.mk (number_many g A c xs at_ s W H.out.2.2.2.1 (by omega) (by omega) hm)
        clear hbad hm
        go_wp2_with fail
        refine HN.out.mono ?_
        rintro e w1 ⟨rfl, ⟨n, rfl⟩⟩
        refine ⟨rfl, PPost.no HR.out (by decide) rfl (H.out.2.2.2.1.drewN n) ?_⟩
        exact H.out.2.2.2.2.2.1.trans (grown_drewN W n none)
      · obtain ⟨n, rfl⟩ : ∃ n : Nat, s = n := ⟨s.toNat, by omega⟩
        have HR : Aside0 (pieceR xs at_ 0 (n : Int) = (0, numL ((xs.drop at_).take n), [], at_ + n)) := ⟨by rw [pieceR, if_pos rfl, if_neg (by omega), if_neg (by omega)]; simp⟩
        have HN := Aside0.mk (number_yes g A c xs at_ n W H.out.2.2.2.1 H.out.1 (by omega) (by omega) (by omega))
        generalize numL ((xs.drop at_).take n) = N at *
        clear hbad hm
        go_wp2_with fail
        refine HN.out.mono ?_
        rintro e w1 ⟨rfl, hT1, hg1⟩
        have hv1 := blk_grown H.out.2.2.2.2.1 hg1 (by have := H.out.2.2.2.2.2.2; simp; omega)
        obtain ⟨W2, hst, hv2, hg2⟩ := val_over (x' := .int .u64 N) (y' := .slice none 0 0) hv1 rfl rfl
        have hT2 := hT1.grown_ne hv1 (noB2 (by simp) (by simp)) (by have := H.out.2.2.2.2.2.2; omega) hg2
        have HST := Aside0.mk hst
        have HF := Aside0.mk (And.intro hv2 (And.intro hT2 (grown2 (grown0_any H.out.2.2.2.2.2.1 (some g)) hg1 hg2 (by omega))))
        clear hT1 hg1 hv1 hst hv2 hg2 hT2 HN
        go_wp2_with ((with_reducible refine gate_store (t := 53) rfl ?_); refine event_skip rfl (exec_store rfl rfl rfl HST.out) ?_)
        exact bodyPost_ret (results_val rfl _ _ (w.heap.size + 1) rfl HF.out.1) rfl (PPost.yes HR.out rfl (Owns.nil _ _) HF.out.2.1 HF.out.2.2)
  · have q0 : (k == 0) = false := by simpa using k0
    have HK0 := Aside0.mk k0
    clear k0
    by_cases k1 : k = 1
    · subst k1
      by_cases hw : wantN xs at_ s = 0
      · obtain ⟨n, hsn, hn⟩ := wantN_zero hw
        have HR : Aside0 (pieceR xs at_ 1 s = (0, 0, (xs.drop at_).take n, at_ + n)) := ⟨by subst hsn; rw [pieceR, if_neg (by decide), if_pos rfl, if_pos hw]; simp⟩
        subst hsn
        have HN := Aside0.mk (bytes_yes g A c xs at_ n W H.out.2.2.2.1 (hn H.out.2.2.2.1.le) (by have := hn H.out.2.2.2.1.le; have := H.out.2.1; omega) (by decide))
        have hBl : ((xs.drop at_).take n).length ≤ 9223372036854775807 := by have := H.out.2.1; simp; omega
        generalize (xs.drop at_).take n = B at *
        clear hw hn
        go_wp2_with fail
        refine HN.out.mono ?_
        rintro e w1 ⟨v, rfl, hO1, hT1, hg1⟩
        obtain ⟨B1, e1, rfl, -, -⟩ := hO1.reads hBl
        have hv1 := blk_grown H.out.2.2.2.2.1 hg1 (by have := H.out.2.2.2.2.2.2; simp; omega)
        obtain ⟨W2, hst, hv2, hg2⟩ := val_over (x' := .int .u64 0) (y' := _) hv1 rfl hO1.one
        have hT2 := hT1.grown_ne hv1 (noB2 (by simp) (by simp)) (by have := H.out.2.2.2.2.2.2; omega) hg2
        have hO2 := (hO1.lower (b := w.heap.size) (by have := H.out.2.2.2.2.2.2; omega)).kept hg2 (hO1.apart hv1 (by decide))
        have HST := Aside0.mk hst
        have HF := Aside0.mk (And.intro hv2 (And.intro hT2 (And.intro (grown2 (grown0_any H.out.2.2.2.2.2.1 (some g)) hg1 hg2 (by omega)) hO2)))
        clear hT1 hg1 hv1 hst hv2 hg2 hT2 HN hO1 hO2
        go_wp2_with ((with_reducible refine gate_store (t := 53) rfl ?_); refine event_skip rfl (exec_store rfl rfl rfl HST.out) ?_)
        exact bodyPost_ret (results_val rfl _ _ (w.heap.size + 1) rfl HF.out.1) rfl (PPost.yes HR.out rfl HF.out.2.2.2 HF.out.2.1 HF.out.2.2.1)
      · have HR : Aside0 ((pieceR xs at_ 1 s).1 = wantN xs at_ s) := ⟨by rw [pieceR, if_neg (by decide), if_pos rfl, if_neg hw]⟩
        have HN := Aside0.mk (bytes_no g A c xs at_ s W H.out.2.2.2.1 hw)
        have HW := Aside0.mk hw
        clear hw
        go_wp2_with fail
        refine HN.out.mono ?_
        rintro e w1 ⟨rfl, ⟨n, rfl⟩⟩
        refine ⟨rfl, PPost.no HR.out HW.out rfl (H.out.2.2.2.1.drewN n) ?_⟩
        exact H.out.2.2.2.2.2.1.trans (grown_drewN W n none)
    · have q1 : (k == 1) = false := by simpa using k1
      have HK1 := Aside0.mk k1
      clear k1
      by_cases k2 : k = 2
      · subst k2
        by_cases hw : wantN xs at_ s = 0
        · obtain ⟨n, hsn, hn⟩ := wantN_zero hw
          have HR : Aside0 (pieceR xs at_ 2 s = (0, 0, [], at_ + n)) := ⟨by subst hsn; rw [pieceR, if_neg (by decide), if_neg (by decide), if_pos rfl, if_pos hw]; simp⟩
          subst hsn
          have HN := Aside0.mk (bytes_yes g A c xs at_ n W H.out.2.2.2.1 (hn H.out.2.2.2.1.le) (by have := hn H.out.2.2.2.1.le; have := H.out.2.1; omega) (by decide))
          generalize (xs.drop at_).take n = B at *
          clear hw hn
          go_wp2_with fail
          refine HN.out.mono ?_
          rintro e w1 ⟨v, rfl, -, hT1, hg1⟩
          have hv1 := blk_grown H.out.2.2.2.2.1 hg1 (by have := H.out.2.2.2.2.2.2; simp; omega)
          obtain ⟨W2, hst, hv2, hg2⟩ := val_over (x' := .int .u64 0) (y' := .slice none 0 0) hv1 rfl rfl
          have hT2 := hT1.grown_ne hv1 (noB2 (by simp) (by simp)) (by have := H.out.2.2.2.2.2.2; omega) hg2
          have HST := Aside0.mk hst
          have HF := Aside0.mk (And.intro hv2 (And.intro hT2 (grown2 (grown0_any H.out.2.2.2.2.2.1 (some g)) hg1 hg2 (by omega))))
          clear hT1 hg1 hv1 hst hv2 hg2 hT2 HN
          go_wp2_with ((with_reducible refine gate_store (t := 53) rfl ?_); refine event_skip rfl (exec_store rfl rfl rfl HST.out) ?_)
          exact bodyPost_ret (results_val rfl _ _ (w.heap.size + 1) rfl HF.out.1) rfl (PPost.yes HR.out rfl (Owns.nil _ _) HF.out.2.1 HF.out.2.2)
        · have HR : Aside0 ((pieceR xs at_ 2 s).1 = wantN xs at_ s) := ⟨by rw [pieceR, if_neg (by decide), if_neg (by decide), if_pos rfl, if_neg hw]⟩
          have HN := Aside0.mk (bytes_no g A c xs at_ s W H.out.2.2.2.1 hw)
          have HW := Aside0.mk hw
          clear hw
          go_wp2_with fail
          refine HN.out.mono ?_
          rintro e w1 ⟨rfl, ⟨n, rfl⟩⟩
          refine ⟨rfl, PPost.no HR.out HW.out rfl (H.out.2.2.2.1.drewN n) ?_⟩
          exact H.out.2.2.2.2.2.1.trans (grown_drewN W n none)
      · have q2 : (k == 2) = false := by simpa using k2
        have HK2 := Aside0.mk k2
        clear k2
        by_cases k3 : k = 3
        · subst k3
          by_cases hw : wantN xs at_ s = 0
          · obtain ⟨n, hsn, hn⟩ := wantN_zero hw
            subst hsn
            have HN := Aside0.mk (zero_yes g A c xs at_ n W H.out.2.2.2.1 (hn H.out.2.2.2.1.le))
            by_cases hz : ((xs.drop at_).take n).all (· == 0) = true
            · have HR : Aside0 (pieceR xs at_ 3 (n : Int) = (0, 0, [], at_ + n)) := ⟨by rw [pieceR, if_neg (by decide), if_neg (by decide), if_neg (by decide), if_pos rfl, if_pos hw]; simp only [Int.toNat_natCast]; rw [if_pos hz]⟩
              have HZ : Aside0 (∀ e w1, ZPost 82 [] g A c xs at_ n W e w1 → e = .returned (.tuple #[]) ∧ Tape w1 g A c xs (at_ + n) ∧ W.grownBy w1 (some g)) := ⟨fun e w1 h => by unfold ZPost at h; rwa [if_pos hz] at h⟩
              clear hw hn hz
              go_wp2_with fail
              refine HN.out.mono ?_
              rintro e w1 hp
              obtain ⟨rfl, hT1, hg1⟩ := HZ.out e w1 hp
              have hv1 := blk_grown H.out.2.2.2.2.1 hg1 (by have := H.out.2.2.2.2.2.2; simp; omega)
              obtain ⟨W2, hst, hv2, hg2⟩ := val_over (x' := .int .u64 0) (y' := .slice none 0 0) hv1 rfl rfl
              have hT2 := hT1.grown_ne hv1 (noB2 (by simp) (by simp)) (by have := H.out.2.2.2.2.2.2; omega) hg2
              have HST := Aside0.mk hst
              have HF := Aside0.mk (And.intro hv2 (And.intro hT2 (grown2 (grown0_any H.out.2.2.2.2.2.1 (some g)) hg1 hg2 (by omega))))
              clear hT1 hg1 hv1 hst hv2 hg2 hT2 HN hp HZ
              go_wp2_with ((with_reducible refine gate_store (t := 53) rfl ?_); refine event_skip rfl (exec_store rfl rfl rfl HST.out) ?_)
              exact bodyPost_ret (results_val rfl _ _ (w.heap.size + 1) rfl HF.out.1) rfl (PPost.yes HR.out rfl (Owns.nil _ _) HF.out.2.1 HF.out.2.2)
            · have HR : Aside0 ((pieceR xs at_ 3 (n : Int)).1 = 11) := ⟨by rw [pieceR, if_neg (by decide), if_neg (by decide), if_neg (by decide), if_pos rfl, if_pos hw]; simp only [Int.toNat_natCast]; rw [if_neg hz]⟩
              have HZ : Aside0 (∀ e w1, ZPost 82 [] g A c xs at_ n W e w1 → e = stops 11 ∧ Drawn0 W w1) := ⟨fun e w1 h => by unfold ZPost at h; rwa [if_neg hz] at h⟩
              clear hw hn hz
              go_wp2_with fail
              refine HN.out.mono ?_
              rintro e w1 hp
              obtain ⟨rfl, ⟨m, rfl⟩⟩ := HZ.out e w1 hp
              refine ⟨rfl, PPost.no HR.out (by decide) rfl (H.out.2.2.2.1.drewN m) ?_⟩
              exact H.out.2.2.2.2.2.1.trans (grown_drewN W m none)
          · have HR : Aside0 ((pieceR xs at_ 3 s).1 = wantN xs at_ s) := ⟨by rw [pieceR, if_neg (by decide), if_neg (by decide), if_neg (by decide), if_pos rfl, if_neg hw]⟩
            have HN := Aside0.mk (zero_no g A c xs at_ s W H.out.2.2.2.1 hw)
            have HW := Aside0.mk hw
            clear hw
            go_wp2_with fail
            refine HN.out.mono ?_
            rintro e w1 ⟨rfl, ⟨n, rfl⟩⟩
            refine ⟨rfl, PPost.no HR.out HW.out rfl (H.out.2.2.2.1.drewN n) ?_⟩
            exact H.out.2.2.2.2.2.1.trans (grown_drewN W n none)
        · have q3 : (k == 3) = false := by simpa using k3
          have HK3 := Aside0.mk k3
          clear k3
          by_cases k4 : k = 4
          · subst k4
            by_cases hs0 : s = 0
            · subst hs0
              have HR : Aside0 (pieceR xs at_ 4 0 = (0, 0, xs.drop at_, xs.length)) := ⟨by rw [pieceR, if_neg (by decide), if_neg (by decide), if_neg (by decide), if_neg (by decide), if_pos ⟨rfl, rfl⟩]⟩
              have hle := H.out.2.2.2.1.le
              have qs : ((0 : Int) == 0) = true := rfl
              obtain ⟨c0, c1⟩ := H.out.2.2.2.1.drew.cells
              have hsub : IntKind.i64.wrap ((xs.length : Int) - (at_ : Int)) = (xs.length : Int) - (at_ : Int) := IntWalk.i64_in _ (by have := H.out.2.1; omega)
              have HN := Aside0.mk (bytes_yes g A c xs at_ (xs.length - at_) W.drew H.out.2.2.2.1.drew (by omega) (by have := H.out.2.1; omega) (by decide))
              rw [show ((xs.length - at_ : Nat) : Int) = (xs.length : Int) - (at_ : Int) by omega] at HN
              have HTK : Aside0 ((xs.drop at_).take (xs.length - at_) = xs.drop at_) := ⟨List.take_of_length_le (by simp)⟩
              rw [HTK.out, show at_ + (xs.length - at_) = xs.length by omega] at HN
              have hBl : (xs.drop at_).length ≤ 9223372036854775807 := by have := H.out.2.1; simp; omega
              have HV := Aside0.mk (blk_drew H.out.2.2.2.2.1)
              have HG := Aside0.mk (H.out.2.2.2.2.2.1.trans (show W.grownBy W.drew none from ⟨rfl, rfl, rfl, Nat.le_refl _, fun _ _ _ => rfl⟩))
              have HS : Aside0 (g < w.heap.size ∧ W.drew.heap.size = w.heap.size + 2) := ⟨H.out.2.2.2.2.2.2⟩
              have hle2 : (at_ : Int) ≤ (xs.length : Int) := by omega
              clear HTK
              go_upto_region 14 with fail
              refine RegionF.region_F (F := (fun X => X = W.drew)) 11 (by kernel_rfl) (by kernel_rfl) rfl ?_
              simp only [List.take_succ_cons, List.take_zero, List.drop_succ_cons, List.drop_zero]
              generalize W.drew = Y at *
              apply RegionF.wpF_step
              · rfl
              · (intro X hX; subst hX; go_simp; exact RegionF.GivesF.value rfl rfl)
              refine RegionF.wpF_put (fun K' hK' => ?_)
              go_simp
              refine hK' _ ?_
              clear hK' K'
              apply RegionF.wpF_step
              · rfl
              · (intro X hX; subst hX; go_simp; exact RegionF.GivesF.value rfl rfl)
              refine RegionF.wpF_put (fun K' hK' => ?_)
              go_simp
              refine hK' _ ?_
              clear hK' K'
              apply RegionF.wpF_step
              · rfl
              · (intro X hX; subst hX; go_simp; exact RegionF.GivesF.value rfl rfl)
              refine RegionF.wpF_put (fun K' hK' => ?_)
              go_simp
              refine hK' _ ?_
              clear hK' K'
              apply RegionF.wpF_step
              · rfl
              · (intro X hX; subst hX; go_simp; exact RegionF.GivesF.value rfl rfl)
              refine RegionF.wpF_put (fun K' hK' => ?_)
              go_simp
              refine hK' _ ?_
              clear hK' K'
              apply RegionF.wpF_step
              · rfl
              · (intro X hX; subst hX; go_simp; exact RegionF.GivesF.value rfl rfl)
              refine RegionF.wpF_put (fun K' hK' => ?_)
              go_simp
              refine hK' _ ?_
              clear hK' K'
              apply RegionF.wpF_step
              · rfl
              · (intro X hX; subst hX; go_simp; exact RegionF.GivesF.value rfl rfl)
              refine RegionF.wpF_put (fun K' hK' => ?_)
              go_simp
              refine hK' _ ?_
              clear hK' K'
              apply RegionF.wpF_step
              · rfl
              · (intro X hX; subst hX; go_simp; exact RegionF.GivesF.value rfl rfl)
              refine RegionF.wpF_put (fun K' hK' => ?_)
              go_simp
              refine hK' _ ?_
              clear hK' K'
              apply RegionF.wpF_step
              · rfl
              · (intro X hX; subst hX; go_simp; exact RegionF.GivesF.value rfl rfl)
              refine RegionF.wpF_put (fun K' hK' => ?_)
              go_simp
              refine hK' _ ?_
              clear hK' K'
              apply RegionF.wpF_step
              · rfl
              · (intro X hX; subst hX; go_simp; exact RegionF.GivesF.value rfl rfl)
              refine RegionF.wpF_put (fun K' hK' => ?_)
              go_simp
              refine hK' _ ?_
              clear hK' K'
              apply RegionF.wpF_step
              · rfl
              · (intro X hX; subst hX; go_simp; exact RegionF.GivesF.value rfl rfl)
              refine RegionF.wpF_put (fun K' hK' => ?_)
              go_simp
              refine hK' _ ?_
              clear hK' K'
              apply RegionF.wpF_step
              · rfl
              · (intro X hX; subst hX; go_simp; exact RegionF.GivesF.value rfl rfl)
              refine RegionF.wpF_put (fun K' hK' => ?_)
              go_simp
              refine hK' _ ?_
              clear hK' K'
              refine RegionF.wpF_nil (fun X hX => ?_)
              subst hX
              generalize xs.drop at_ = B at *
              go_wp2_with fail
              refine HN.out.mono ?_
              rintro e w1 ⟨v, rfl, hO1, hT1, hg1⟩
              obtain ⟨B1, e1, rfl, -, -⟩ := hO1.reads hBl
              have hv1 := blk_grown HV.out hg1 (by have := HS.out; simp; omega)
              obtain ⟨W2, hst, hv2, hg2⟩ := val_over (x' := .int .u64 0) (y' := _) hv1 rfl hO1.one
              have hT2 := hT1.grown_ne hv1 (noB2 (by simp) (by simp)) (by have := HS.out; omega) hg2
              have hO2 := (hO1.lower (b := w.heap.size) (by have := HS.out; omega)).kept hg2 (hO1.apart hv1 (by decide))
              have HST := Aside0.mk hst
              have HF := Aside0.mk (And.intro hv2 (And.intro hT2 (And.intro (grown2 (grown0_any HG.out (some g)) hg1 hg2 (by omega)) hO2)))
              clear hT1 hg1 hv1 hst hv2 hg2 hT2 HN hO1 hO2
              go_wp2_with ((with_reducible refine gate_store (t := 53) rfl ?_); refine event_skip rfl (exec_store rfl rfl rfl HST.out) ?_)
              exact bodyPost_ret (results_val rfl _ _ (w.heap.size + 1) rfl HF.out.1) rfl (PPost.yes HR.out rfl HF.out.2.2.2 HF.out.2.1 HF.out.2.2.1)
            · have HR : Aside0 ((pieceR xs at_ 4 s).1 = 1) := ⟨by rw [pieceR, if_neg (by decide), if_neg (by decide), if_neg (by decide), if_neg (by decide), if_neg (fun h => hs0 h.2)]⟩
              have qs : (s == 0) = false := by simpa using hs0
              clear hs0
              go_wp2_with fail
              exact ⟨rfl, PPost.no HR.out (by decide) rfl H.out.2.2.2.1 H.out.2.2.2.2.2.1⟩
          · have q4 : (k == 4) = false := by simpa using k4
            have HR : Aside0 ((pieceR xs at_ k s).1 = 1) := ⟨by rw [pieceR, if_neg HK0.out, if_neg HK1.out, if_neg HK2.out, if_neg HK3.out, if_neg (fun h => k4 h.1)]⟩
            clear k4
            go_wp2_with fail
            exact ⟨rfl, PPost.no HR.out (by decide) rfl H.out.2.2.2.1 H.out.2.2.2.2.2.1⟩
end Go.Proofs.Ytjidoedlmpjmnaa.Cur
