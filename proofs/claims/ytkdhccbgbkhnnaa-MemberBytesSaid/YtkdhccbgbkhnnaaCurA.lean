/- CurA: CurW1, CurW2, CurW3, CurW4. -/
import Derived.Test.YtkdhccbgbkhnnaaCurT
import Derived.Test.YtkdhccbgbkhnnaaProg
import Derived.Test.YtkdhccbgbkhnnaaWMore
import Derived.Test.YtkdhccbgbkhnnaaWGuard
import Derived.Test.YtkdhccbgbkhnnaaBase
import Derived.Test.YtkdhccbgbkhnnaaBits
import Derived.Test.YtkdhccbgbkhnnaaCurQ
import Derived.Deep.RegionHeld3
import Derived.Deep.CutRange
import Derived.WalkLawsBesides
import Derived.IntWalk
import Derived.Deep.Slices
import Derived.Test.YtkdhccbgbkhnnaaOwn
import Derived.Deep.QuietTactic
import Derived.BigQuiet
import Derived.Deep.LoopGhost
import Derived.Test.YtkdhccbgbkhnnaaSegs
namespace Go.Proofs.Ytkdhccbgbkhnnaa.Cur
open Go.RowKit Go.Proofs.Ytkdhccbgbkhnnaa.Own Go.Proofs.Ytkdhccbgbkhnnaa.CurP Go.Proofs.Ytkdhccbgbkhnnaa.Mem Go.Proofs.Ytkdhccbgbkhnnaa.Bits Go.Proofs.Ytkdhccbgbkhnnaa.Help Go.Proofs.YtkdhccbgbkhnnaaW.PrintWords Go.Proofs.YtkdhccbgbkhnnaaW.PrintLast Go.Proofs.YtkdhccbgbkhnnaaW.PrintMore
set_option linter.unusedVariables false
set_option linter.unusedSimpArgs false
/-- A tape's block, and what stands behind the tape in it. -/
def tapeC (A : Option Addr) (n c : Nat) (at_ : Nat) (more : List Value) : Array Value := (.slice A n c :: .int .i64 (at_ : Int) :: more).toArray
/-- A tape at the head of a block of type t. -/
structure TapeG (t : Nat) (more : List Value) (W : World) (g : Nat) (A : Option Addr) (c : Nat) (xs : List Int) (at_ : Nat) : Prop where
  b : W.heap[g]? = some (.cells (tapeC A xs.length c at_ more) t (0, 0))
  r : Kd.C (Kd.int .u8) W A xs.length xs
  le : at_ ≤ xs.length
  cap : xs.length ≤ c
  c63 : xs.length ≤ 9223372036854775807
abbrev Tape (W : World) (g : Nat) (A : Option Addr) (c : Nat) (xs : List Int) (at_ : Nat) : Prop := TapeG 112 [] W g A c xs at_
section
variable {t : Nat} {more : List Value} {W : World} {g : Nat} {A : Option Addr} {c : Nat} {xs : List Int} {at_ : Nat}
theorem TapeG.drew (h : TapeG t more W g A c xs at_) : TapeG t more W.drew g A c xs at_ := ⟨blk_drew h.b, Kd.C_drew h.r, h.le, h.cap, h.c63⟩
theorem TapeG.cells (h : TapeG t more W g A c xs at_) : W.cell? ⟨g, 0, none⟩ = some (.slice A xs.length c) ∧ W.cell? ⟨g, 1, none⟩ = some (.int .i64 (at_ : Int)) := ⟨(blk_cell h.b 0).trans (by simp [tapeC]), (blk_cell h.b 1).trans (by simp [tapeC])⟩
end
theorem need_neg (g : Nat) (n : Int) (w : World) (hn : n < 0) : Calls Try.prog 69 #[.pointer (some ⟨g, 0, none⟩), .int .i64 n] w fun e w' => e = stops 1 ∧ Drawn0 w w' := by
  have d : decide (n < 0) = true := by simpa using hn
  go_enter Try.func69, Try.ntmps69
  go_wp2_with fail
  exact ⟨rfl, rfl, Drawn0.refl _⟩
theorem need_many (g : Nat) (A : Option Addr) (c : Nat) (xs : List Int) (at_ : Nat) (n : Int) (w : World) {t : Nat} {more : List Value} (hT : TapeG t more w g A c xs at_) (hn : 0 ≤ n) (hm : (xs.length : Int) - at_ < n) :
    Calls Try.prog 69 #[.pointer (some ⟨g, 0, none⟩), .int .i64 n] w fun e w' => e = stops 10 ∧ Drawn0 w w' := by
  obtain ⟨c0, c1⟩ := hT.cells
  have hle := hT.le
  have hcap := hT.cap
  have hc63 := hT.c63
  have d : decide (n < 0) = false := by simpa using hn
  have d2 : decide ((xs.length : Int) - at_ < n) = true := by simpa using hm
  have hw : IntKind.i64.wrap ((xs.length : Int) - at_) = (xs.length : Int) - at_ := IntWalk.i64_in _ (by omega)
  clear hT
  go_enter Try.func69, Try.ntmps69
  go_wp2_with fail
  go_quiet (fail)
  go_wp2_with fail
  exact ⟨rfl, rfl, ⟨_, rfl⟩⟩
theorem need_yes (g : Nat) (A : Option Addr) (c : Nat) (xs : List Int) (at_ n : Nat) (w : World) {t : Nat} {more : List Value} (hT : TapeG t more w g A c xs at_) (hn : at_ + n ≤ xs.length) :
    Calls Try.prog 69 #[.pointer (some ⟨g, 0, none⟩), .int .i64 (n : Int)] w fun e w' => ∃ B d, e = .returned (.slice B n d) ∧ n ≤ d ∧ Kd.C (Kd.int .u8) w B n ((xs.drop at_).take n) ∧ Drawn0 w w' := by
  obtain ⟨c0, c1⟩ := hT.cells
  have hle := hT.le
  have hcap := hT.cap
  have hc63 := hT.c63
  have d : decide ((n : Int) < 0) = false := by simp
  have d2 : decide ((xs.length : Int) - at_ < (n : Int)) = false := by simp; omega
  have hw : IntKind.i64.wrap ((xs.length : Int) - at_) = (xs.length : Int) - at_ := IntWalk.i64_in _ (by omega)
  have hw2 : IntKind.i64.wrap ((at_ : Int) + n) = (at_ : Int) + n := IntWalk.i64_in _ (by omega)
  have h3 : (at_ : Int) ≤ (at_ : Int) + n := by omega
  have h4 : (at_ : Int) + n ≤ (c : Int) := by omega
  have HR := Aside0.mk hT.r
  have HLE := Aside0.mk (And.intro hn hT.cap)
  clear hT
  go_enter Try.func69, Try.ntmps69
  go_wp2_with fail
  go_quiet (fail)
  go_wp2_with fail
  go_quiet (fail)
  go_wp2_with fail
  all_goals go_ret
  · exact ⟨_, _, rfl, by have := HLE.out; omega, by
      obtain rfl : n = 0 := by have := HLE.out; omega
      rw [List.take_zero]; exact C_zero _ _, ⟨_, rfl⟩⟩
  · exact ⟨_, _, rfl, by have := HLE.out; omega, C_cut HR.out at_ n HLE.out.1, ⟨_, rfl⟩⟩
end Go.Proofs.Ytkdhccbgbkhnnaa.Cur
namespace Go.Proofs.Ytkdhccbgbkhnnaa.Cur
open Go.RowKit Go.Proofs.Ytkdhccbgbkhnnaa.Own Go.Proofs.Ytkdhccbgbkhnnaa.CurP Go.Proofs.Ytkdhccbgbkhnnaa.Mem Go.Proofs.Ytkdhccbgbkhnnaa.Bits Go.Proofs.Ytkdhccbgbkhnnaa.Help Go.Proofs.YtkdhccbgbkhnnaaW.PrintWords Go.Proofs.YtkdhccbgbkhnnaaW.PrintLast Go.Proofs.YtkdhccbgbkhnnaaW.PrintMore
set_option linter.unusedVariables false
set_option linter.unusedSimpArgs false
theorem TapeG.set {t : Nat} {more : List Value} {W : World} {g : Nat} {A : Option Addr} {c : Nat} {xs : List Int} {at_ : Nat} (h : TapeG t more W g A c xs at_) (k : Nat) (hk : k ≤ xs.length) :
    TapeG t more (W.setCell ⟨g, 1, none⟩ (.int .i64 (k : Int))) g A c xs k ∧ W.grownBy (W.setCell ⟨g, 1, none⟩ (.int .i64 (k : Int))) (some g) :=
  ⟨⟨by rw [blk_set h.b]; simp [tapeC], C_setCell (p := none) h.cells.2 (by simp) h.r, hk, h.cap, h.c63⟩, setCells_grown W g [.int .i64 (k : Int)] 1⟩
theorem TapeG.drewN {t : Nat} {more : List Value} {W : World} {g : Nat} {A : Option Addr} {c : Nat} {xs : List Int} {at_ : Nat} (h : TapeG t more W g A c xs at_) (n : Nat) : TapeG t more (W.drewN n) g A c xs at_ := ⟨blk_drewN h.b n, Kd.C_drewN h.r n, h.le, h.cap, h.c63⟩
theorem TapeG.below {t : Nat} {more : List Value} {W W1 : World} {g : Nat} {A : Option Addr} {c : Nat} {xs : List Int} {at_ : Nat} (h : TapeG t more W g A c xs at_) (hB : Below W.heap.size W W1) : TapeG t more W1 g A c xs at_ := ⟨blk_below h.b hB, Kd.C_below h.r hB, h.le, h.cap, h.c63⟩
theorem TapeG.grown0 {t : Nat} {more : List Value} {W W1 : World} {g : Nat} {A : Option Addr} {c : Nat} {xs : List Int} {at_ : Nat} (h : TapeG t more W g A c xs at_) (hg : W.grownBy W1 none) : TapeG t more W1 g A c xs at_ := h.below (below_grown0 hg)
theorem need_no (g : Nat) (A : Option Addr) (c : Nat) (xs : List Int) (at_ : Nat) (n : Int) (w : World) {t : Nat} {more : List Value} (hT : TapeG t more w g A c xs at_) (h : wantN xs at_ n ≠ 0) :
    Calls Try.prog 69 #[.pointer (some ⟨g, 0, none⟩), .int .i64 n] w fun e w' => e = stops (wantN xs at_ n) ∧ Drawn0 w w' := by
  unfold wantN at h ⊢
  by_cases h1 : n < 0
  · rw [if_pos h1]; exact need_neg g n w h1
  · rw [if_neg h1] at h ⊢
    split at h
    · rename_i h2; rw [if_pos h2]; exact need_many g A c xs at_ n w hT (by omega) (by omega)
    · exact absurd rfl h
set_option maxHeartbeats 2000000 in
theorem number_yes (g : Nat) (A : Option Addr) (c : Nat) (xs : List Int) (at_ s : Nat) (w : World) {t : Nat} {more : List Value} (hT : TapeG t more w g A c xs at_) (hx : AllB xs) (h1 : 1 ≤ s) (h8 : s ≤ 8) (hn : at_ + s ≤ xs.length) :
    Calls Try.prog 59 #[.pointer (some ⟨g, 0, none⟩), .int .i64 (s : Int)] w fun e w' => e = .returned (.int .u64 (numL ((xs.drop at_).take s))) ∧ TapeG t more w' g A c xs (at_ + s) ∧ w.grownBy w' (some g) := by
  have HT := Aside0.mk hT
  have d1 : decide ((s : Int) < 1) = false := by simp; omega
  have d8 : decide (8 < (s : Int)) = false := by simp; omega
  have HB := Aside0.mk ((hx.drop at_).take s)
  have hlen : ((xs.drop at_).take s).length = s := by simp; omega
  have hc63 := hT.c63
  have hcap := hT.cap
  have ha63 : (at_ : Int) + (s : Int) ≤ 9223372036854775807 := by omega
  have H := Aside0.mk (And.intro hlen hn)
  clear hT hx hlen
  generalize hys : (xs.drop at_).take s = ys at *
  go_enter Try.func59, Try.ntmps59
  go_wp2_with fail
  refine (need_yes g A c xs at_ s _ HT.out H.out.2).mono ?_
  rintro e w1 ⟨B, d, rfl, hd, hC, ⟨k, rfl⟩⟩
  rw [hys] at hC
  have HT1 := Aside0.mk (HT.out.drewN k)
  have HC := Aside0.mk (Kd.C_drewN hC k)
  have HG := Aside0.mk (grown_drewN w k (some g))
  clear HT hC hys
  generalize w.drewN k = W at *
  go_wp2_with fail
  go_loop [5, 7, 20] (fun v5 v7 v20 => ∃ i : Nat, i ≤ s ∧ v20 = .int .i64 (i : Int) ∧ v5 = .int .u64 (numL (ys.take i))) (fun _ _ v20 => s - (intOf v20).toNat)
  case atStart => exact ⟨0, Nat.zero_le _, rfl, rfl⟩
  case round =>
    obtain ⟨i, hi, rfl, rfl⟩ := hrel
    by_cases hlt : i < s
    · have hl : decide ((i : Int) < (s : Int)) = true := by simp; omega
      obtain ⟨ad, rfl, hcl⟩ := (Kd.reads_of_C (d := (0 : Int)) HC.out).2.2 (by omega)
      have hc := hcl i hlt
      have hil : i < ys.length := by rw [H.out.1]; exact hlt
      have hsn : numL (ys.take (i + 1)) = numL (ys.take i) * 256 + ys.getD i 0 := by rw [take_snoc hil, numL_snoc]
      have hsm := numL_small (HB.out.take i) (by simp; omega)
      have hby : 0 ≤ ys.getD i 0 ∧ ys.getD i 0 < 256 := by
        rw [List.getD_eq_getElem?_getD, List.getElem?_eq_getElem hil]; exact HB.out _ (List.getElem_mem hil)
      have hor := num_step hsm.1 hsm.2 hby.1 hby.2
      rw [← hsn] at hor
      have hwc : IntKind.u64.wrap (ys.getD i 0) = ys.getD i 0 := wrap_u64_id (by omega) (by omega)
      have HH := Aside0.mk (And.intro hsn (And.intro hsm hby))
      clear hcl hsn hsm hby
      generalize hn2 : numL (ys.take (i + 1)) = n2 at *
      have HN2 := Aside0.mk hn2
      clear hn2
      generalize numL (ys.take i) = n1 at *
      generalize ys.getD i 0 = x at *
      go_wp2_with fail
      exact ⟨⟨i + 1, hlt, by first | rfl | go_num, by rw [HN2.out]⟩, by simp [intOf]; omega⟩
    · obtain rfl : i = s := by omega
      have hl : decide ((i : Int) < (i : Int)) = false := by simp
      obtain ⟨c0, c1⟩ := HT1.out.cells
      have f1 : W.frozen? ⟨g, 1, none⟩ = false := blk_frozen HT1.out.b _
      have hn1 : ((at_ : Int) + (i : Int)) = ((at_ + i : Nat) : Int) := by omega
      have hw : IntKind.i64.wrap (((at_ : Int)) + (i : Int)) = (at_ : Int) + (i : Int) := IntWalk.i64_in _ (by omega)
      have HTS := Aside0.mk (HT1.out.set (at_ + i) H.out.2)
      rw [← hn1] at HTS
      clear hn1
      go_wp2_with fail
      go_ret
      refine ⟨?_, HTS.out.1, HG.out.trans HTS.out.2⟩
      rw [List.take_of_length_le (by rw [H.out.1]; exact Nat.le_refl _)]; rfl
theorem number_bad (g : Nat) (s : Int) (w : World) (h : s < 1 ∨ 8 < s) :
    Calls Try.prog 59 #[.pointer (some ⟨g, 0, none⟩), .int .i64 s] w fun e w' => e = stops 1 ∧ Drawn0 w w' := by
  by_cases h1 : s < 1
  · have d1 : decide (s < 1) = true := by simpa using h1
    clear h
    go_enter Try.func59, Try.ntmps59
    go_wp2_with fail
    exact ⟨rfl, rfl, Drawn0.refl _⟩
  · have d1 : decide (s < 1) = false := by simpa using h1
    have d2 : decide (8 < s) = true := by simp; omega
    clear h
    go_enter Try.func59, Try.ntmps59
    go_wp2_with fail
    exact ⟨rfl, rfl, Drawn0.refl _⟩
theorem number_many (g : Nat) (A : Option Addr) (c : Nat) (xs : List Int) (at_ : Nat) (s : Int) (w : World) {t : Nat} {more : List Value} (hT : TapeG t more w g A c xs at_) (h1 : 1 ≤ s) (h8 : s ≤ 8) (hm : (xs.length : Int) - at_ < s) :
    Calls Try.prog 59 #[.pointer (some ⟨g, 0, none⟩), .int .i64 s] w fun e w' => e = stops 10 ∧ Drawn0 w w' := by
  have HT := Aside0.mk hT
  have d1 : decide (s < 1) = false := by simp; omega
  have d8 : decide (8 < s) = false := by simp; omega
  have H := Aside0.mk (And.intro h1 hm)
  clear hT hm
  go_enter Try.func59, Try.ntmps59
  go_wp2_with fail
  refine (need_many g A c xs at_ s _ HT.out (by have := H.out.1; omega) H.out.2).mono ?_
  rintro e w1 ⟨rfl, hD⟩
  exact ⟨rfl, rfl, hD⟩
end Go.Proofs.Ytkdhccbgbkhnnaa.Cur
namespace Go.Proofs.Ytkdhccbgbkhnnaa.Cur
open Go.RowKit Go.Proofs.Ytkdhccbgbkhnnaa.Own Go.Proofs.Ytkdhccbgbkhnnaa.CurP Go.Proofs.Ytkdhccbgbkhnnaa.Mem Go.Proofs.Ytkdhccbgbkhnnaa.Bits Go.Proofs.Ytkdhccbgbkhnnaa.Help Go.Proofs.YtkdhccbgbkhnnaaW.PrintWords Go.Proofs.YtkdhccbgbkhnnaaW.PrintLast Go.Proofs.YtkdhccbgbkhnnaaW.PrintMore
set_option linter.unusedVariables false
set_option linter.unusedSimpArgs false
/-- What zero comes to. -/
def ZPost (t : Nat) (more : List Value) (g : Nat) (A : Option Addr) (c : Nat) (xs : List Int) (at_ n : Nat) (w : World) (e : Ending) (w' : World) : Prop :=
  if ((xs.drop at_).take n).all (· == 0) then e = .returned (.tuple #[]) ∧ TapeG t more w' g A c xs (at_ + n) ∧ w.grownBy w' (some g) else e = stops 11 ∧ Drawn0 w w'
end Go.Proofs.Ytkdhccbgbkhnnaa.Cur
namespace Go.Proofs.Ytkdhccbgbkhnnaa.Cur
open Go.RowKit Go.Proofs.Ytkdhccbgbkhnnaa.Segs Go.Proofs.Ytkdhccbgbkhnnaa.Own Go.Proofs.Ytkdhccbgbkhnnaa.CurP Go.Proofs.Ytkdhccbgbkhnnaa.Mem Go.Proofs.Ytkdhccbgbkhnnaa.Bits Go.Proofs.Ytkdhccbgbkhnnaa.Help Go.Proofs.YtkdhccbgbkhnnaaW.PrintWords Go.Proofs.YtkdhccbgbkhnnaaW.PrintLast Go.Proofs.YtkdhccbgbkhnnaaW.PrintMore
set_option linter.unusedVariables false
set_option linter.unusedSimpArgs false
theorem TapeG.grown_ne {tt : Nat} {more : List Value} {W W2 : World} {q g : Nat} {cs : Array Value} {t : TypeId} {A : Option Addr} {c : Nat} {xs : List Int} {at_ : Nat} (h : TapeG tt more W g A c xs at_) (hb : W.heap[q]? = some (.cells cs t (0, 0))) (hn : NoB cs) (hq : g ≠ q) (hg : W.grownBy W2 (some q)) : TapeG tt more W2 g A c xs at_ :=
  ⟨blk_grown h.b hg (by simpa using hq), C_grown_ne hb hn hg h.r, h.le, h.cap, h.c63⟩
/-- A Val stored over another one. -/
theorem val_over {W : World} {q : Nat} {x y x' y' : Value} (hb : W.heap[q]? = some (.cells #[x, y] 97 (0, 0))) (hx : x'.oneCell' = true) (hy : y'.oneCell' = true) :
    ∃ W1, (storeVar 97 ⟨q, 0, none⟩ (.agg #[x', y'])).run Try.prog W = .ok () W1 ∧ W1.heap[q]? = some (.cells #[x', y'] 97 (0, 0)) ∧ W.grownBy W1 (some q) := by
  have h := seg_over (P := Try.prog) (ty := 97) (segs := [[x], [y]]) (segs' := [[x'], [y']]) hb rfl infoV rfl (by simp [hx, hy])
  exact ⟨_, h, setRow_heap _ _ _ _ _ _ hb, ⟨rfl, rfl, rfl, by simp, fun k _ hk => setRow_other W q k _ (fun e => hk (by simp [e]))⟩⟩
/-- What a piece comes to. -/
def PPost (g : Nat) (A : Option Addr) (c : Nat) (xs : List Int) (at_ : Nat) (k s : Int) (w : World) (e : Ending) (w' : World) : Prop :=
  if (pieceR xs at_ k s).1 = 0 then ∃ v, e = .returned (.agg #[.int .u64 (pieceR xs at_ k s).2.1, v]) ∧ Owns w' w.heap.size v (pieceR xs at_ k s).2.2.1 ∧ Tape w' g A c xs (pieceR xs at_ k s).2.2.2 ∧ w.grownBy w' (some g)
  else e = stops (pieceR xs at_ k s).1 ∧ Tape w' g A c xs at_ ∧ w.grownBy w' none
theorem PPost.yes {g : Nat} {A : Option Addr} {c : Nat} {xs : List Int} {at_ : Nat} {k s : Int} {w : World} {e : Ending} {w' : World} {N : Int} {B : List Int} {m : Nat} {v : Value} (hr : pieceR xs at_ k s = (0, N, B, m)) (he : e = .returned (.agg #[.int .u64 N, v])) (hO : Owns w' w.heap.size v B) (hT : Tape w' g A c xs m) (hg : w.grownBy w' (some g)) : PPost g A c xs at_ k s w e w' := by
  unfold PPost; rw [hr, if_pos rfl]; exact ⟨v, he, hO, hT, hg⟩
theorem PPost.no {g : Nat} {A : Option Addr} {c : Nat} {xs : List Int} {at_ : Nat} {k s : Int} {w : World} {e : Ending} {w' : World} {E : Int} (hr : (pieceR xs at_ k s).1 = E) (h0 : E ≠ 0) (he : e = stops E) (hT : Tape w' g A c xs at_) (hg : w.grownBy w' none) : PPost g A c xs at_ k s w e w' := by
  unfold PPost; rw [if_neg (by rw [hr]; exact h0), hr]; exact ⟨he, hT, hg⟩
theorem wantN_zero {xs : List Int} {at_ : Nat} {s : Int} (h : wantN xs at_ s = 0) : ∃ n : Nat, s = n ∧ (at_ ≤ xs.length → at_ + n ≤ xs.length) := by
  unfold wantN at h
  split at h
  · omega
  · split at h
    · omega
    · exact ⟨s.toNat, by omega, fun hl => by omega⟩
theorem grown2 {w W w1 W2 : World} {g q : Nat} (h0 : w.grownBy W (some g)) (h1 : W.grownBy w1 (some g)) (h2 : w1.grownBy W2 (some q)) (hq : w.heap.size ≤ q) : w.grownBy W2 (some g) := by
  have h := h0.trans h1
  exact ⟨h2.os.trans h.os, h2.tape.trans h.tape, h2.output.trans h.output, Nat.le_trans h.size h2.size, fun k hk hne => by
    rw [h2.block k (Nat.lt_of_lt_of_le hk h.size) (by simp; omega)]
    exact h.block k hk hne⟩
theorem results_val {fn : Func} {p : Tmp} (h : fn.results = #[.cell p 97]) (tmps : Array Value) (w : World) (q : Nat) {x y : Value} (hp : tmps.getD p undef = .pointer (some ⟨q, 0, none⟩)) (hb : w.heap[q]? = some (.cells #[x, y] 97 (0, 0))) :
    (results fn tmps).run Try.prog w = .ok (.agg #[x, y]) w :=
  results_cell_row h tmps w q _ _ (0, 0) _ hp hb Try.underlying97 rfl (by rw [infoV]; rfl)
end Go.Proofs.Ytkdhccbgbkhnnaa.Cur
