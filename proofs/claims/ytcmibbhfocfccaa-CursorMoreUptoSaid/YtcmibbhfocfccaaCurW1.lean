/- The tape: the next bytes. -/
import Derived.Test.YtcmibbhfocfccaaProg
import Derived.Test.YtcmibbhfocfccaaWMore
import Derived.Test.YtcmibbhfocfccaaWGuard
import Derived.Test.YtcmibbhfocfccaaBase
import Derived.Test.YtcmibbhfocfccaaBits
import Derived.Test.YtcmibbhfocfccaaCurP
import Derived.Deep.RegionHeld3
import Derived.Deep.CutRange
import Derived.WalkLawsBesides
import Derived.IntWalk
import Derived.Deep.Slices
import Derived.Test.YtcmibbhfocfccaaOwn
import Derived.Deep.QuietTactic
import Derived.BigQuiet
namespace Go.Proofs.Ytcmibbhfocfccaa.Cur
open Go.RowKit Go.Proofs.Ytcmibbhfocfccaa.Own Go.Proofs.Ytcmibbhfocfccaa.CurP Go.Proofs.Ytcmibbhfocfccaa.Mem Go.Proofs.Ytcmibbhfocfccaa.Bits Go.Proofs.Ytcmibbhfocfccaa.Help Go.Proofs.YtcmibbhfocfccaaW.PrintWords Go.Proofs.YtcmibbhfocfccaaW.PrintLast Go.Proofs.YtcmibbhfocfccaaW.PrintMore
set_option linter.unusedVariables false
set_option linter.unusedSimpArgs false
/-- Somebody gives up, and why. -/
def stopV (k : Int) : Value := .iface 73 (.agg #[.int .i64 k])
def stops (k : Int) : Ending := .panicked [{ v := stopV k, recovered := false }]
/-- A tape's block. -/
def tapeC (A : Option Addr) (n c : Nat) (at_ : Nat) : Array Value := #[.slice A n c, .int .i64 (at_ : Int)]
structure Tape (W : World) (g : Nat) (A : Option Addr) (c : Nat) (xs : List Int) (at_ : Nat) : Prop where
  b : W.heap[g]? = some (.cells (tapeC A xs.length c at_) 61 (0, 0))
  r : Kd.C (Kd.int .u8) W A xs.length xs
  le : at_ ≤ xs.length
  cap : xs.length ≤ c
  c63 : xs.length ≤ 9223372036854775807
theorem Tape.drew {W : World} {g : Nat} {A : Option Addr} {c : Nat} {xs : List Int} {at_ : Nat} (h : Tape W g A c xs at_) : Tape W.drew g A c xs at_ := ⟨blk_drew h.b, Kd.C_drew h.r, h.le, h.cap, h.c63⟩
theorem Tape.cells {W : World} {g : Nat} {A : Option Addr} {c : Nat} {xs : List Int} {at_ : Nat} (h : Tape W g A c xs at_) : W.cell? ⟨g, 0, none⟩ = some (.slice A xs.length c) ∧ W.cell? ⟨g, 1, none⟩ = some (.int .i64 (at_ : Int)) := ⟨blk_cell h.b 0, blk_cell h.b 1⟩
theorem C_zero (w : World) (A : Option Addr) : Kd.C (Kd.int .u8) w A 0 [] :=
  Kd.C_of_reads (d := (0 : Int)) (h1 := fun _ => rfl) ⟨rfl, by simp, fun h => absurd h (by simp)⟩
/-- A part of bytes that are read. -/
theorem C_cut {w : World} {A : Option Addr} {xs : List Int} (h : Kd.C (Kd.int .u8) w A xs.length xs) (k n : Nat) (hn : k + n ≤ xs.length) : Kd.C (Kd.int .u8) w (A.map (·.add k)) n ((xs.drop k).take n) := by
  have hl : ((xs.drop k).take n).length = n := by simp; omega
  rcases Nat.eq_zero_or_pos n with rfl | hp
  · rw [List.take_zero]; exact C_zero _ _
  · obtain ⟨h1, h2, h3⟩ := Kd.reads_of_C (d := (0 : Int)) h
    obtain ⟨ad, rfl, hc⟩ := h3 (by omega)
    refine Kd.C_of_reads (d := (0 : Int)) (h1 := fun _ => rfl) ⟨by rw [hl], by omega, fun _ => ⟨_, rfl, fun j hj => ?_⟩⟩
    have := hc (k + j) (by omega)
    rw [Deep.add_add, this]
    simp [List.getD_eq_getElem?_getD, List.getElem?_take, hj]
theorem need_neg (g : Nat) (n : Int) (w : World) (hn : n < 0) : Calls Try.prog 42 #[.pointer (some ⟨g, 0, none⟩), .int .i64 n] w fun e w' => e = stops 1 ∧ Drawn0 w w' := by
  have d : decide (n < 0) = true := by simpa using hn
  go_enter Try.func42, Try.ntmps42
  go_wp2_with fail
  exact ⟨rfl, rfl, Drawn0.refl _⟩
theorem need_many (g : Nat) (A : Option Addr) (c : Nat) (xs : List Int) (at_ : Nat) (n : Int) (w : World) (hT : Tape w g A c xs at_) (hn : 0 ≤ n) (hm : (xs.length : Int) - at_ < n) :
    Calls Try.prog 42 #[.pointer (some ⟨g, 0, none⟩), .int .i64 n] w fun e w' => e = stops 10 ∧ Drawn0 w w' := by
  obtain ⟨c0, c1⟩ := hT.cells
  have hle := hT.le
  have hcap := hT.cap
  have hc63 := hT.c63
  have d : decide (n < 0) = false := by simpa using hn
  have d2 : decide ((xs.length : Int) - at_ < n) = true := by simpa using hm
  have hw : IntKind.i64.wrap ((xs.length : Int) - at_) = (xs.length : Int) - at_ := IntWalk.i64_in _ (by omega)
  clear hT
  go_enter Try.func42, Try.ntmps42
  go_wp2_with fail
  go_quiet (fail)
  go_wp2_with fail
  exact ⟨rfl, rfl, ⟨_, rfl⟩⟩
theorem need_yes (g : Nat) (A : Option Addr) (c : Nat) (xs : List Int) (at_ n : Nat) (w : World) (hT : Tape w g A c xs at_) (hn : at_ + n ≤ xs.length) :
    Calls Try.prog 42 #[.pointer (some ⟨g, 0, none⟩), .int .i64 (n : Int)] w fun e w' => ∃ B d, e = .returned (.slice B n d) ∧ n ≤ d ∧ Kd.C (Kd.int .u8) w B n ((xs.drop at_).take n) ∧ Drawn0 w w' := by
  obtain ⟨c0, c1⟩ := hT.cells
  have hle := hT.le
  have hcap := hT.cap
  have hc63 := hT.c63
  have d : decide ((n : Int) < 0) = false := by simp
  have d2 : decide ((xs.length : Int) - at_ < (n : Int)) = false := by simp; omega
  have hw : IntKind.i64.wrap ((xs.length : Int) - at_) = (xs.length : Int) - at_ := IntWalk.i64_in _ (by omega)
  have hw2 : IntKind.i64.wrap ((at_ : Int) + n) = (at_ : Int) + n := IntWalk.i64_in _ (by omega)
  have h3 : (at_ : Int) ≤ (at_ : Int) + n := by omega
  have h4 : (at_ : Int) + n ≤ (c : Int) := by omega
  have HR := Aside0.mk hT.r
  have HLE := Aside0.mk (And.intro hn hT.cap)
  clear hT
  go_enter Try.func42, Try.ntmps42
  go_wp2_with fail
  go_quiet (fail)
  go_wp2_with fail
  go_quiet (fail)
  go_wp2_with fail
  all_goals go_ret
  · exact ⟨_, _, rfl, by have := HLE.out; omega, by
      obtain rfl : n = 0 := by have := HLE.out; omega
      rw [List.take_zero]; exact C_zero _ _, ⟨_, rfl⟩⟩
  · exact ⟨_, _, rfl, by have := HLE.out; omega, C_cut HR.out at_ n HLE.out.1, ⟨_, rfl⟩⟩
end Go.Proofs.Ytcmibbhfocfccaa.Cur
