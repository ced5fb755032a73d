/- The tape: noughts; a piece. -/
import Derived.Test.YtcmibbhfocfccaaCurW2
namespace Go.Proofs.Ytcmibbhfocfccaa.Cur
open Go.RowKit Go.Proofs.Ytcmibbhfocfccaa.Own Go.Proofs.Ytcmibbhfocfccaa.CurP Go.Proofs.Ytcmibbhfocfccaa.Mem Go.Proofs.Ytcmibbhfocfccaa.Bits Go.Proofs.Ytcmibbhfocfccaa.Help Go.Proofs.YtcmibbhfocfccaaW.PrintWords Go.Proofs.YtcmibbhfocfccaaW.PrintLast Go.Proofs.YtcmibbhfocfccaaW.PrintMore
set_option linter.unusedVariables false
set_option linter.unusedSimpArgs false
theorem zero_no (g : Nat) (A : Option Addr) (c : Nat) (xs : List Int) (at_ : Nat) (n : Int) (w : World) (hT : Tape w g A c xs at_) (h : wantN xs at_ n ≠ 0) :
    Calls Try.prog 40 #[.pointer (some ⟨g, 0, none⟩), .int .i64 n] w fun e w' => e = stops (wantN xs at_ n) ∧ Drawn0 w w' := by
  have HN := Aside0.mk (need_no g A c xs at_ n w hT h)
  clear h hT
  go_enter Try.func40, Try.ntmps40
  go_wp2_with fail
  refine HN.out.mono ?_
  rintro e w1 ⟨rfl, hD⟩
  exact ⟨rfl, rfl, hD⟩
/-- What zero comes to. -/
def ZPost (g : Nat) (A : Option Addr) (c : Nat) (xs : List Int) (at_ n : Nat) (w : World) (e : Ending) (w' : World) : Prop :=
  if ((xs.drop at_).take n).all (· == 0) then e = .returned (.tuple #[]) ∧ Tape w' g A c xs (at_ + n) ∧ w.grownBy w' (some g) else e = stops 11 ∧ Drawn0 w w'
set_option maxHeartbeats 2000000 in
theorem zero_yes (g : Nat) (A : Option Addr) (c : Nat) (xs : List Int) (at_ n : Nat) (w : World) (hT : Tape w g A c xs at_) (hn : at_ + n ≤ xs.length) :
    Calls Try.prog 40 #[.pointer (some ⟨g, 0, none⟩), .int .i64 (n : Int)] w (ZPost g A c xs at_ n w) := by
  have HT := Aside0.mk hT
  have hlen : ((xs.drop at_).take n).length = n := by simp; omega
  have hc63 := hT.c63
  have hcap := hT.cap
  have ha63 : (at_ : Int) + (n : Int) ≤ 9223372036854775807 := by omega
  have H := Aside0.mk (And.intro hlen hn)
  have HZ : Aside0 (∀ e w', ZPost g A c xs at_ n w e w' = if ((xs.drop at_).take n).all (· == 0) then e = .returned (.tuple #[]) ∧ Tape w' g A c xs (at_ + n) ∧ w.grownBy w' (some g) else e = stops 11 ∧ Drawn0 w w') := ⟨fun _ _ => rfl⟩
  clear hT hlen
  generalize hys : (xs.drop at_).take n = ys at *
  go_enter Try.func40, Try.ntmps40
  go_wp2_with fail
  refine (need_yes g A c xs at_ n _ HT.out H.out.2).mono ?_
  rintro e w1 ⟨B, d, rfl, hd, hC, ⟨k, rfl⟩⟩
  rw [hys] at hC
  have HT1 := Aside0.mk (HT.out.drewN k)
  have HC := Aside0.mk (Kd.C_drewN hC k)
  have HG := Aside0.mk (grown_drewN w k (some g))
  have HD : Aside0 (Drawn0 w (w.drewN k)) := ⟨⟨k, rfl⟩⟩
  clear HT hC hys
  generalize w.drewN k = W at *
  go_wp2_with fail
  go_loop [5, 10] (fun v5 v10 => ∃ i : Nat, i ≤ n ∧ v10 = .int .i64 (i : Int) ∧ Aside0 ((ys.take i).all (· == 0) = true)) (fun _ v10 => n - (intOf v10).toNat)
  case atStart => exact ⟨0, Nat.zero_le _, rfl, ⟨rfl⟩⟩
  case round =>
    obtain ⟨i, hi, rfl, HA⟩ := hrel
    by_cases hlt : i < n
    · have hl : decide ((i : Int) < (n : Int)) = true := by simp; omega
      obtain ⟨ad, rfl, hcl⟩ := (Kd.reads_of_C (d := (0 : Int)) HC.out).2.2 (by omega)
      have hc := hcl i hlt
      have hil : i < ys.length := by rw [H.out.1]; exact hlt
      have HTK := Aside0.mk (take_snoc hil)
      by_cases hx : ys.getD i 0 = 0
      · have hx0 : (ys.getD i 0 != 0) = false := by rw [hx]; rfl
        have HA2 : Aside0 ((ys.take (i + 1)).all (· == 0) = true) := ⟨by rw [HTK.out, List.all_append, HA.out, hx]; rfl⟩
        clear hcl hx HTK
        generalize ys.getD i 0 = x at *
        go_wp2_with fail
        exact ⟨⟨i + 1, hlt, by first | rfl | go_num, HA2⟩, by simp [intOf]; omega⟩
      · have hx0 : (ys.getD i 0 != 0) = true := by simpa using hx
        have HNO : Aside0 (ys.all (· == 0) = false) := ⟨by
          rw [Bool.eq_false_iff]
          intro h
          rw [List.all_eq_true] at h
          have := h _ (List.getElem_mem hil)
          rw [List.getD_eq_getElem?_getD, List.getElem?_eq_getElem hil] at hx
          exact hx (by simpa using this)⟩
        clear hcl hx HTK
        generalize ys.getD i 0 = x at *
        go_wp2_with fail
        refine ⟨rfl, ?_⟩
        rw [HZ.out, HNO.out]
        exact ⟨rfl, HD.out⟩
    · obtain rfl : i = n := by omega
      have hl : decide ((i : Int) < (i : Int)) = false := by simp
      obtain ⟨c0, c1⟩ := HT1.out.cells
      have f1 : W.frozen? ⟨g, 1, none⟩ = false := blk_frozen HT1.out.b _
      have hw : IntKind.i64.wrap (((at_ : Int)) + (i : Int)) = (at_ : Int) + (i : Int) := IntWalk.i64_in _ (by omega)
      have HTS := Aside0.mk (HT1.out.set (at_ + i) H.out.2)
      rw [show ((at_ + i : Nat) : Int) = (at_ : Int) + (i : Int) by omega] at HTS
      have HAL : Aside0 (ys.all (· == 0) = true) := ⟨by have := HA.out; rwa [List.take_of_length_le (by rw [H.out.1]; exact Nat.le_refl _)] at this⟩
      go_wp2_with fail
      refine bodyPost_end (results_none rfl _ _ _) rfl ?_
      rw [HZ.out, HAL.out]
      exact ⟨rfl, HTS.out.1, HG.out.trans HTS.out.2⟩
end Go.Proofs.Ytcmibbhfocfccaa.Cur
