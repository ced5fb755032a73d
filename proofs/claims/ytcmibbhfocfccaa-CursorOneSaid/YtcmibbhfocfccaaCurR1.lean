/- The program's Reader: New, a number, the error, the end. -/
import Derived.Test.YtcmibbhfocfccaaCurW8
import Derived.Test.YtcmibbhfocfccaaRefB
namespace Go.Proofs.Ytcmibbhfocfccaa.Cur
open Go.RowKit Go.Proofs.Ytcmibbhfocfccaa.Segs Go.Proofs.Ytcmibbhfocfccaa.Own Go.Proofs.Ytcmibbhfocfccaa.CurP Go.Proofs.Ytcmibbhfocfccaa.Mem Go.Proofs.Ytcmibbhfocfccaa.Bits Go.Proofs.Ytcmibbhfocfccaa.Help Go.Proofs.YtcmibbhfocfccaaW.PrintWords Go.Proofs.YtcmibbhfocfccaaW.PrintLast Go.Proofs.YtcmibbhfocfccaaW.PrintMore
set_option linter.unusedVariables false
set_option linter.unusedSimpArgs false
/-- A Reader's block. -/
abbrev Rdr (why : Int) (W : World) (g : Nat) (A : Option Addr) (c : Nat) (xs : List Int) (at_ : Nat) : Prop := TapeG 76 [.int .i64 why] W g A c xs at_
theorem Rdr.why {why : Int} {W : World} {g : Nat} {A : Option Addr} {c : Nat} {xs : List Int} {at_ : Nat} (h : Rdr why W g A c xs at_) : W.cell? ⟨g, 2, none⟩ = some (.int .i64 why) := (blk_cell h.b 2).trans (by simp [tapeC])
theorem Rdr.err {why : Int} {W : World} {g : Nat} {A : Option Addr} {c : Nat} {xs : List Int} {at_ : Nat} (h : Rdr why W g A c xs at_) (k : Int) : Rdr k (W.setCell ⟨g, 2, none⟩ (.int .i64 k)) g A c xs at_ ∧ W.grownBy (W.setCell ⟨g, 2, none⟩ (.int .i64 k)) (some g) :=
  ⟨⟨by rw [blk_set h.b]; simp [tapeC], C_setCell (p := none) h.why (by simp) h.r, h.le, h.cap, h.c63⟩, setCells_grown W g [.int .i64 k] 2⟩
/-- What a number comes to. -/
def NPost (t : Nat) (more : List Value) (g : Nat) (A : Option Addr) (c : Nat) (xs : List Int) (at_ : Nat) (s : Int) (w : World) (e : Ending) (w' : World) : Prop :=
  if (pieceR xs at_ 0 s).1 = 0 then e = .returned (.int .u64 (pieceR xs at_ 0 s).2.1) ∧ TapeG t more w' g A c xs (pieceR xs at_ 0 s).2.2.2 ∧ w.grownBy w' (some g)
  else e = stops (pieceR xs at_ 0 s).1 ∧ Drawn0 w w'
theorem number_any (g : Nat) (A : Option Addr) (c : Nat) (xs : List Int) (at_ : Nat) (s : Int) (w : World) {t : Nat} {more : List Value} (hT : TapeG t more w g A c xs at_) (hx : AllB xs) :
    Calls Try.prog 35 #[.pointer (some ⟨g, 0, none⟩), .int .i64 s] w (NPost t more g A c xs at_ s w) := by
  by_cases h1 : s < 1 ∨ s > 8
  · have hp : pieceR xs at_ 0 s = (1, 0, [], at_) := by unfold pieceR; rw [if_pos rfl, if_pos h1]
    refine (number_bad g s w (by omega)).mono ?_
    intro e w' h
    unfold NPost
    rw [hp]; rw [if_neg (show ¬ ((1 : Int), (0 : Int), ([] : List Int), at_).1 = 0 from fun h => absurd h (by simp))]; exact h
  · by_cases h2 : s > (xs.length : Int) - at_
    · have hp : pieceR xs at_ 0 s = (10, 0, [], at_) := by unfold pieceR; rw [if_pos rfl, if_neg h1, if_pos h2]
      refine (number_many g A c xs at_ s w hT (by omega) (by omega) (by omega)).mono ?_
      intro e w' h
      unfold NPost
      rw [hp]; rw [if_neg (show ¬ ((10 : Int), (0 : Int), ([] : List Int), at_).1 = 0 from fun h => absurd h (by simp))]; exact h
    · obtain ⟨sn, rfl⟩ : ∃ sn : Nat, s = (sn : Int) := ⟨s.toNat, by omega⟩
      have hp : pieceR xs at_ 0 sn = (0, numL ((xs.drop at_).take sn), [], at_ + sn) := by unfold pieceR; rw [if_pos rfl, if_neg h1, if_neg h2, Int.toNat_natCast]
      refine (number_yes g A c xs at_ sn w hT hx (by omega) (by omega) (by omega)).mono ?_
      intro e w' h
      unfold NPost
      rw [hp, if_pos rfl]
      exact h
theorem own_empty (w : World) (base : Nat) (hb : base ≤ w.heap.size) : Owns (w.alloc (.cells #[] 5)) base (.slice (some ⟨w.heap.size, 0, none⟩) 0 0) [] :=
  ⟨rfl, .inr ⟨w.heap.size, 0, #[], rfl, hb, blk_new w _, Nat.le_refl _, by simp [maxLen], rfl, rfl⟩⟩
set_option maxHeartbeats 4000000 in
theorem New_any (w : World) (A : Option Addr) (c : Nat) (xs : List Int) (hr : Kd.C (Kd.int .u8) w A xs.length xs) (hb : xs.length ≤ 140737488351232) :
    Calls Try.prog 20 #[.slice A xs.length c] w fun e w' => ∃ wB B d, e = .returned (.pointer (some ⟨wB.heap.size, 0, none⟩)) ∧ Rdr 0 w' wB.heap.size B d xs 0 ∧ Kd.C (Kd.int .u8) wB B xs.length xs ∧ Below w.heap.size w wB ∧ Below wB.heap.size wB w' := by
  have h0 := own_empty w w.heap.size (Nat.le_refl _)
  obtain ⟨v1, w1, hrun, hO, hg, -⟩ := append_bytes (ty := 22) (c := c) h0 (Kd.C_alloc hr _) (by simp; omega) (by rw [alloc_size]; omega)
  rw [List.nil_append] at hO
  obtain ⟨B, d, rfl, hd, hrd⟩ := hO.reads (by omega)
  have hB : Below w.heap.size w w1 := h0.keeps (below_alloc (Below.refl _ _) _) hg
  have HRUN := Aside0.mk hrun
  have HF := Aside0.mk (And.intro hd (And.intro hrd (And.intro hB (show xs.length ≤ 9223372036854775807 by omega))))
  clear hrun hO hg hd hrd hB hr hb h0
  go_enter Try.func20, Try.ntmps20
  go_wp2_with ((with_reducible refine gate_dst (N := 5) rfl ?_); refine Kd.event_run rfl (exec_append rfl rfl rfl HRUN.out) ?_)
  go_ret
  exact ⟨w1, B, d, rfl, ⟨blk_new w1 _, Kd.C_below HF.out.2.1 (below_alloc (Below.refl _ _) _), Nat.zero_le _, HF.out.1, HF.out.2.2.2⟩, HF.out.2.1, HF.out.2.2.1, below_alloc (Below.refl _ _) _⟩
theorem Err_any (why : Int) (w : World) (g : Nat) (A : Option Addr) (c : Nat) (xs : List Int) (at_ : Nat) (h : Rdr why w g A c xs at_) :
    Calls Try.prog 36 #[.pointer (some ⟨g, 0, none⟩)] w fun e w' => e = .returned (.int .i64 why) ∧ w = w' := by
  have c2 := h.why
  clear h
  go_enter Try.func36, Try.ntmps36
  go_wp2_with fail
  go_ret
  exact ⟨rfl, rfl⟩
theorem Left_any (why : Int) (w : World) (g : Nat) (A : Option Addr) (c : Nat) (xs : List Int) (at_ : Nat) (h : Rdr why w g A c xs at_) :
    Calls Try.prog 37 #[.pointer (some ⟨g, 0, none⟩)] w fun e w' => e = .returned (.int .i64 ((xs.length : Int) - at_)) ∧ Drawn0 w w' := by
  obtain ⟨c0, c1⟩ := h.cells
  have hle := h.le
  have h63 := h.c63
  have hw : IntKind.i64.wrap ((xs.length : Int) - at_) = (xs.length : Int) - at_ := IntWalk.i64_in _ (by omega)
  clear h
  go_enter Try.func37, Try.ntmps37
  go_wp2_with fail
  go_quiet (fail)
  go_wp2_with fail
  go_ret
  exact ⟨rfl, ⟨_, rfl⟩⟩
/-- The error at the end. -/
def endE (xs : List Int) (at_ : Nat) (why : Int) : Int := if why ≠ 0 then why else if at_ = xs.length then 0 else 11
theorem End_any (why : Int) (w : World) (g : Nat) (A : Option Addr) (c : Nat) (xs : List Int) (at_ : Nat) (h : Rdr why w g A c xs at_) :
    Calls Try.prog 22 #[.pointer (some ⟨g, 0, none⟩)] w fun e w' => e = .returned (.int .i64 (endE xs at_ why)) ∧ Drawn0 w w' := by
  have HE := Aside0.mk (Err_any why w g A c xs at_ h)
  have HL := Aside0.mk (Left_any why w g A c xs at_ h)
  have hle := h.le
  by_cases hw : why = 0
  · subst hw
    by_cases ha : at_ = xs.length
    · have q : ((xs.length : Int) - at_ == 0) = true := by subst ha; simp
      have hz : (xs.length : Int) - at_ = 0 := by omega
      have HR : Aside0 (endE xs at_ 0 = 0) := ⟨by unfold endE; rw [if_neg (by decide), if_pos ha]⟩
      rw [hz] at HL
      clear h ha hle hz q
      go_enter Try.func22, Try.ntmps22
      go_wp2_with fail
      refine HE.out.mono ?_
      rintro e w' ⟨rfl, rfl⟩
      go_wp2_with fail
      refine HL.out.mono ?_
      rintro e w' ⟨rfl, hD⟩
      have HD := Aside0.mk hD
      clear hD
      go_wp2_with fail
      go_ret
      exact ⟨by rw [HR.out]; rfl, HD.out⟩
    · have q : ((xs.length : Int) - at_ == 0) = false := by simp; omega
      have HR : Aside0 (endE xs at_ 0 = 11) := ⟨by unfold endE; rw [if_neg (by decide), if_neg ha]⟩
      clear h ha hle
      generalize (xs.length : Int) - at_ = m at *
      go_enter Try.func22, Try.ntmps22
      go_wp2_with fail
      refine HE.out.mono ?_
      rintro e w' ⟨rfl, rfl⟩
      go_wp2_with fail
      refine HL.out.mono ?_
      rintro e w' ⟨rfl, hD⟩
      have HD := Aside0.mk hD
      clear hD
      go_wp2_with fail
      go_ret
      exact ⟨by rw [HR.out]; rfl, HD.out⟩
  · have q : (why != 0) = true := by simpa using hw
    have HR : Aside0 (endE xs at_ why = why) := ⟨by unfold endE; rw [if_pos hw]⟩
    clear h hle hw HL
    go_enter Try.func22, Try.ntmps22
    go_wp2_with fail
    refine HE.out.mono ?_
    rintro e w' ⟨rfl, rfl⟩
    go_wp2_with fail
    go_ret
    exact ⟨by rw [HR.out]; rfl, Drawn0.refl _⟩
end Go.Proofs.Ytcmibbhfocfccaa.Cur
