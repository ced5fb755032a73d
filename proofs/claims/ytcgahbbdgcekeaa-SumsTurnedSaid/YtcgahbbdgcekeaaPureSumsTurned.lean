/- One bit of any bytes that is turned turns both sums; some bits within 32 in a row turn the sum by 32 bits. Conditions: none beyond the row's own. -/
import Derived.Test.YtcgahbbdgcekeaaAx2
import Derived.Test.YtcgahbbdgcekeaaPureSumsUpdates
import Derived.Test.YtcgahbbdgcekeaaTurnP
namespace Go.Proofs.Ytcgahbbdgcekeaa.Pure
open Go.RowKit Go.Proofs.Ytcgahbbdgcekeaa.A Go.Proofs.Ytcgahbbdgcekeaa.Bits Go.Proofs.Ytcgahbbdgcekeaa.SumsP Go.Proofs.Ytcgahbbdgcekeaa.SumsEv Go.Proofs.Ytcgahbbdgcekeaa.EvP Go.Proofs.Ytcgahbbdgcekeaa.CountP Go.Proofs.Ytcgahbbdgcekeaa.TurnP Go.Proofs.YtcgahbbdgcekeaaW.PrintWords Go.Proofs.YtcgahbbdgcekeaaW.PrintLast Go.Proofs.YtcgahbbdgcekeaaW.PrintMore
set_option linter.unusedVariables false

theorem nat_of_bv {a b : BitVec 32} (h : a ≠ b) : ((a.toNat : Nat) : Int) ≠ (b.toNat : Int) := fun e => h (BitVec.eq_of_toNat_eq (by omega))
theorem tdiv8 (n : Nat) : Int.tdiv (n : Int) 8 = ((n / 8 : Nat) : Int) := by
  rw [Int.tdiv_eq_ediv_of_nonneg (by omega)]; rfl
theorem tmod8 (n : Nat) : Int.tmod (n : Int) 8 = ((n % 8 : Nat) : Int) := by
  rw [Int.tmod_eq_emod_of_nonneg (by omega)]; rfl
/-- What is left of the law, behind the loop. -/
theorem behind (l : List Int) (hl : Bytes l) (hb : l.length ≤ 140737488351232) (at_ : Nat) (hat : at_ < 8 * l.length) (bits : Int) (some_ : List Int) (any : Bool)
    (hs : Bytes some_) (hsl : some_.length = l.length) (hz : ∀ j, j < at_ ∨ at_ + 32 ≤ j → bitOf some_ j = bitOf l j) (ha : any = true → ∃ j, j < 8 * l.length ∧ bitOf some_ j ≠ bitOf l j) :
    Ev (fun k => (sums_Inet.f k (turn l at_)).bind fun t127 => ((sums_Inet.f k l).bind fun t128 => (if t127 = t128 then (some false) else ((sums_Crc.f k (turn l at_)).bind fun t129 => ((sums_Crc.f k l).bind fun t130 => (if t129 = t130 then (some false) else (if any = true then ((sums_Crc.f k some_).bind fun t131 => ((sums_Crc.f k l).bind fun t132 => (if t131 = t132 then (some false) else ((steelyardlaw02_known.f).bind fun t133 => (some t133))))) else ((steelyardlaw02_known.f).bind fun t134 => (some t134))))))))) true := by
  have ht := turn_bytes hl at_
  refine Ev.bind (inet_ev ht (by rw [turn_length]; omega)) (Ev.bind (inet_ev hl (by omega)) (ev_if_neg (turn_inet hl hat) ?_))
  refine Ev.bind (crc_ev ht (by rw [turn_length]; omega)) (Ev.bind (crc_ev hl (by omega)) (ev_if_neg (nat_of_bv (turn_crc hl hat _)) ?_))
  cases any with
  | false => exact ev_if_neg (by simp) known_ev
  | true =>
    refine ev_if_pos rfl (Ev.bind (crc_ev hs (by omega)) (Ev.bind (crc_ev hl (by omega)) (ev_if_neg (nat_of_bv (MoreS_burst _ _ l hs hl hsl at_ hz ?_)) known_ev)))
    rw [hsl]
    exact ha rfl
theorem turned_loop (l : List Int) (hl : Bytes l) (hb : l.length ≤ 140737488351232) (at_ : Nat) (hat : at_ < 8 * l.length) (bits : Int) (h0 : 0 ≤ bits) (h1 : bits ≤ 4294967295) :
    ∀ (d i : Nat) (some_ : List Int) (any : Bool), i + d = 32 → Bytes some_ → some_.length = l.length →
    (∀ j, bitOf some_ j = (bitOf l j ^^ (decide (at_ ≤ j ∧ j < at_ + i ∧ j < 8 * l.length) && tb bits (j - at_)))) → (any = true → ∃ j, j < i ∧ at_ + j < 8 * l.length ∧ tb bits j = true) →
    Ev (fun k => steelyardlaw02_SumsTurned.l0 k l (at_ : Int) bits (turn l at_) some_ any (i : Int)) true := by
  intro d
  induction d with
  | zero =>
    intro i some_ any hi hs hsl hbit hany
    have hi : i = 32 := by omega
    subst hi
    refine Ev.step (f := fun k => steelyardlaw02_SumsTurned.j1 k l (at_ : Int) bits (turn l at_) some_ any ((32 : Nat) : Int) false) (fun k => ?_) ?_
    · simp only [steelyardlaw02_SumsTurned.l0]
      rw [if_neg (by omega)]
    · refine Ev.step (f := _) (fun k => ?_) (behind l hl hb at_ hat bits some_ any hs hsl (fun j hj => ?_) (fun ha => ?_))
      · simp only [steelyardlaw02_SumsTurned.j1]
        rw [if_neg (by simp)]
      · rw [hbit, decide_eq_false (by omega)]; simp
      · obtain ⟨j, hj, hj2, hj3⟩ := hany ha
        refine ⟨at_ + j, hj2, ?_⟩
        rw [hbit, decide_eq_true (by omega), Nat.add_sub_cancel_left, hj3]
        cases bitOf l (at_ + j) <;> simp
  | succ d ih =>
    intro i some_ any hi hs hsl hbit hany
    by_cases hlt : at_ + i < 8 * l.length
    · have ea : wrap64 ((at_ : Int) + (i : Int)) = ((at_ + i : Nat) : Int) := by rw [wrap64_id (by omega) (by omega)]; omega
      have e8 : wrap64 (8 * (l.length : Int)) = 8 * (l.length : Int) := wrap64_id (by omega) (by omega)
      refine Ev.step (f := fun k => steelyardlaw02_SumsTurned.j1 k l (at_ : Int) bits (turn l at_) some_ any (i : Int) true) (fun k => ?_) ?_
      · simp only [steelyardlaw02_SumsTurned.l0]
        rw [if_pos (by omega), ea, e8, decide_eq_true (by omega)]
      · by_cases hbt : tb bits i = true
        · refine Ev.step (f := fun k => steelyardlaw02_SumsTurned.l0 k l (at_ : Int) bits (turn l at_) (turn some_ (at_ + i)) true ((i + 1 : Nat) : Int)) (fun k => ?_) (ih (i + 1) _ true (by omega) (turn_bytes hs _) (by rw [turn_length, hsl]) (fun j => ?_) (fun _ => ⟨i, by omega, hlt, hbt⟩))
          · simp only [steelyardlaw02_SumsTurned.j1]
            rw [if_pos trivial, if_pos (by rw [wrap_u64_id (by omega) (by omega)]; omega), if_pos ((bit_asked h0 h1 i (by omega)).2 hbt), ea, tdiv8, tmod8, wrap64_id (n := (((at_ + i) / 8 : Nat) : Int)) (by omega) (by omega), if_pos (by omega), if_pos (by omega), wrap_u64_id (n := (((at_ + i) % 8 : Nat) : Int)) (by omega) (by omega), if_pos (by omega), succ_nat i (by omega), rd_nat, xor_flip (hs.get _) (Nat.mod_lt _ (by decide)), Int.toNat_natCast]
            rfl
          · rw [turn_bit hs (by rw [hsl]; exact hlt), hbit]
            by_cases c : j = at_ + i
            · subst c
              rw [decide_eq_false (by omega), decide_eq_true (show at_ ≤ at_ + i ∧ at_ + i < at_ + (i + 1) ∧ at_ + i < 8 * l.length by omega), Nat.add_sub_cancel_left, hbt]
              simp
            · rw [decide_eq_false c, Bool.xor_false]
              congr 2
              exact decide_eq_decide.2 (by omega)
        · refine Ev.step (f := fun k => steelyardlaw02_SumsTurned.l0 k l (at_ : Int) bits (turn l at_) some_ any ((i + 1 : Nat) : Int)) (fun k => ?_) (ih (i + 1) _ any (by omega) hs hsl (fun j => ?_) (fun ha => ?_))
          · simp only [steelyardlaw02_SumsTurned.j1]
            rw [if_pos trivial, if_pos (by rw [wrap_u64_id (by omega) (by omega)]; omega), if_neg (fun h => hbt ((bit_asked h0 h1 i (by omega)).1 h)), succ_nat i (by omega)]
          · rw [hbit]
            by_cases c : j = at_ + i
            · subst c
              rw [Nat.add_sub_cancel_left, show tb bits i = false by simpa using hbt]
              simp
            · congr 2
              exact decide_eq_decide.2 (by omega)
          · obtain ⟨j, hj, h⟩ := hany ha
            exact ⟨j, by omega, h⟩
    · have ea : wrap64 ((at_ : Int) + (i : Int)) = ((at_ + i : Nat) : Int) := by rw [wrap64_id (by omega) (by omega)]; omega
      have e8 : wrap64 (8 * (l.length : Int)) = 8 * (l.length : Int) := wrap64_id (by omega) (by omega)
      refine Ev.step (f := fun k => steelyardlaw02_SumsTurned.j1 k l (at_ : Int) bits (turn l at_) some_ any (i : Int) false) (fun k => ?_) ?_
      · simp only [steelyardlaw02_SumsTurned.l0]
        rw [if_pos (by omega), ea, e8, decide_eq_false (by omega)]
      · refine Ev.step (f := _) (fun k => ?_) (behind l hl hb at_ hat bits some_ any hs hsl (fun j hj => ?_) (fun ha => ?_))
        · simp only [steelyardlaw02_SumsTurned.j1]
          rw [if_neg (by simp)]
        · rw [hbit, decide_eq_false (by omega)]; simp
        · obtain ⟨j, hj, hj2, hj3⟩ := hany ha
          refine ⟨at_ + j, hj2, ?_⟩
          rw [hbit, decide_eq_true (by omega), Nat.add_sub_cancel_left, hj3]
          cases bitOf l (at_ + j) <;> simp
theorem SumsTurned : steelyardlaw02_SumsTurned.Pure := by
  intro l a bits hm hr hw ha hi
  have hl : Bytes l := fun x hx => wf_u8.1 (hw x hx)
  have hi := wf_u32.1 hi
  refine Ev.rounds ?_
  unfold steelyardlaw02_SumsTurned.f
  by_cases hp : (l.length : Int) = 0
  · exact ev_if_pos hp known_ev
  refine ev_if_neg hp ?_
  rw [wrap64_id (n := 8 * (l.length : Int)) (by omega) (by omega), count_f (by omega) (by omega)]
  have hc := cnt_bd (k := a) (n := 8 * (l.length : Int)) (by omega)
  generalize cnt a (8 * (l.length : Int)) = c at hc
  obtain ⟨i, rfl⟩ := Int.eq_ofNat_of_zero_le hc.1
  simp only [Option.bind_some, List.nil_append, List.length_nil, Nat.zero_add]
  rw [tdiv8, tmod8, wrap64_id (n := ((i / 8 : Nat) : Int)) (by omega) (by omega), wrap_u64_id (n := ((i % 8 : Nat) : Int)) (by omega) (by omega)]
  refine ev_if_pos (by omega) (ev_if_pos (by omega) (ev_if_pos (by omega) (ev_if_pos (by omega) ?_)))
  rw [rd_nat, xor_flip (hl.get _) (Nat.mod_lt _ (by decide)), Int.toNat_natCast]
  exact turned_loop l hl (by omega) i (by omega) bits hi.1 hi.2 32 0 l false (by omega) hl rfl (fun j => by rw [decide_eq_false (by omega)]; simp) (fun h => by cases h)
end Go.Proofs.Ytcgahbbdgcekeaa.Pure
