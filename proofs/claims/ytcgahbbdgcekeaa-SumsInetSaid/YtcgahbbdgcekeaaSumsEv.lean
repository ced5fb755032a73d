/- What the printed functions of the package sums come to. -/
import Derived.Test.YtcgahbbdgcekeaaAx1
import Derived.Test.YtcgahbbdgcekeaaSumsP
import Derived.Test.YtcgahbbdgcekeaaEvP
namespace Go.Proofs.Ytcgahbbdgcekeaa.SumsEv
open Go.RowKit Go.Proofs.Ytcgahbbdgcekeaa.A Go.Proofs.Ytcgahbbdgcekeaa.Bits Go.Proofs.Ytcgahbbdgcekeaa.SumsP Go.Proofs.Ytcgahbbdgcekeaa.EvP Go.Proofs.YtcgahbbdgcekeaaW.PrintWords Go.Proofs.YtcgahbbdgcekeaaW.PrintLast Go.Proofs.YtcgahbbdgcekeaaW.PrintMore
set_option linter.unusedVariables false

theorem fold_ev0 : ∀ (m : Nat) (n : Int), n.toNat ≤ m → 0 ≤ n → n < 18446744073709551616 → Ev (fun k => sums_fold.l0 k n) (fs n) := by
  intro m
  induction m with
  | zero =>
    intro n hm h0 h
    refine Ev.step (f := fun _ => some n) (fun k => ?_) (ev_eq (Ev.now _) (fs_small h0 (by omega)).symm)
    simp only [sums_fold.l0]
    rw [if_neg (by omega), wrap_u16_id h0 (by omega)]
  | succ m ih =>
    intro n hm h0 h
    by_cases c : n > 65535
    · refine Ev.step (f := fun k => sums_fold.l0 k (n / 65536 + n % 65536)) (fun k => ?_) (ev_eq (ih _ (by omega) (by omega) (by omega)) (fs_round c))
      simp only [sums_fold.l0]
      have e : Go.bits .and .u64 n 65535 = n % 65536 := and_mask_u64 16 (by decide) h0 (by omega)
      rw [if_pos c, e, wrap_u64_id (by omega) (by omega)]
    · refine Ev.step (f := fun _ => some n) (fun k => ?_) (ev_eq (Ev.now _) (fs_small h0 (by omega)).symm)
      simp only [sums_fold.l0]
      rw [if_neg c, wrap_u16_id h0 (by omega)]
theorem fold_ev {n : Int} (h0 : 0 ≤ n) (h : n < 18446744073709551616) : Ev (fun k => sums_fold.f k n) (fs n) := fold_ev0 n.toNat n (Nat.le_refl _) h0 h

theorem add_ev0 (l : List Int) (hl : Bytes l) (hb : l.length ≤ 140737488355328) : ∀ (d i : Nat) (x : Int), i + d = l.length → 0 ≤ x → x + 65280 * d < 18446744073709551616 →
    Ev (fun k => sums_Add.l0 k x l (l.length : Int) (i : Int)) (fs (x + ws (decide (i % 2 = 0)) (l.drop i))) := by
  intro d
  induction d with
  | zero =>
    intro i x hi hx hx2
    refine Ev.step (f := fun k => (sums_fold.f k x).bind fun t => some t) (fun k => ?_) (Ev.bind (fold_ev hx (by omega)) (ev_eq (Ev.now _) ?_))
    · simp only [sums_Add.l0]
      rw [if_neg (by omega)]
    · rw [List.drop_of_length_le (by omega)]
      cases decide (i % 2 = 0) <;> simp [ws]
  | succ d ih =>
    intro i x hi hx hx2
    have hlt : i < l.length := by omega
    have hc := hl.get i
    rw [drop_get l i hlt]
    by_cases hp : i % 2 = 0
    · refine Ev.step (f := fun k => sums_Add.l0 k (x + l.getD i 0 * 256) l (l.length : Int) ((i + 1 : Nat) : Int)) (fun k => ?_) (ev_eq (ih (i + 1) _ (by omega) (by omega) (by omega)) ?_)
      · simp only [sums_Add.l0]
        rw [if_pos (by omega), if_pos (by omega), if_pos (by omega), if_pos ((tmod2 i).2 hp), rd_nat, succ_nat i (by omega), wrap_u64_id hc.1 (by omega), wrap_u64_id (n := l.getD i 0 * 256) (by omega) (by omega), wrap_u64_id (by omega) (by omega)]
      · rw [decide_eq_true hp, decide_eq_false (by omega), ws]
        congr 1; omega
    · refine Ev.step (f := fun k => sums_Add.l0 k (x + l.getD i 0) l (l.length : Int) ((i + 1 : Nat) : Int)) (fun k => ?_) (ev_eq (ih (i + 1) _ (by omega) (by omega) (by omega)) ?_)
      · simp only [sums_Add.l0]
        rw [if_pos (by omega), if_pos (by omega), if_pos (by omega), if_neg (fun h => hp ((tmod2 i).1 h)), rd_nat, succ_nat i (by omega), wrap_u64_id hc.1 (by omega), wrap_u64_id (by omega) (by omega)]
      · rw [decide_eq_false hp, decide_eq_true (by omega), ws]
        congr 1; omega
theorem add_ev {s : Int} {l : List Int} (h0 : 0 ≤ s) (h1 : s ≤ 65535) (hl : Bytes l) (hb : l.length ≤ 140737488355328) : Ev (fun k => sums_Add.f k s l) (AddS s l) := by
  unfold sums_Add.f
  rw [wrap_u64_id h0 (by omega)]
  exact add_ev0 l hl hb l.length 0 s (by omega) h0 (by omega)
theorem inet_ev {l : List Int} (hl : Bytes l) (hb : l.length ≤ 140737488355328) : Ev (fun k => sums_Inet.f k l) (InetS l) := by
  have h := AddS_bd (s := 0) (by omega) hl
  exact Ev.bind (add_ev (by omega) (by omega) hl hb) (ev_eq (Ev.now _) (not_u16 h.1 h.2))

/-! the sum by 32 bits -/
theorem step_one (r : BitVec 32) : Go.bits .xor .u32 ((r.toNat : Int) / 2) (Go.bits .and .u32 ((-(Go.bits .and .u32 (r.toNat : Int) 1)) % 4294967296) 3988292384) = ((step1 r).toNat : Int) := by
  have h1 : Go.bits .and .u32 (r.toNat : Int) 1 = (r.toNat : Int) % 2 := and_mask_u32 1 (by decide) (by omega) (by have := r.isLt; omega)
  have h2 : (r.toNat : Int) / (2 : Int) = (((r >>> 1).toNat : Nat) : Int) := by rw [BitVec.toNat_ushiftRight, Nat.shiftRight_eq_div_pow]; omega
  have hm : r.getLsbD 0 = decide (r.toNat % 2 = 1) := by simp [BitVec.getLsbD, Nat.testBit_zero]
  rw [h1, h2]
  unfold step1
  rw [hm]
  by_cases c : r.toNat % 2 = 1
  · have e1 : (-((r.toNat : Int) % 2)) % 4294967296 = ((BitVec.allOnes 32).toNat : Int) := by
      rw [show ((BitVec.allOnes 32).toNat : Int) = 4294967295 from rfl]; omega
    have e2 : (3988292384 : Int) = (poly.toNat : Int) := rfl
    rw [e1, e2, bits_and (n := 32) rfl rfl, BitVec.allOnes_and, bits_xor (n := 32) rfl rfl, decide_eq_true c]
    rfl
  · have e1 : (-((r.toNat : Int) % 2)) % 4294967296 = ((0#32).toNat : Int) := by simp; omega
    have e2 : (3988292384 : Int) = (poly.toNat : Int) := rfl
    rw [e1, e2, bits_and (n := 32) rfl rfl, BitVec.zero_and, bits_xor (n := 32) rfl rfl, decide_eq_false c]
    rfl
theorem step_ev0 : ∀ (d : Nat) (i : Nat) (r : BitVec 32), i + d = 8 → Ev (fun k => sums_step.l0 k (r.toNat : Int) (i : Int)) ((stepN d r).toNat : Int) := by
  intro d
  induction d with
  | zero =>
    intro i r hi
    refine Ev.step (f := fun _ => some (r.toNat : Int)) (fun k => ?_) (Ev.now _)
    simp only [sums_step.l0]
    rw [if_neg (by omega)]
  | succ d ih =>
    intro i r hi
    refine Ev.step (f := fun k => sums_step.l0 k ((step1 r).toNat : Int) ((i + 1 : Nat) : Int)) (fun k => ?_) (ih (i + 1) (step1 r) (by omega))
    simp only [sums_step.l0]
    rw [if_pos (by omega), step_one, succ_nat i (by omega)]
theorem bv_int {c : Int} (h : 0 ≤ c ∧ c ≤ 255) : ((bv c).toNat : Int) = c := by
  rw [bv, BitVec.toNat_ofNat, Nat.mod_eq_of_lt (by omega)]; omega
theorem step_ev (r : BitVec 32) {c : Int} (h : 0 ≤ c ∧ c ≤ 255) : Ev (fun k => sums_step.f k (r.toNat : Int) c) ((step8 r c).toNat : Int) := by
  unfold sums_step.f step8
  have e : Go.bits .xor .u32 (r.toNat : Int) (c % 4294967296) = ((r ^^^ bv c).toNat : Int) := by
    rw [← bits_xor (n := 32) (k := .u32) rfl rfl, bv_int h, Int.emod_eq_of_lt (by omega) (by omega)]
  rw [e]
  exact step_ev0 8 0 _ (by omega)
theorem not_u32 (r : BitVec 32) : Go.bits .xor .u32 4294967295 (r.toNat : Int) = ((~~~r).toNat : Int) := by
  have h := bits_xor (n := 32) (k := .u32) rfl rfl (BitVec.allOnes 32) r
  rw [show ((BitVec.allOnes 32).toNat : Int) = 4294967295 from rfl, BitVec.allOnes_xor] at h
  exact h
theorem more_ev0 (l : List Int) (hl : Bytes l) (hb : l.length ≤ 140737488355328) : ∀ (d i : Nat) (r : BitVec 32), i + d = l.length →
    Ev (fun k => sums_More.l0 k (r.toNat : Int) l (l.length : Int) (i : Int)) ((~~~ (crcR r (l.drop i))).toNat : Int) := by
  intro d
  induction d with
  | zero =>
    intro i r hi
    refine Ev.step (f := fun _ => some (Go.bits .xor .u32 4294967295 (r.toNat : Int))) (fun k => ?_) (ev_eq (Ev.now _) ?_)
    · simp only [sums_More.l0]
      rw [if_neg (by omega)]
    · rw [List.drop_of_length_le (by omega), not_u32]; rfl
  | succ d ih =>
    intro i r hi
    have hlt : i < l.length := by omega
    rw [drop_get l i hlt]
    refine Ev.step (f := fun k => (sums_step.f k (r.toNat : Int) (l.getD i 0)).bind fun t => sums_More.l0 k t l (l.length : Int) ((i + 1 : Nat) : Int)) (fun k => ?_) (Ev.bind (step_ev r (hl.get i)) (ih (i + 1) _ (by omega)))
    simp only [sums_More.l0]
    rw [if_pos (by omega), if_pos (by omega), if_pos (by omega), rd_nat, succ_nat i (by omega)]
theorem more_ev (s : BitVec 32) {l : List Int} (hl : Bytes l) (hb : l.length ≤ 140737488355328) : Ev (fun k => sums_More.f k (s.toNat : Int) l) ((MoreS s l).toNat : Int) := by
  unfold sums_More.f
  rw [not_u32]
  exact more_ev0 l hl hb l.length 0 _ (by omega)
theorem crc_ev {l : List Int} (hl : Bytes l) (hb : l.length ≤ 140737488355328) : Ev (fun k => sums_Crc.f k l) ((MoreS 0#32 l).toNat : Int) :=
  Ev.bind (more_ev 0#32 hl hb) (Ev.now _)
end Go.Proofs.Ytcgahbbdgcekeaa.SumsEv
