/- What the reference's sums come to: the same. -/
import Derived.Test.YtcgahbbdgcekeaaAx3
import Derived.Test.YtcgahbbdgcekeaaAx4
import Derived.Test.YtcgahbbdgcekeaaSumsEv
import Derived.Test.YtcgahbbdgcekeaaTurnP
namespace Go.Proofs.Ytcgahbbdgcekeaa.SumsEv
open Go.RowKit Go.Proofs.Ytcgahbbdgcekeaa.A Go.Proofs.Ytcgahbbdgcekeaa.Bits Go.Proofs.Ytcgahbbdgcekeaa.SumsP Go.Proofs.Ytcgahbbdgcekeaa.EvP Go.Proofs.Ytcgahbbdgcekeaa.TurnP Go.Proofs.YtcgahbbdgcekeaaW.PrintWords Go.Proofs.YtcgahbbdgcekeaaW.PrintLast Go.Proofs.YtcgahbbdgcekeaaW.PrintMore
set_option linter.unusedVariables false

theorem round_f {a b : Int} (ha0 : 0 ≤ a) (ha : a ≤ 65535) (hb0 : 0 ≤ b) (hb : b ≤ 65535) : steelyardref02_round.f a b = some (fs (a + b)) := by
  unfold steelyardref02_round.f
  rw [if_pos ⟨ha0, ha, hb0, hb⟩]
  congr 1
  unfold fs
  split <;> split <;> omega
theorem refadd_ev0 (l : List Int) (hl : Bytes l) (hb : l.length ≤ 140737488355328) : ∀ (d i : Nat) (x : Int), i + d = l.length → i % 2 = 0 → 0 ≤ x → x ≤ 65535 →
    Ev (fun k => steelyardref02_Add.l0 k x l (i : Int)) (AddS x (l.drop i)) := by
  intro d
  induction d using Nat.strongRecOn with
  | _ d ih =>
    intro i x hi hp h0 h1
    by_cases hlt : i < l.length
    · have hc := hl.get i
      have hc2 := hl.get (i + 1)
      have e2 : wrap64 ((i : Int) + 2) = ((i + 2 : Nat) : Int) := by rw [wrap64_id (by omega) (by omega)]; omega
      by_cases h2 : i + 1 < l.length
      · refine Ev.step (f := fun k => (steelyardref02_round.f x (l.getD i 0 * 256 + l.getD (i + 1) 0)).bind fun t => steelyardref02_Add.l0 k t l ((i + 2 : Nat) : Int)) (fun k => ?_) ?_
        · simp only [steelyardref02_Add.l0]
          rw [if_pos (by omega), if_pos (by omega), succ_nat i (by omega), if_pos (by omega), if_pos (by omega), rd_nat, rd_nat, wrap_u16_id hc.1 (by omega), wrap_u16_id hc2.1 (by omega), wrap_u16_id (n := l.getD i 0 * 256) (by omega) (by omega), or_join_u16 8 (by omega) (by omega) (by omega) hc2.1 (by omega) (by omega), e2]
        · rw [round_f h0 h1 (by omega) (by omega)]
          have hf := fs_bd (x + (l.getD i 0 * 256 + l.getD (i + 1) 0)) (by omega)
          refine ev_eq (ih (d - 2) (by omega) (i + 2) _ (by omega) (by omega) hf.1 hf.2) ?_
          rw [drop_get l i hlt, drop_get l (i + 1) h2, show i + 1 + 1 = i + 2 from rfl]
          unfold AddS
          rw [fs_add (by omega) (ws_bd _ (hl.drop _) true).1]
          congr 1
          simp only [ws]
          omega
      · refine Ev.step (f := fun k => (steelyardref02_round.f x (l.getD i 0 * 256)).bind fun t => steelyardref02_Add.l0 k t l ((i + 2 : Nat) : Int)) (fun k => ?_) ?_
        · simp only [steelyardref02_Add.l0]
          rw [if_pos (by omega), if_pos (by omega), succ_nat i (by omega), if_neg (by omega), rd_nat, wrap_u16_id hc.1 (by omega), wrap_u16_id (n := l.getD i 0 * 256) (by omega) (by omega), e2]
        · rw [round_f h0 h1 (by omega) (by omega)]
          have hf := fs_bd (x + l.getD i 0 * 256) (by omega)
          refine Ev.step (f := fun _ => some (fs (x + l.getD i 0 * 256))) (fun k => ?_) (ev_eq (Ev.now _) ?_)
          · simp only [Option.bind_some, steelyardref02_Add.l0]
            rw [if_neg (by omega)]
          · rw [drop_get l i hlt, List.drop_of_length_le (by omega)]
            unfold AddS
            simp [ws]
    · refine Ev.step (f := fun _ => some x) (fun k => ?_) (ev_eq (Ev.now _) ?_)
      · simp only [steelyardref02_Add.l0]
        rw [if_neg (by omega)]
      · rw [List.drop_of_length_le (by omega)]
        unfold AddS
        simp [ws, fs_small h0 h1]
theorem refadd_ev {s : Int} {l : List Int} (h0 : 0 ≤ s) (h1 : s ≤ 65535) (hl : Bytes l) (hb : l.length ≤ 140737488355328) : Ev (fun k => steelyardref02_Add.f k s l) (AddS s l) :=
  refadd_ev0 l hl hb l.length 0 s (by omega) rfl h0 h1

theorem half (r : BitVec 32) : ((r.toNat : Int) / (2 : Int)) = (((r >>> 1).toNat : Nat) : Int) := by
  rw [BitVec.toNat_ushiftRight, Nat.shiftRight_eq_div_pow]; omega
theorem low_bit (r : BitVec 32) : Go.bits .and .u32 (r.toNat : Int) 1 = if r.getLsbD 0 then 1 else 0 := by
  have h1 : Go.bits .and .u32 (r.toNat : Int) 1 = (r.toNat : Int) % 2 := and_mask_u32 1 (by decide) (by omega) (by have := r.isLt; omega)
  have hm : r.getLsbD 0 = decide (r.toNat % 2 = 1) := by simp [BitVec.getLsbD, Nat.testBit_zero]
  rw [h1, hm]
  by_cases c : r.toNat % 2 = 1
  · rw [decide_eq_true c]; simp; omega
  · rw [decide_eq_false c]; simp; omega
theorem byte_bit {c : Int} (h : 0 ≤ c ∧ c ≤ 255) {j : Nat} (hj : j < 8) : Go.bits .and .u32 ((shr .u8 c (IntKind.u64.wrap (j : Int))) % 4294967296) 1 = if (bv c).getLsbD j then 1 else 0 := by
  rw [wrap_u64_id (by omega) (by omega)]
  unfold shr
  rw [show min (j : Int).toNat IntKind.u8.bits = j by simp [IntKind.bits]; omega, bv_bit h, Nat.testBit_eq_decide_div_mod_eq]
  have e : c / 2 ^ j = ((c.toNat / 2 ^ j : Nat) : Int) := by
    obtain ⟨m, rfl⟩ := Int.eq_ofNat_of_zero_le h.1
    simp
  have hle : c.toNat / 2 ^ j ≤ c.toNat := Nat.div_le_self _ _
  rw [e]
  generalize c.toNat / 2 ^ j = q at hle
  rw [Int.emod_eq_of_lt (by omega) (by omega)]
  have := and_mask_u32 1 (by decide) (x := (q : Int)) (by omega) (by omega)
  rw [show ((2 : Int) ^ 1 - 1) = 1 from rfl, show ((2 : Int) ^ 1) = 2 from rfl] at this
  rw [this]
  by_cases c1 : q % 2 = 1
  · rw [decide_eq_true c1]; simp; omega
  · rw [decide_eq_false c1]; simp; omega
theorem step_bit (r : BitVec 32) (b : Bool) : step1 (r ^^^ bb b) = (r >>> 1) ^^^ (if r.getLsbD 0 = b then 0#32 else poly) := by
  unfold step1
  rw [BitVec.ushiftRight_xor_distrib, BitVec.getLsbD_xor, bb_bit, show bb b >>> 1 = 0#32 by cases b <;> decide, BitVec.xor_zero]
  cases r.getLsbD 0 <;> cases b <;> simp
theorem refmore_ev1 (l : List Int) (hb : l.length ≤ 140737488355328) (i : Nat) (hi : i < l.length) (hc : 0 ≤ l.getD i 0 ∧ l.getD i 0 ≤ 255) {v : Int} : ∀ (d j : Nat) (r : BitVec 32), j + d = 8 →
    Ev (fun k => steelyardref02_More.l0 k l ((feed r (fun q => (bv (l.getD i 0)).getLsbD (j + q)) d).toNat : Int) ((i + 1 : Nat) : Int)) v → Ev (fun k => steelyardref02_More.l1 k l (r.toNat : Int) (i : Int) (j : Int)) v := by
  intro d
  induction d with
  | zero =>
    intro j r hj h
    refine Ev.step (f := fun k => steelyardref02_More.l0 k l (r.toNat : Int) ((i + 1 : Nat) : Int)) (fun k => ?_) h
    simp only [steelyardref02_More.l1]
    rw [if_neg (by omega), succ_nat i (by omega)]
  | succ d ih =>
    intro j r hj h
    have hfeed : ∀ n, feed r (fun q => (bv (l.getD i 0)).getLsbD (j + q)) (n + 1) = feed (step1 (r ^^^ bb ((bv (l.getD i 0)).getLsbD j))) (fun q => (bv (l.getD i 0)).getLsbD (j + 1 + q)) n := fun n => by
      have := feed_add r (fun q => (bv (l.getD i 0)).getLsbD (j + q)) 1 n
      rw [Nat.add_comm n 1, this]
      have e1 : feed r (fun q => (bv (l.getD i 0)).getLsbD (j + q)) 1 = step1 (r ^^^ bb ((bv (l.getD i 0)).getLsbD j)) := rfl
      rw [e1]
      exact feed_congr fun q _ => by rw [← Nat.add_assoc]
    rw [hfeed] at h
    have h' := ih (j + 1) _ (by omega) h
    refine Ev.step (f := fun k => steelyardref02_More.l1 k l ((step1 (r ^^^ bb ((bv (l.getD i 0)).getLsbD j))).toNat : Int) (i : Int) ((j + 1 : Nat) : Int)) (fun k => ?_) h'
    simp only [steelyardref02_More.l1]
    rw [if_pos (by omega), if_pos (by omega), if_pos (by omega), if_pos (by rw [wrap_u64_id (by omega) (by omega)]; omega), rd_nat, byte_bit hc (by omega), low_bit, succ_nat j (by omega), step_bit, half]
    cases (bv (l.getD i 0)).getLsbD j <;> cases r.getLsbD 0
    · rw [if_pos (by simp)]; simp
    · rw [if_neg (by simp), show (3988292384 : Int) = (poly.toNat : Int) from rfl, bits_xor (n := 32) (k := .u32) rfl rfl]; simp
    · rw [if_neg (by simp), show (3988292384 : Int) = (poly.toNat : Int) from rfl, bits_xor (n := 32) (k := .u32) rfl rfl]; simp
    · rw [if_pos (by simp)]; simp
theorem feed_step8 (r : BitVec 32) {c : Int} (h : 0 ≤ c ∧ c ≤ 255) : feed r (fun q => (bv c).getLsbD (0 + q)) 8 = step8 r c := by
  unfold step8
  rw [feed_byte]
  have hz : bv c >>> 8 = 0#32 := by
    apply BitVec.eq_of_toNat_eq
    simp only [BitVec.toNat_ushiftRight, bv, BitVec.toNat_ofNat]
    rw [Nat.mod_eq_of_lt (by omega), Nat.shiftRight_eq_div_pow]
    simp
    omega
  rw [hz, BitVec.xor_zero]
  exact feed_congr fun q _ => by rw [Nat.zero_add]
theorem refmore_ev0 (l : List Int) (hl : Bytes l) (hb : l.length ≤ 140737488355328) : ∀ (d i : Nat) (r : BitVec 32), i + d = l.length →
    Ev (fun k => steelyardref02_More.l0 k l (r.toNat : Int) (i : Int)) ((~~~ (crcR r (l.drop i))).toNat : Int) := by
  intro d
  induction d with
  | zero =>
    intro i r hi
    refine Ev.step (f := fun _ => some (Go.bits .xor .u32 4294967295 (r.toNat : Int))) (fun k => ?_) (ev_eq (Ev.now _) ?_)
    · simp only [steelyardref02_More.l0]
      rw [if_neg (by omega)]
    · rw [List.drop_of_length_le (by omega), not_u32]; rfl
  | succ d ih =>
    intro i r hi
    have hlt : i < l.length := by omega
    have hc := hl.get i
    rw [drop_get l i hlt]
    refine Ev.step (f := fun k => steelyardref02_More.l1 k l (r.toNat : Int) (i : Int) ((0 : Nat) : Int)) (fun k => ?_) (refmore_ev1 l hb i hlt hc 8 0 r rfl ?_)
    · simp only [steelyardref02_More.l0]
      rw [if_pos (by omega)]
      rfl
    · rw [feed_step8 r hc]
      exact ih (i + 1) _ (by omega)
theorem refmore_ev (s : BitVec 32) {l : List Int} (hl : Bytes l) (hb : l.length ≤ 140737488355328) : Ev (fun k => steelyardref02_More.f k (s.toNat : Int) l) ((MoreS s l).toNat : Int) := by
  unfold steelyardref02_More.f
  rw [not_u32]
  exact refmore_ev0 l hl hb l.length 0 _ (by omega)
theorem refcrc_ev {l : List Int} (hl : Bytes l) (hb : l.length ≤ 140737488355328) : Ev (fun k => steelyardref02_Crc.f k l) ((MoreS 0#32 l).toNat : Int) :=
  Ev.bind (refmore_ev 0#32 hl hb) (Ev.now _)
theorem refinet_ev {l : List Int} (hl : Bytes l) (hb : l.length ≤ 140737488355328) : Ev (fun k => steelyardref02_Inet.f k l) (InetS l) := by
  have h := AddS_bd (s := 0) (by omega) hl
  exact Ev.bind (refadd_ev (by omega) (by omega) hl hb) (ev_eq (Ev.now _) (wrap_u16_id (by omega) (by omega)))
end Go.Proofs.Ytcgahbbdgcekeaa.SumsEv
