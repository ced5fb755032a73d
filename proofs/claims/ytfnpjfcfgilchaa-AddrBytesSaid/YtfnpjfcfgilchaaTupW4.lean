/- Tuples: '=='; the order, plain. -/
import Derived.Test.YtfnpjfcfgilchaaTupW3
namespace Go.Proofs.Ytfnpjfcfgilchaa.AddrW
open Go.RowKit Go.Proofs.Ytfnpjfcfgilchaa.Segs Go.Proofs.Ytfnpjfcfgilchaa.Mem Go.Proofs.Ytfnpjfcfgilchaa.AddrO Go.Proofs.Ytfnpjfcfgilchaa.AddrEq Go.Proofs.Ytfnpjfcfgilchaa.AddrM Go.Proofs.Ytfnpjfcfgilchaa.Bits Go.Proofs.Ytfnpjfcfgilchaa.Help Go.Proofs.YtfnpjfcfgilchaaW.PrintWords Go.Proofs.YtfnpjfcfgilchaaW.PrintLast Go.Proofs.YtfnpjfcfgilchaaW.PrintMore
set_option linter.unusedVariables false
set_option linter.unusedSimpArgs false
theorem eq_addrD (d : Nat) (v : Bool) {bs : List Int} (u : Bool) {cs : List Int} (hl : bs.length = 16) (hm : cs.length = 16) (w : World) :
    (Op.equalIn (d + 3) 25 (.agg (av v bs)) (.agg (av u cs))).run Try.prog w = .ok (v == u && decide (bs = cs)) w := by
  refine eqA_of (d := d + 2) Try.underlying25 Try.stoodInHeld25 ?_
  refine eqf_cons (by rfl) (part_bool v bs w) (part_bool u cs w) (eq_bool (d + 1) v u w) ?_
  exact eqf_last (by rfl) (part_b16 v hl w) (part_b16 u hm w) (eq_b16 d hl hm w)
theorem eq_int (d : Nat) (a b : Int) (w : World) : (Op.equalIn (d + 1) 3 (.int .i64 a) (.int .i64 b)).run Try.prog w = .ok (a == b) w := by
  have hu := Try.underlying3
  simp [Op.equalIn, run_underlying hu, go_sem]
theorem eq_tup {a b : Tu} (ha : OkT a) (hb : OkT b) (w : World) : (Op.equalIn 10000 44 (.agg (flat (tseg a))) (.agg (flat (tseg b)))).run Try.prog w = .ok (decide (a = b)) w := by
  obtain ⟨a0, a1, a2, a3, a4⟩ := toff ha
  obtain ⟨b0, b1, b2, b3, b4⟩ := toff hb
  have e : decide (a = b) = ((a.s.v == b.s.v && decide (a.s.b = b.s.b)) && ((a.d.v == b.d.v && decide (a.d.b = b.d.b)) && ((a.p == b.p) && ((a.sp == b.sp) && (a.dp == b.dp))))) := by
    obtain ⟨⟨v1, b1⟩, ⟨v2, b2⟩, p, sp, dp⟩ := a
    obtain ⟨⟨u1, c1⟩, ⟨u2, c2⟩, q, sq, dq⟩ := b
    rw [Bool.eq_iff_iff]
    simp [and_assoc]
  rw [e]
  refine eqA_of (d := 9999) Try.underlying44 Try.stoodInHeld44 ?_
  refine eqf_cons (by rfl) (part_agg Try.underlying25 rfl info_addr (i := 0) rfl a0 (avl_len ha.s) w) (part_agg Try.underlying25 rfl info_addr (i := 0) rfl b0 (avl_len hb.s) w) (eq_addrD 9996 a.s.v b.s.v ha.s.l hb.s.l w) ?_
  refine eqf_cons (by rfl) (part_agg Try.underlying25 rfl info_addr (i := 1) rfl a1 (avl_len ha.d) w) (part_agg Try.underlying25 rfl info_addr (i := 1) rfl b1 (avl_len hb.d) w) (eq_addrD 9996 a.d.v b.d.v ha.d.l hb.d.l w) ?_
  refine eqf_cons (by rfl) (part_one Try.underlying3 rfl (i := 2) rfl a2 w) (part_one Try.underlying3 rfl (i := 2) rfl b2 w) (eq_int 9998 _ _ w) ?_
  refine eqf_cons (by rfl) (part_one Try.underlying3 rfl (i := 3) rfl a3 w) (part_one Try.underlying3 rfl (i := 3) rfl b3 w) (eq_int 9998 _ _ w) ?_
  exact eqf_last (by rfl) (part_one Try.underlying3 rfl (i := 4) rfl a4 w) (part_one Try.underlying3 rfl (i := 4) rfl b4 w) (eq_int 9998 _ _ w)
theorem turn_turn (t : Tu) : turnT (turnT t) = t := rfl
theorem rt_turn (t : Tu) : rtB (turnT t) = rtB t := by
  simp only [rtB, turnT]
  rw [show (t.d.v == t.s.v) = (t.s.v == t.d.v) by cases t.s.v <;> cases t.d.v <;> rfl]
  cases (t.s.v == t.d.v) <;> cases rightB t.s.v t.s.b <;> cases rightB t.d.v t.d.b <;> cases inP t.sp <;> cases inP t.dp <;> simp
theorem lt_self (t : Tu) : ltT t t = false := by simp [ltT, rc_self]
theorem lt_iff (a b : Tu) : ltT a b = true ↔ (a.p < b.p ∨ (a.p = b.p ∧ (refCmpS a.s.v a.s.b b.s.v b.s.b < 0 ∨ (refCmpS a.s.v a.s.b b.s.v b.s.b = 0 ∧ (refCmpS a.d.v a.d.b b.d.v b.d.b < 0 ∨ (refCmpS a.d.v a.d.b b.d.v b.d.b = 0 ∧ (a.sp < b.sp ∨ (a.sp = b.sp ∧ a.dp < b.dp)))))))) := by
  unfold ltT
  generalize refCmpS a.s.v a.s.b b.s.v b.s.b = x
  generalize refCmpS a.d.v a.d.b b.d.v b.d.b = y
  by_cases h1 : a.p = b.p
  · rw [if_pos h1]
    by_cases h2 : x = 0
    · rw [if_pos h2]
      by_cases h3 : y = 0
      · rw [if_pos h3]
        by_cases h4 : a.sp = b.sp
        · rw [if_pos h4, decide_eq_true_iff]; omega
        · rw [if_neg h4, decide_eq_true_iff]; omega
      · rw [if_neg h3, decide_eq_true_iff]; omega
    · rw [if_neg h2, decide_eq_true_iff]; omega
  · rw [if_neg h1, decide_eq_true_iff]; omega
theorem tu_ext {a b : Tu} (h1 : a.s.v = b.s.v ∧ a.s.b = b.s.b) (h2 : a.d.v = b.d.v ∧ a.d.b = b.d.b) (h3 : a.p = b.p) (h4 : a.sp = b.sp) (h5 : a.dp = b.dp) : a = b := by
  obtain ⟨⟨v1, b1⟩, ⟨v2, b2⟩, p, sp, dp⟩ := a
  obtain ⟨⟨u1, c1⟩, ⟨u2, c2⟩, q, sq, dq⟩ := b
  simp only at *
  obtain ⟨rfl, rfl⟩ := h1
  obtain ⟨rfl, rfl⟩ := h2
  subst h3 h4 h5
  rfl
theorem lt_anti {a b : Tu} (ha : OkT a) (hb : OkT b) (h : a ≠ b) : (ltT a b == ltT b a) = false := by
  have i1 := lt_iff a b
  have i2 := lt_iff b a
  have n1 := rc_neg a.s.v a.s.b b.s.v b.s.b
  have n2 := rc_neg a.d.v a.d.b b.d.v b.d.b
  have z1 := rc_zero a.s.v a.s.b b.s.v b.s.b (by rw [ha.s.l, hb.s.l])
  have z2 := rc_zero a.d.v a.d.b b.d.v b.d.b (by rw [ha.d.l, hb.d.l])
  have hne : ¬ (a.p = b.p ∧ refCmpS a.s.v a.s.b b.s.v b.s.b = 0 ∧ refCmpS a.d.v a.d.b b.d.v b.d.b = 0 ∧ a.sp = b.sp ∧ a.dp = b.dp) := fun ⟨q1, q2, q3, q4, q5⟩ => h (tu_ext (z1 q2) (z2 q3) q1 q4 q5)
  rw [n1, n2] at i2
  clear z1 z2 n1 n2
  generalize refCmpS a.s.v a.s.b b.s.v b.s.b = x at *
  generalize refCmpS a.d.v a.d.b b.d.v b.d.b = y at *
  cases h1 : ltT a b with
  | false =>
    cases h2 : ltT b a with
    | false =>
      rw [h1] at i1; rw [h2] at i2
      simp only [Bool.false_eq_true, false_iff] at i1 i2
      omega
    | true => rfl
  | true =>
    cases h2 : ltT b a with
    | false => rfl
    | true =>
      rw [h1] at i1; rw [h2] at i2
      simp only [true_iff] at i1 i2
      omega
theorem rc_eq_l {v : Bool} {bs : List Int} {u : Bool} {cs : List Int} (h : v = u ∧ bs = cs) (t : Bool) (ds : List Int) : refCmpS v bs t ds = refCmpS u cs t ds := by obtain ⟨rfl, rfl⟩ := h; rfl
theorem rc_eq_r {v : Bool} {bs : List Int} {u : Bool} {cs : List Int} (h : v = u ∧ bs = cs) (t : Bool) (ds : List Int) : refCmpS t ds u cs = refCmpS t ds v bs := by obtain ⟨rfl, rfl⟩ := h; rfl
theorem lt_trans {a b c : Tu} (ha : OkT a) (hb : OkT b) (hc : OkT c) (h1 : ltT a b = true) (h2 : ltT b c = true) : ltT a c = true := by
  have sz1 := rc_zero a.s.v a.s.b b.s.v b.s.b (by rw [ha.s.l, hb.s.l])
  have sz2 := rc_zero b.s.v b.s.b c.s.v c.s.b (by rw [hb.s.l, hc.s.l])
  have dz1 := rc_zero a.d.v a.d.b b.d.v b.d.b (by rw [ha.d.l, hb.d.l])
  have dz2 := rc_zero b.d.v b.d.b c.d.v c.d.b (by rw [hb.d.l, hc.d.l])
  have st := rc_trans a.s.v a.s.b b.s.v b.s.b c.s.v c.s.b (by rw [ha.s.l, hb.s.l]) (by rw [hb.s.l, hc.s.l])
  have dt := rc_trans a.d.v a.d.b b.d.v b.d.b c.d.v c.d.b (by rw [ha.d.l, hb.d.l]) (by rw [hb.d.l, hc.d.l])
  have k1 : refCmpS a.s.v a.s.b b.s.v b.s.b = 0 → refCmpS a.s.v a.s.b c.s.v c.s.b = refCmpS b.s.v b.s.b c.s.v c.s.b := fun e => rc_eq_l (sz1 e) _ _
  have k2 : refCmpS b.s.v b.s.b c.s.v c.s.b = 0 → refCmpS a.s.v a.s.b c.s.v c.s.b = refCmpS a.s.v a.s.b b.s.v b.s.b := fun e => rc_eq_r (sz2 e) _ _
  have k3 : refCmpS a.d.v a.d.b b.d.v b.d.b = 0 → refCmpS a.d.v a.d.b c.d.v c.d.b = refCmpS b.d.v b.d.b c.d.v c.d.b := fun e => rc_eq_l (dz1 e) _ _
  have k4 : refCmpS b.d.v b.d.b c.d.v c.d.b = 0 → refCmpS a.d.v a.d.b c.d.v c.d.b = refCmpS a.d.v a.d.b b.d.v b.d.b := fun e => rc_eq_r (dz2 e) _ _
  rw [lt_iff] at *
  clear sz1 sz2 dz1 dz2 ha hb hc
  generalize refCmpS a.s.v a.s.b b.s.v b.s.b = x1 at *
  generalize refCmpS b.s.v b.s.b c.s.v c.s.b = x2 at *
  generalize refCmpS a.s.v a.s.b c.s.v c.s.b = x3 at *
  generalize refCmpS a.d.v a.d.b b.d.v b.d.b = y1 at *
  generalize refCmpS b.d.v b.d.b c.d.v c.d.b = y2 at *
  generalize refCmpS a.d.v a.d.b c.d.v c.d.b = y3 at *
  omega
end Go.Proofs.Ytfnpjfcfgilchaa.AddrW
