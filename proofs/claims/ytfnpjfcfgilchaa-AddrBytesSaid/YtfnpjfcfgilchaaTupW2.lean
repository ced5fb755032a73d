/- Tuples: the order. -/
import Derived.Test.YtfnpjfcfgilchaaTupW1
import Derived.Test.YtfnpjfcfgilchaaAddrB
import Derived.Test.YtfnpjfcfgilchaaAddrA
namespace Go.Proofs.Ytfnpjfcfgilchaa.AddrW
open Go.RowKit Go.Proofs.Ytfnpjfcfgilchaa.Segs Go.Proofs.Ytfnpjfcfgilchaa.Mem Go.Proofs.Ytfnpjfcfgilchaa.AddrO Go.Proofs.Ytfnpjfcfgilchaa.AddrEq Go.Proofs.Ytfnpjfcfgilchaa.AddrM Go.Proofs.Ytfnpjfcfgilchaa.Bits Go.Proofs.Ytfnpjfcfgilchaa.Help Go.Proofs.YtfnpjfcfgilchaaW.PrintWords Go.Proofs.YtfnpjfcfgilchaaW.PrintLast Go.Proofs.YtfnpjfcfgilchaaW.PrintMore
set_option linter.unusedVariables false
set_option linter.unusedSimpArgs false
def c3 (x y : Int) : Int := if x < y then -1 else if y < x then 1 else 0
def orL : List Int → Int
  | [] => 0
  | x :: xs => if x = 0 then orL xs else x
def ltT (a b : Tu) : Bool :=
  if a.p = b.p then
    (if refCmpS a.s.v a.s.b b.s.v b.s.b = 0 then
      (if refCmpS a.d.v a.d.b b.d.v b.d.b = 0 then (if a.sp = b.sp then decide (a.dp < b.dp) else decide (a.sp < b.sp)) else decide (refCmpS a.d.v a.d.b b.d.v b.d.b < 0))
      else decide (refCmpS a.s.v a.s.b b.s.v b.s.b < 0))
  else decide (a.p < b.p)
theorem c3_zero (x y : Int) : c3 x y = 0 ↔ x = y := by unfold c3; split <;> (try split) <;> omega
theorem c3_lt (x y : Int) : c3 x y < 0 ↔ x < y := by unfold c3; split <;> (try split) <;> omega
theorem or_lt {a b : Tu} (ha : OkT a) (hb : OkT b) : decide (orL [c3 a.p b.p, ordS a.s.v a.s.b b.s.v b.s.b, ordS a.d.v a.d.b b.d.v b.d.b, c3 a.sp b.sp, c3 a.dp b.dp] < 0) = ltT a b := by
  rw [ord_sgn _ _ _ _ ha.s.l hb.s.l ha.s.a hb.s.a, ord_sgn _ _ _ _ ha.d.l hb.d.l ha.d.a hb.d.a]
  simp only [orL, ltT, c3_zero, sgn_zero]
  by_cases h1 : a.p = b.p
  · rw [if_pos h1, if_pos h1]
    by_cases h2 : refCmpS a.s.v a.s.b b.s.v b.s.b = 0
    · rw [if_pos h2, if_pos h2]
      by_cases h3 : refCmpS a.d.v a.d.b b.d.v b.d.b = 0
      · rw [if_pos h3, if_pos h3]
        by_cases h4 : a.sp = b.sp
        · rw [if_pos h4, if_pos h4]
          by_cases h5 : a.dp = b.dp
          · rw [if_pos h5, h5]; simp
          · rw [if_neg h5]; simp only [c3_lt]
        · rw [if_neg h4, if_neg h4]; simp only [c3_lt]
      · rw [if_neg h3, if_neg h3]; simp only [sgn_lt]
    · rw [if_neg h2, if_neg h2]; simp only [sgn_lt]
  · rw [if_neg h1, if_neg h1]; simp only [c3_lt]
theorem isNaN_any (n : Int) (w : World) : Calls Try.prog 47 #[.int .i64 n] w fun e w' => e = .returned (.bool false) ∧ w' = w := by
  have hn : (n != n) = false := by simp
  go_enter Try.func47, Try.ntmps47
  go_wp2_with fail
  go_ret
  exact ⟨rfl, rfl⟩
theorem Compare_any (x y : Int) (w : World) : Calls Try.prog 42 #[.int .i64 x, .int .i64 y] w fun e w' => e = .returned (.int .i64 (c3 x y)) ∧ Below w.heap.size w w' := by
  have key : ∀ (d1 d2 : Bool), decide (x < y) = d1 → decide (y < x) = d2 → Calls Try.prog 42 #[.int .i64 x, .int .i64 y] w fun e w' => e = .returned (.int .i64 (if d1 then -1 else if d2 then 1 else 0)) ∧ Below w.heap.size w w' := by
    intro d1 d2 h1 h2
    go_enter Try.func42, Try.ntmps42
    go_wp2_with fail
    refine (isNaN_any x _).mono ?_
    rintro e w1 ⟨rfl, rfl⟩
    go_wp2_with fail
    refine (isNaN_any y _).mono ?_
    rintro e w2 ⟨rfl, rfl⟩
    cases d1 with
    | true =>
      go_wp2_with fail
      go_ret
      exact ⟨rfl, Below.refl _ _⟩
    | false =>
      cases d2 with
      | true =>
        go_wp2_with fail
        go_ret
        exact ⟨rfl, Below.refl _ _⟩
      | false =>
        go_wp2_with fail
        go_ret
        exact ⟨rfl, Below.refl _ _⟩
  have h := key _ _ rfl rfl
  have e : (if decide (x < y) = true then (-1 : Int) else if decide (y < x) = true then 1 else 0) = c3 x y := by simp [c3]
  rwa [e] at h
theorem Or_any (A : Option Addr) (c : Nat) (xs : List Int) (w : World) (hr : Kd.C (Kd.int .i64) w A xs.length xs) : Calls Try.prog 41 #[.slice A xs.length c] w fun e w' => e = .returned (.int .i64 (orL xs)) ∧ Below w.heap.size w w' := by
  have HR := Aside0.mk hr
  have hb : xs.length ≤ 9223372036854775807 := (Kd.reads_of_C (d := (0 : Int)) hr).2.1
  have HQ : Aside0 (orL xs = orL (xs.drop 0)) := ⟨rfl⟩
  clear hr
  go_enter Try.func41, Try.ntmps41
  go_wp2_with fail
  go_loop [8] (fun v8 => ∃ i : Nat, i ≤ xs.length ∧ v8 = .int .i64 (i : Int) ∧ Aside0 (orL xs = orL (xs.drop i))) (fun v8 => xs.length - (intOf v8).toNat)
  case atStart => exact ⟨0, Nat.zero_le _, rfl, HQ⟩
  case round =>
    clear HQ
    obtain ⟨i, hi, rfl, HQ⟩ := hrel
    by_cases hlt : i < xs.length
    · have hl : decide ((i : Int) < (xs.length : Int)) = true := by simp; omega
      obtain ⟨ad, rfl, hcl⟩ := (Kd.reads_of_C (d := (0 : Int)) HR.out).2.2 (by omega)
      have hc := hcl i hlt
      have hd : xs.drop i = xs.getD i 0 :: xs.drop (i + 1) := by
        rw [List.drop_eq_getElem_cons hlt, List.getD_eq_getElem?_getD, List.getElem?_eq_getElem hlt]; rfl
      have HD := Aside0.mk hd
      clear hd hcl
      generalize xs.getD i 0 = x at *
      by_cases hx : x = 0
      · subst hx
        have hx0 : ((0 : Int) != 0) = false := rfl
        go_wp2_with fail
        go_round
        case rel => exact ⟨i + 1, hlt, by first | rfl | go_num, ⟨by rw [HQ.out, HD.out]; rfl⟩⟩
        case measure => simp [intOf]; omega
      · have hx0 : (x != 0) = true := by simpa using hx
        go_wp2_with fail
        go_ret
        refine ⟨?_, Below.refl _ _⟩
        rw [HQ.out, HD.out, orL, if_neg hx]; rfl
    · have hl : decide ((i : Int) < (xs.length : Int)) = false := by simp; omega
      go_wp2_with fail
      go_ret
      refine ⟨?_, Below.refl _ _⟩
      rw [HQ.out, List.drop_of_length_le (by omega)]; rfl
theorem order_ok (v : Bool) (bs : List Int) (u : Bool) (cs : List Int) (w : World) (hb : OkA bs) (hc : OkA cs) :
    Calls Try.prog 38 #[.agg (av v bs), .agg (av u cs)] w fun e w' => e = .returned (.int .i64 (ordS v bs u cs)) ∧ Below w.heap.size w w' := order_any v bs u cs w hb.l hc.l
theorem cmp_ok (v : Bool) (bs : List Int) (u : Bool) (cs : List Int) (w : World) (hb : OkA bs) (hc : OkA cs) :
    Calls Try.prog 19 #[.agg (av v bs), .agg (av u cs)] w fun e w' => e = .returned (.int .i64 (refCmpS v bs u cs)) ∧ Below w.heap.size w w' :=
  refCmp_any v bs u cs w hb.l hc.l (fun x hx => by have := hb.a x hx; omega) (fun x hx => by have := hc.a x hx; omega)
set_option maxHeartbeats 8000000 in
theorem LessTuple_any (a b : Tu) (w : World) (ha : OkT a) (hb : OkT b) : Calls Try.prog 27 #[.agg (flat (tseg a)), .agg (flat (tseg b))] w fun e w' => e = .returned (.bool (ltT a b)) ∧ Below w.heap.size w w' := by
  have HM := Aside0.mk (((Mem.nil w).new (.cells (flat (tseg a)) 44)).new' (.cells (flat (tseg b)) 44) (g := w.heap.size + 1) (Array.size_push _).symm)
  simp only [List.nil_append, List.cons_append] at HM
  have H := Aside0.mk (And.intro ha hb)
  have HCP := Aside0.mk (fun W => Compare_any a.p b.p W)
  have HCS := Aside0.mk (fun W => order_ok a.s.v a.s.b b.s.v b.s.b W ha.s hb.s)
  have HCD := Aside0.mk (fun W => order_ok a.d.v a.d.b b.d.v b.d.b W ha.d hb.d)
  have HC3 := Aside0.mk (fun W => Compare_any a.sp b.sp W)
  have HC4 := Aside0.mk (fun W => Compare_any a.dp b.dp W)
  have HOL := Aside0.mk (or_lt ha hb)
  generalize c3 a.p b.p = x1 at *
  generalize ordS a.s.v a.s.b b.s.v b.s.b = x2 at *
  generalize ordS a.d.v a.d.b b.d.v b.d.b = x3 at *
  generalize c3 a.sp b.sp = x4 at *
  generalize c3 a.dp b.dp = x5 at *
  clear ha hb
  go_enter Try.func27, Try.ntmps27
  go_upto_region 1 with fail
  refine RegionF.region_F (F := (Mem w _)) 25 (by kernel_rfl) (by kernel_rfl) HM.out.drew ?_
  simp only [List.take_succ_cons, List.take_zero, List.drop_succ_cons, List.drop_zero]
  clear HM
  repeat (first
    | (refine RegionF.wpF_skip (by rfl) ?_
       refine RegionF.wpF_put (fun K' hK' => ?_)
       go_simp
       refine hK' _ ?_
       clear hK' K')
    | (apply RegionF.wpF_step
       · rfl
       · (intro W hW; first | (rw [exec_load rfl rfl (load_src H.out.1 (hW.get 0 rfl))]; exact RegionF.GivesF.value rfl hW) | (rw [exec_load rfl rfl (load_src H.out.2 (hW.get 1 rfl))]; exact RegionF.GivesF.value rfl hW) | (rw [exec_load rfl rfl (load_dst H.out.1 (hW.get 0 rfl))]; exact RegionF.GivesF.value rfl hW) | (rw [exec_load rfl rfl (load_dst H.out.2 (hW.get 1 rfl))]; exact RegionF.GivesF.value rfl hW) | (obtain ⟨c0, c17, c34, c35, c36⟩ := tcells H.out.1 (hW.get 0 rfl); obtain ⟨e0, e17, e34, e35, e36⟩ := tcells H.out.2 (hW.get 1 rfl); go_simp; exact RegionF.GivesF.value rfl hW) | (go_simp; first | exact RegionF.GivesF.value rfl hW | (apply RegionF.GivesF.enter; first | (with_reducible exact (HCP.out W).mono fun e w1 h => ⟨h.1, hW.below h.2⟩) | (with_reducible exact (HCS.out W).mono fun e w1 h => ⟨h.1, hW.below h.2⟩) | (with_reducible exact (HCD.out W).mono fun e w1 h => ⟨h.1, hW.below h.2⟩) | (with_reducible exact (HC3.out W).mono fun e w1 h => ⟨h.1, hW.below h.2⟩) | (with_reducible exact (HC4.out W).mono fun e w1 h => ⟨h.1, hW.below h.2⟩))))
       refine RegionF.wpF_put (fun K' hK' => ?_)
       go_simp
       refine hK' _ ?_
       clear hK' K'))
  refine RegionF.wpF_nil (fun W hW => ?_)
  have hr : Kd.C (Kd.int .i64) (W.alloc (.cells (nums .i64 [x1, x2, x3, x4, x5] ++ []).toArray 3)) (some ⟨W.heap.size, 0, none⟩) [x1, x2, x3, x4, x5].length [x1, x2, x3, x4, x5] := C_of_block0 (blk_new W _) (by simp)
  have HB := Aside0.mk (below_alloc hW.b (.cells (nums .i64 [x1, x2, x3, x4, x5] ++ []).toArray 3))
  have HO := Aside0.mk (Or_any (some ⟨W.heap.size, 0, none⟩) 5 [x1, x2, x3, x4, x5] _ hr)
  clear hr hW HCP HCS HCD HC3 HC4
  generalize orL [x1, x2, x3, x4, x5] = o at *
  go_wp2_with fail
  refine HO.out.mono ?_
  rintro e w1 ⟨rfl, hB⟩
  have HB2 := Aside0.mk (below_step HB.out hB)
  clear hB HB HO
  go_wp2_with fail
  go_ret
  exact ⟨by rw [← HOL.out]; rfl, HB2.out⟩
set_option maxHeartbeats 8000000 in
theorem RefLessTuple_any (a b : Tu) (w : World) (ha : OkT a) (hb : OkT b) : Calls Try.prog 28 #[.agg (flat (tseg a)), .agg (flat (tseg b))] w fun e w' => e = .returned (.bool (ltT a b)) ∧ Below w.heap.size w w' := by
  have HM := Aside0.mk (((Mem.nil w).new (.cells (flat (tseg a)) 44)).new' (.cells (flat (tseg b)) 44) (g := w.heap.size + 1) (Array.size_push _).symm)
  simp only [List.nil_append, List.cons_append] at HM
  have H := Aside0.mk (And.intro ha hb)
  have HCS := Aside0.mk (fun W => cmp_ok a.s.v a.s.b b.s.v b.s.b W ha.s hb.s)
  have HCD := Aside0.mk (fun W => cmp_ok a.d.v a.d.b b.d.v b.d.b W ha.d hb.d)
  have HLT : Aside0 (ltT a b = if a.p = b.p then (if refCmpS a.s.v a.s.b b.s.v b.s.b = 0 then (if refCmpS a.d.v a.d.b b.d.v b.d.b = 0 then (if a.sp = b.sp then decide (a.dp < b.dp) else decide (a.sp < b.sp)) else decide (refCmpS a.d.v a.d.b b.d.v b.d.b < 0)) else decide (refCmpS a.s.v a.s.b b.s.v b.s.b < 0)) else decide (a.p < b.p)) := ⟨rfl⟩
  generalize refCmpS a.s.v a.s.b b.s.v b.s.b = n at *
  generalize refCmpS a.d.v a.d.b b.d.v b.d.b = m at *
  clear ha hb
  obtain ⟨-, -, c34, c35, c36⟩ := tcells H.out.1 (HM.out.get 0 rfl)
  obtain ⟨-, -, e34, e35, e36⟩ := tcells H.out.2 (HM.out.get 1 rfl)
  go_enter Try.func28, Try.ntmps28
  by_cases h1 : a.p = b.p
  · have q1 : (a.p != b.p) = false := by simpa using h1
    rw [if_pos h1] at HLT
    clear h1
    go_wp2_with (first | ((with_reducible refine gate_load (t := 25) rfl ?_); (try refine gate_guard (by rfl) ?_); first | (refine Kd.event_run rfl (exec_load rfl rfl (load_src H.out.1 (HM.out.get 0 rfl))) ?_) | (refine Kd.event_run rfl (exec_load rfl rfl (load_src H.out.2 (HM.out.get 1 rfl))) ?_)) | fail)
    refine (HCS.out _).mono ?_
    rintro e w1 ⟨rfl, hB⟩
    replace HM := Aside0.mk (HM.out.below hB)
    clear hB
    clear c34 c35 c36 e34 e35 e36
    by_cases h2 : n = 0
    · subst h2
      have q2 : ((0 : Int) == 0) = true := rfl
      rw [if_pos rfl] at HLT
      go_wp2_with (first | ((with_reducible refine gate_load (t := 25) rfl ?_); (try refine gate_guard (by rfl) ?_); first | (refine Kd.event_run rfl (exec_load rfl rfl (load_dst H.out.1 (HM.out.get 0 rfl))) ?_) | (refine Kd.event_run rfl (exec_load rfl rfl (load_dst H.out.2 (HM.out.get 1 rfl))) ?_)) | fail)
      refine (HCD.out _).mono ?_
      rintro e w1 ⟨rfl, hB⟩
      replace HM := Aside0.mk (HM.out.below hB)
      clear hB
      obtain ⟨-, -, c34, c35, c36⟩ := tcells H.out.1 (HM.out.get 0 rfl)
      obtain ⟨-, -, e34, e35, e36⟩ := tcells H.out.2 (HM.out.get 1 rfl)
      by_cases h3 : m = 0
      · subst h3
        have q3 : ((0 : Int) != 0) = false := rfl
        rw [if_pos rfl] at HLT
        by_cases h4 : a.sp = b.sp
        · have q4 : (a.sp != b.sp) = false := by simpa using h4
          rw [if_pos h4] at HLT
          clear h4
          go_wp2_with fail
          go_ret
          exact ⟨by rw [HLT.out]; rfl, HM.out.b⟩
        · have q4 : (a.sp != b.sp) = true := by simpa using h4
          rw [if_neg h4] at HLT
          clear h4
          go_wp2_with fail
          go_ret
          exact ⟨by rw [HLT.out]; rfl, HM.out.b⟩
      · have q3 : (m != 0) = true := by simpa using h3
        rw [if_neg h3] at HLT
        clear h3
        go_wp2_with fail
        go_ret
        exact ⟨by rw [HLT.out]; rfl, HM.out.b⟩
    · have q2 : (n == 0) = false := by simpa using h2
      have q3 : (n != 0) = true := by simpa using h2
      rw [if_neg h2] at HLT
      clear h2
      go_wp2_with fail
      go_ret
      exact ⟨by rw [HLT.out]; rfl, HM.out.b⟩
  · have q1 : (a.p != b.p) = true := by simpa using h1
    rw [if_neg h1] at HLT
    clear h1
    go_wp2_with fail
    go_ret
    exact ⟨by rw [HLT.out]; rfl, HM.out.b⟩
end Go.Proofs.Ytfnpjfcfgilchaa.AddrW
