/- Tuples: in memory; can they be. -/
import Derived.Test.YtfnpjfcfgilchaaAddrL
import Derived.Test.YtfnpjfcfgilchaaWGuard
import Derived.Test.YtfnpjfcfgilchaaSegs
import Derived.Deep.CutRange
namespace Go.Proofs.Ytfnpjfcfgilchaa.AddrW
open Go.RowKit Go.Proofs.Ytfnpjfcfgilchaa.Segs Go.Proofs.Ytfnpjfcfgilchaa.Mem Go.Proofs.Ytfnpjfcfgilchaa.AddrEq Go.Proofs.Ytfnpjfcfgilchaa.AddrM Go.Proofs.Ytfnpjfcfgilchaa.Bits Go.Proofs.Ytfnpjfcfgilchaa.Help Go.Proofs.YtfnpjfcfgilchaaW.PrintWords Go.Proofs.YtfnpjfcfgilchaaW.PrintLast Go.Proofs.YtfnpjfcfgilchaaW.PrintMore
set_option linter.unusedVariables false
set_option linter.unusedSimpArgs false
structure Ad where
  v : Bool
  b : List Int
deriving DecidableEq
structure Tu where
  s : Ad
  d : Ad
  p : Int
  sp : Int
  dp : Int
deriving DecidableEq
def avl (a : Ad) : List Value := Value.bool a.v :: nums .u8 a.b
def tseg (t : Tu) : List (List Value) := [avl t.s, avl t.d, [.int .i64 t.p], [.int .i64 t.sp], [.int .i64 t.dp]]
def In64 (x : Int) : Prop := -9223372036854775808 ≤ x ∧ x ≤ 9223372036854775807
structure OkT (t : Tu) : Prop where
  s : OkA t.s.b
  d : OkA t.d.b
  p : In64 t.p
  sp : In64 t.sp
  dp : In64 t.dp
theorem avl_len {a : Ad} (h : OkA a.b) : (avl a).length = 17 := by simp [avl, nums, h.l]
theorem toff {t : Tu} (h : OkT t) : off (tseg t) 0 = 0 ∧ off (tseg t) 1 = 17 ∧ off (tseg t) 2 = 34 ∧ off (tseg t) 3 = 35 ∧ off (tseg t) 4 = 36 := by
  simp [off, tseg, avl_len h.s, avl_len h.d]
theorem tlen {t : Tu} (h : OkT t) : (tseg t).flatten.length = 37 := by simp [tseg, avl_len h.s, avl_len h.d]
theorem tone (t : Tu) : ∀ x ∈ (tseg t).flatten, x.oneCell' = true := by
  intro x hx
  simp only [tseg, avl, nums, List.flatten_cons, List.flatten_nil, List.mem_append, List.mem_cons, List.mem_map, List.append_nil, List.not_mem_nil, or_false] at hx
  rcases hx with (rfl | ⟨q, _, rfl⟩) | (rfl | ⟨q, _, rfl⟩) | rfl | rfl | rfl <;> rfl
theorem infoT : (Try.prog.info? 44).map (·.size) = some 37 := by kernel_rfl
/-- A tuple's block. -/
abbrev BT (g : Nat) (t : Tu) : World → Prop := Blk g (.cells (flat (tseg t)) 44 (0, 0))
theorem tcells {W : World} {g : Nat} {t : Tu} (h : OkT t) (hb : BT g t W) : W.cell? ⟨g, 0, none⟩ = some (.bool t.s.v) ∧ W.cell? ⟨g, 17, none⟩ = some (.bool t.d.v) ∧ W.cell? ⟨g, 34, none⟩ = some (.int .i64 t.p) ∧ W.cell? ⟨g, 35, none⟩ = some (.int .i64 t.sp) ∧ W.cell? ⟨g, 36, none⟩ = some (.int .i64 t.dp) := by
  obtain ⟨o0, o1, o2, o3, o4⟩ := toff h
  exact ⟨seg_cellj hb (i := 0) rfl o0 0 rfl, seg_cellj hb (i := 1) rfl o1 0 rfl, seg_cell hb (i := 2) rfl o2, seg_cell hb (i := 3) rfl o3, seg_cell hb (i := 4) rfl o4⟩
theorem load_src {W : World} {g : Nat} {t : Tu} (h : OkT t) (hb : BT g t W) : (loadVar 25 ⟨g, 0, none⟩).run Try.prog W = .ok (.agg (av t.s.v t.s.b)) W :=
  seg_load hb (i := 0) rfl (toff h).1 Try.underlying25 rfl info_addr (avl_len h.s)
theorem load_dst {W : World} {g : Nat} {t : Tu} (h : OkT t) (hb : BT g t W) : (loadVar 25 ⟨g, 17, none⟩).run Try.prog W = .ok (.agg (av t.d.v t.d.b)) W :=
  seg_load hb (i := 1) rfl (toff h).2.1 Try.underlying25 rfl info_addr (avl_len h.d)
theorem load_tup {W : World} {g : Nat} {t : Tu} (h : OkT t) (hb : BT g t W) : (loadVar 44 ⟨g, 0, none⟩).run Try.prog W = .ok (.agg (flat (tseg t))) W :=
  seg_whole hb Try.underlying44 rfl infoT (tlen h)
def inP (x : Int) : Bool := decide (0 ≤ x) && decide (x ≤ 65535)
def rtB (t : Tu) : Bool := (t.s.v == t.d.v) && (rightB t.s.v t.s.b && (rightB t.d.v t.d.b && (inP t.sp && (inP t.dp && (t.p == 6 || t.p == 17)))))
theorem port_any (n : Int) (w : World) : Calls Try.prog 40 #[.int .i64 n] w fun e w' => e = .returned (.bool (inP n)) ∧ Below w.heap.size w w' := by
  unfold inP
  by_cases h : 0 ≤ n
  · have d : decide (0 ≤ n) = true := by simpa using h
    go_enter Try.func40, Try.ntmps40
    go_wp2_with fail
    go_ret
    exact ⟨by rw [d]; rfl, Below.refl _ _⟩
  · have d : decide (0 ≤ n) = false := by simpa using h
    have D := Aside0.mk d
    go_enter Try.func40, Try.ntmps40
    go_wp2_with fail
    go_ret
    exact ⟨by simp, Below.refl _ _⟩
set_option maxHeartbeats 4000000 in
theorem RightTuple_any (t : Tu) (w : World) (h : OkT t) : Calls Try.prog 25 #[.agg (flat (tseg t))] w fun e w' => e = .returned (.bool (rtB t)) ∧ Below w.heap.size w w' := by
  have HM := Aside0.mk ((Mem.nil w).new (.cells (flat (tseg t)) 44))
  simp only [List.nil_append, List.cons_append] at HM
  have H := Aside0.mk h
  have HS := Aside0.mk (fun W => Right_any t.s.v t.s.b W h.s.l)
  have HD := Aside0.mk (fun W => Right_any t.d.v t.d.b W h.d.l)
  have HR : Aside0 (rtB t = ((t.s.v == t.d.v) && (rightB t.s.v t.s.b && (rightB t.d.v t.d.b && (inP t.sp && (inP t.dp && (t.p == 6 || t.p == 17))))))) := ⟨rfl⟩
  clear h
  generalize rightB t.s.v t.s.b = rs at *
  generalize rightB t.d.v t.d.b = rd at *
  obtain ⟨d0, d17, -, -, -⟩ := tcells H.out (HM.out.get 0 rfl)
  go_enter Try.func25, Try.ntmps25
  cases hv : t.s.v == t.d.v with
  | false =>
    rw [hv] at HR
    go_wp2_with fail
    go_ret
    exact ⟨by rw [HR.out]; rfl, HM.out.b⟩
  | true =>
    rw [hv] at HR
    go_wp2_with (first | ((with_reducible refine gate_load (t := 25) rfl ?_); (try refine gate_guard (by rfl) ?_); first | (refine Kd.event_run rfl (exec_load rfl rfl (load_src H.out (HM.out.get 0 rfl))) ?_)) | fail)
    refine (HS.out _).mono ?_
    rintro e w1 ⟨rfl, hB⟩
    replace HM := Aside0.mk (HM.out.below hB)
    clear hB
    clear d0 d17 hv
    cases rs with
    | false =>
      go_wp2_with fail
      go_ret
      exact ⟨by rw [HR.out]; rfl, HM.out.b⟩
    | true =>
      go_wp2_with (first | ((with_reducible refine gate_load (t := 25) rfl ?_); (try refine gate_guard (by rfl) ?_); first | (refine Kd.event_run rfl (exec_load rfl rfl (load_dst H.out (HM.out.get 0 rfl))) ?_)) | fail)
      refine (HD.out _).mono ?_
      rintro e w1 ⟨rfl, hB⟩
      replace HM := Aside0.mk (HM.out.below hB)
      clear hB
      cases rd with
      | false =>
        go_wp2_with fail
        go_ret
        exact ⟨by rw [HR.out]; rfl, HM.out.b⟩
      | true =>
        obtain ⟨-, -, -, d35, -⟩ := tcells H.out (HM.out.get 0 rfl)
        have HP1 := Aside0.mk (fun W => port_any t.sp W)
        have HP2 := Aside0.mk (fun W => port_any t.dp W)
        generalize inP t.sp = p1 at *
        generalize inP t.dp = p2 at *
        go_wp2_with fail
        refine (HP1.out _).mono ?_
        rintro e w1 ⟨rfl, hB⟩
        replace HM := Aside0.mk (HM.out.below hB)
        clear hB
        clear d35
        cases p1 with
        | false =>
          go_wp2_with fail
          go_ret
          exact ⟨by rw [HR.out]; rfl, HM.out.b⟩
        | true =>
          obtain ⟨-, -, -, -, d36⟩ := tcells H.out (HM.out.get 0 rfl)
          go_wp2_with fail
          refine (HP2.out _).mono ?_
          rintro e w1 ⟨rfl, hB⟩
          replace HM := Aside0.mk (HM.out.below hB)
          clear hB
          clear d36
          cases p2 with
          | false =>
            go_wp2_with fail
            go_ret
            exact ⟨by rw [HR.out]; rfl, HM.out.b⟩
          | true =>
            obtain ⟨-, -, d34, -, -⟩ := tcells H.out (HM.out.get 0 rfl)
            by_cases h6 : t.p = 6
            · have q6 : (t.p == 6) = true := by simpa using h6
              rw [q6] at HR
              clear h6
              go_wp2_with fail
              go_ret
              exact ⟨by rw [HR.out]; rfl, HM.out.b⟩
            · have q6 : (t.p == 6) = false := by simpa using h6
              rw [q6] at HR
              clear h6
              go_wp2_with fail
              go_ret
              exact ⟨by rw [HR.out]; rfl, HM.out.b⟩
set_option maxHeartbeats 4000000 in
theorem RefRightTuple_any (t : Tu) (w : World) (h : OkT t) : Calls Try.prog 26 #[.agg (flat (tseg t))] w fun e w' => e = .returned (.bool (rtB t)) ∧ Below w.heap.size w w' := by
  have HM := Aside0.mk ((Mem.nil w).new (.cells (flat (tseg t)) 44))
  simp only [List.nil_append, List.cons_append] at HM
  have H := Aside0.mk h
  have HS := Aside0.mk (fun W => refRight_any t.s.v t.s.b W h.s.l)
  have HD := Aside0.mk (fun W => refRight_any t.d.v t.d.b W h.d.l)
  have HR : Aside0 (rtB t = ((t.s.v == t.d.v) && (rightB t.s.v t.s.b && (rightB t.d.v t.d.b && (inP t.sp && (inP t.dp && (t.p == 6 || t.p == 17))))))) := ⟨rfl⟩
  clear h
  generalize rightB t.s.v t.s.b = rs at *
  generalize rightB t.d.v t.d.b = rd at *
  obtain ⟨-, -, -, d35, d36⟩ := tcells H.out (HM.out.get 0 rfl)
  go_enter Try.func26, Try.ntmps26
  obtain ⟨pb, hpb⟩ : ∃ pb : Bool, (inP t.sp && inP t.dp) = pb := ⟨_, rfl⟩
  have HPB := Aside0.mk hpb
  clear hpb
  go_upto_region 1 with fail
  go_cut [3] from 4 to 21 (fun s3 wx => s3 = .bool pb ∧ wx = w.alloc (.cells (flat (tseg t)) 44))
  case first =>
    clear HS HD HR HM H
    by_cases h1 : 0 ≤ t.sp
    · have q1 : decide (0 ≤ t.sp) = true := by simpa using h1
      by_cases h2 : t.sp ≤ 65535
      · have q2 : decide (t.sp ≤ 65535) = true := by simpa using h2
        by_cases h3 : 0 ≤ t.dp
        · have q3 : decide (0 ≤ t.dp) = true := by simpa using h3
          clear h1 h2 h3
          go_wp2_with fail
          go_meet
          exact ⟨by rw [← HPB.out, inP, inP, q1, q2, q3]; simp, rfl⟩
        · have q3 : decide (0 ≤ t.dp) = false := by simpa using h3
          clear h1 h2 h3
          go_wp2_with fail
          go_meet
          exact ⟨by rw [← HPB.out, inP, inP, q1, q2, q3]; simp, rfl⟩
      · have q2 : decide (t.sp ≤ 65535) = false := by simpa using h2
        clear h1 h2
        go_wp2_with fail
        go_meet
        exact ⟨by rw [← HPB.out, inP, inP, q1, q2]; simp, rfl⟩
    · have q1 : decide (0 ≤ t.sp) = false := by simpa using h1
      clear h1
      go_wp2_with fail
      go_meet
      exact ⟨by rw [← HPB.out, inP, inP, q1]; simp, rfl⟩
  case rest =>
    obtain ⟨rfl, rfl⟩ := hcut
    replace HR : Aside0 (rtB t = ((t.s.v == t.d.v) && (rs && (rd && (pb && (t.p == 6 || t.p == 17)))))) := ⟨by rw [HR.out, ← HPB.out]; simp only [Bool.and_assoc]⟩
    clear d35 d36 HPB
    go_wp2_with (first | ((with_reducible refine gate_load (t := 25) rfl ?_); (try refine gate_guard (by rfl) ?_); first | (refine Kd.event_run rfl (exec_load rfl rfl (load_src H.out (HM.out.get 0 rfl))) ?_)) | fail)
    refine (HS.out _).mono ?_
    rintro e w1 ⟨rfl, hB⟩
    replace HM := Aside0.mk (HM.out.below hB)
    clear hB
    cases rs with
    | false =>
      go_wp2_with fail
      go_ret
      exact ⟨by rw [HR.out]; simp, HM.out.b⟩
    | true =>
      go_wp2_with (first | ((with_reducible refine gate_load (t := 25) rfl ?_); (try refine gate_guard (by rfl) ?_); first | (refine Kd.event_run rfl (exec_load rfl rfl (load_dst H.out (HM.out.get 0 rfl))) ?_)) | fail)
      refine (HD.out _).mono ?_
      rintro e w1 ⟨rfl, hB⟩
      replace HM := Aside0.mk (HM.out.below hB)
      clear hB
      cases rd with
      | false =>
        go_wp2_with fail
        go_ret
        exact ⟨by rw [HR.out]; simp, HM.out.b⟩
      | true =>
        obtain ⟨d0, d17, d34, -, -⟩ := tcells H.out (HM.out.get 0 rfl)
        cases hv : t.s.v == t.d.v with
        | false =>
          rw [hv] at HR
          go_wp2_with fail
          go_ret
          exact ⟨by rw [HR.out]; rfl, HM.out.b⟩
        | true =>
          rw [hv] at HR
          by_cases h6 : t.p = 6
          · have q6 : (t.p == 6) = true := by simpa using h6
            rw [q6] at HR
            clear h6
            cases pb <;>
            · go_wp2_with fail
              go_ret
              exact ⟨by rw [HR.out]; rfl, HM.out.b⟩
          · have q6 : (t.p == 6) = false := by simpa using h6
            rw [q6] at HR
            clear h6
            by_cases h7 : t.p = 17
            · have q7 : (t.p == 17) = true := by simpa using h7
              rw [q7] at HR
              clear h7
              cases pb <;>
              · go_wp2_with fail
                go_ret
                exact ⟨by rw [HR.out]; rfl, HM.out.b⟩
            · have q7 : (t.p == 17) = false := by simpa using h7
              rw [q7] at HR
              clear h7
              go_wp2_with fail
              go_ret
              exact ⟨by rw [HR.out]; cases pb <;> rfl, HM.out.b⟩
end Go.Proofs.Ytfnpjfcfgilchaa.AddrW
