/- MemberNewer, walked. -/
import Derived.Test.YtkdhccbgbkhnnaaMemK
import Derived.Test.YtkdhccbgbkhnnaaMemEq
import Derived.Test.YtkdhccbgbkhnnaaExecEq
import Derived.Test.YtkdhccbgbkhnnaaBase
namespace Go.Proofs.Ytkdhccbgbkhnnaa.Memb
open Go.RowKit Go.Proofs.Ytkdhccbgbkhnnaa.ExecEq Go.Proofs.Ytkdhccbgbkhnnaa.MapI Go.Proofs.Ytkdhccbgbkhnnaa.Mem Go.Proofs.Ytkdhccbgbkhnnaa.Help Go.Proofs.YtkdhccbgbkhnnaaW.PrintWords Go.Proofs.YtkdhccbgbkhnnaaW.PrintLast Go.Proofs.YtkdhccbgbkhnnaaW.PrintMore
set_option linter.unusedVariables false
set_option linter.unusedSimpArgs false
theorem newB_self (a : Int × Int) : newB a a = false := by simp [newB]
theorem newB_one {a b : Int × Int} (h : (a.1 == b.1 && a.2 == b.2) = false) : (newB a b == newB b a) = false := by
  unfold newB
  by_cases e : a.2 = b.2
  · rw [if_pos e, if_pos e.symm]
    have : ¬ a.1 = b.1 := by simp at h; exact fun h1 => h h1 e
    by_cases h2 : b.1 < a.1
    · have h3 : ¬ a.1 < b.1 := by omega
      simp [h2, h3]
    · have h3 : a.1 < b.1 := by omega
      simp [h2, h3]
  · rw [if_neg e, if_neg (fun h => e h.symm)]
    by_cases h2 : b.2 < a.2
    · have h3 : ¬ a.2 < b.2 := by omega
      simp [h2, h3]
    · have h3 : a.2 < b.2 := by omega
      simp [h2, h3]
theorem newB_trans {a b c : Int × Int} (h : newB a b = true) (k : newB b c = true) : newB a c = true := by
  unfold newB at *
  split at h <;> split at k <;> split <;> simp at * <;> omega
abbrev BoolAt (f : Nat) (args : Array Value) (r : Bool) : Prop := Aside0 (∀ W : World, Calls Try.prog f args W fun e w' => e = .returned (.bool r) ∧ Below W.heap.size W w')
abbrev iv (x : Int × Int) : Value := .agg #[.int .i64 x.1, .int .i64 x.2]
set_option maxRecDepth 20000 in
theorem newer_core (a b c : Int × Int) (p q s t r d : Bool) (w : World) (HG : Aside0 (∀ (x : Int × Int) (W : World), Calls Try.prog 9 #[iv x] W fun e w' => e = .returned (iv x) ∧ Below W.heap.size W w'))
    (Hab : BoolAt 10 #[iv a, iv b] p) (Hba : BoolAt 10 #[iv b, iv a] q) (Hbc : BoolAt 10 #[iv b, iv c] s) (Hac : BoolAt 10 #[iv a, iv c] t) (Haa : BoolAt 10 #[iv a, iv a] false)
    (Rab : BoolAt 11 #[iv a, iv b] p) (Ra : BoolAt 12 #[iv a] r) (Rb : BoolAt 13 #[iv a] r)
    (HEQ : Aside0 (∀ W, (Op.equalIn 10000 23 (iv a) (iv b)).run Try.prog W = .ok d W)) (HPQ : Aside0 (d = false → (p == q) = false)) (HTR : Aside0 (p = true → s = true → t = true)) :
    Calls Try.prog 3 #[iv a, iv b, iv c] w fun e w' => e = .returned (.bool true) ∧ Below w.heap.size w w' := by
  have HK := Aside0.mk known_any
  have HM := Aside0.mk ((((Mem.nil w).new' (.cells #[.int .i64 a.1, .int .i64 a.2] 23 (0, 0)) (g := w.heap.size) rfl).new' (.cells #[.int .i64 b.1, .int .i64 b.2] 23 (0, 0)) (g := w.heap.size + 1) (by unfold World.alloc; simp)).new' (.cells #[.int .i64 c.1, .int .i64 c.2] 23 (0, 0)) (g := w.heap.size + 1 + 1) (by unfold World.alloc; simp))
  simp only [List.nil_append, List.cons_append] at HM
  unfold iv at *
  go_enter Try.func3, Try.ntmps3
  go_wp2_with ((with_reducible refine gate_dst (N := 10) rfl ?_); refine Kd.event_run rfl (exec_load rfl rfl (loadI23 (HM.out.get 0 rfl))) ?_)
  refine (HG.out a _).mono ?_
  rintro e w1 ⟨rfl, hB⟩
  replace HM := Aside0.mk ((HM.out.below hB).new (.cells #[.int .i64 a.1, .int .i64 a.2] 24 (0, 0)))
  simp only [List.nil_append, List.cons_append] at HM
  clear hB
  go_wp2_with ((with_reducible refine gate_dst (N := 12) rfl ?_); refine Kd.event_run rfl (exec_load rfl rfl (loadI23 (HM.out.get 1 rfl))) ?_)
  refine (HG.out b _).mono ?_
  rintro e w2 ⟨rfl, hB⟩
  replace HM := Aside0.mk ((HM.out.below hB).new (.cells #[.int .i64 b.1, .int .i64 b.2] 24 (0, 0)))
  simp only [List.nil_append, List.cons_append] at HM
  clear hB
  go_wp2_with ((with_reducible refine gate_dst (N := 14) rfl ?_); refine Kd.event_run rfl (exec_load rfl rfl (loadI23 (HM.out.get 2 rfl))) ?_)
  refine (HG.out c _).mono ?_
  rintro e w3 ⟨rfl, hB⟩
  replace HM := Aside0.mk ((HM.out.below hB).new (.cells #[.int .i64 c.1, .int .i64 c.2] 24 (0, 0)))
  simp only [List.nil_append, List.cons_append] at HM
  clear hB
  go_upto_region 4 with fail
  refine RegionF.region_F (F := (Mem w _)) 18 (by kernel_rfl) (by kernel_rfl) HM.out.drew ?_
  simp only [List.take_succ_cons, List.take_zero, List.drop_succ_cons, List.drop_zero]
  repeat (first
    | (refine RegionF.wpF_skip (by rfl) ?_
       refine RegionF.wpF_put (fun K' hK' => ?_)
       go_simp
       refine hK' _ ?_
       clear hK' K')
    | (apply RegionF.wpF_step
       · rfl
       · (intro W hW; first | (rw [exec_load rfl rfl (loadI23 (hW.get 0 rfl))]; exact RegionF.GivesF.value rfl hW) | (rw [exec_load rfl rfl (loadI23 (hW.get 1 rfl))]; exact RegionF.GivesF.value rfl hW) | (rw [exec_load rfl rfl (loadI24 (hW.get 3 rfl))]; exact RegionF.GivesF.value rfl hW) | (rw [exec_load rfl rfl (loadI24 (hW.get 4 rfl))]; exact RegionF.GivesF.value rfl hW) | (go_simp; first | exact RegionF.GivesF.value rfl hW | (apply RegionF.GivesF.enter; first | (with_reducible exact (Hab.out W).mono fun e w1 h => ⟨h.1, hW.below h.2⟩) | (with_reducible exact (Rab.out W).mono fun e w1 h => ⟨h.1, hW.below h.2⟩) | (with_reducible exact (Ra.out W).mono fun e w1 h => ⟨h.1, hW.below h.2⟩) | (with_reducible exact (Rb.out W).mono fun e w1 h => ⟨h.1, hW.below h.2⟩) | (with_reducible exact (Haa.out W).mono fun e w1 h => ⟨h.1, hW.below h.2⟩))))
       refine RegionF.wpF_put (fun K' hK' => ?_)
       go_simp
       refine hK' _ ?_
       clear hK' K'))
  refine RegionF.wpF_nil (fun X hX => ?_)
  replace HM := Aside0.mk hX
  clear hX
  go_upto_region 6 with fail
  refine RegionF.region_F (F := (Mem w _)) 11 (by kernel_rfl) (by kernel_rfl) HM.out.drew ?_
  simp only [List.take_succ_cons, List.take_zero, List.drop_succ_cons, List.drop_zero]
  cases d
  · have hpq := HPQ.out rfl
    repeat (first
      | (refine RegionF.wpF_skip (by rfl) ?_
         refine RegionF.wpF_put (fun K' hK' => ?_)
         go_simp
         refine hK' _ ?_
         clear hK' K')
      | (apply RegionF.wpF_step
         · rfl
         · (intro W hW; first | (rw [exec_load rfl rfl (loadI23 (hW.get 0 rfl))]; exact RegionF.GivesF.value rfl hW) | (rw [exec_load rfl rfl (loadI23 (hW.get 1 rfl))]; exact RegionF.GivesF.value rfl hW) | (rw [exec_load rfl rfl (loadI24 (hW.get 3 rfl))]; exact RegionF.GivesF.value rfl hW) | (rw [exec_load rfl rfl (loadI24 (hW.get 4 rfl))]; exact RegionF.GivesF.value rfl hW) | (rw [exec_neq Try.eqGuardType23 rfl rfl rfl (HEQ.out W)]; exact RegionF.GivesF.value rfl hW) | (go_simp; first | exact RegionF.GivesF.value rfl hW | (apply RegionF.GivesF.enter; first | (with_reducible exact (Hab.out W).mono fun e w1 h => ⟨h.1, hW.below h.2⟩) | (with_reducible exact (Hba.out W).mono fun e w1 h => ⟨h.1, hW.below h.2⟩))))
         refine RegionF.wpF_put (fun K' hK' => ?_)
         go_simp
         refine hK' _ ?_
         clear hK' K'))
    clear hpq
    refine RegionF.wpF_nil (fun X hX => ?_)
    replace HM := Aside0.mk hX
    clear hX
    cases p
    · go_wp2_with (first | ((with_reducible refine gate_dst (N := 47) rfl ?_); (try refine gate_guard (by rfl) ?_); refine Kd.event_run rfl (exec_load rfl rfl (loadI24 (HM.out.get 3 rfl))) ?_) | ((with_reducible refine gate_dst (N := 48) rfl ?_); (try refine gate_guard (by rfl) ?_); refine Kd.event_run rfl (exec_load rfl rfl (loadI24 (HM.out.get 4 rfl))) ?_) | ((with_reducible refine gate_dst (N := 52) rfl ?_); (try refine gate_guard (by rfl) ?_); refine Kd.event_run rfl (exec_load rfl rfl (loadI24 (HM.out.get 4 rfl))) ?_) | ((with_reducible refine gate_dst (N := 53) rfl ?_); (try refine gate_guard (by rfl) ?_); refine Kd.event_run rfl (exec_load rfl rfl (loadI24 (HM.out.get 5 rfl))) ?_) | ((with_reducible refine gate_dst (N := 58) rfl ?_); (try refine gate_guard (by rfl) ?_); refine Kd.event_run rfl (exec_load rfl rfl (loadI24 (HM.out.get 3 rfl))) ?_) | ((with_reducible refine gate_dst (N := 59) rfl ?_); (try refine gate_guard (by rfl) ?_); refine Kd.event_run rfl (exec_load rfl rfl (loadI24 (HM.out.get 5 rfl))) ?_))
      refine (Hab.out _).mono ?_
      rintro e w4 ⟨rfl, hB⟩
      replace HM := Aside0.mk (HM.out.below hB)
      clear hB
      go_wp2_with fail
      refine (HK.out _).mono ?_
      rintro e w5 ⟨rfl, hB⟩
      replace HM := Aside0.mk (HM.out.below hB)
      clear hB
      go_wp2_with fail
      go_ret
      exact ⟨rfl, HM.out.b⟩
    · go_wp2_with (first | ((with_reducible refine gate_dst (N := 47) rfl ?_); (try refine gate_guard (by rfl) ?_); refine Kd.event_run rfl (exec_load rfl rfl (loadI24 (HM.out.get 3 rfl))) ?_) | ((with_reducible refine gate_dst (N := 48) rfl ?_); (try refine gate_guard (by rfl) ?_); refine Kd.event_run rfl (exec_load rfl rfl (loadI24 (HM.out.get 4 rfl))) ?_) | ((with_reducible refine gate_dst (N := 52) rfl ?_); (try refine gate_guard (by rfl) ?_); refine Kd.event_run rfl (exec_load rfl rfl (loadI24 (HM.out.get 4 rfl))) ?_) | ((with_reducible refine gate_dst (N := 53) rfl ?_); (try refine gate_guard (by rfl) ?_); refine Kd.event_run rfl (exec_load rfl rfl (loadI24 (HM.out.get 5 rfl))) ?_) | ((with_reducible refine gate_dst (N := 58) rfl ?_); (try refine gate_guard (by rfl) ?_); refine Kd.event_run rfl (exec_load rfl rfl (loadI24 (HM.out.get 3 rfl))) ?_) | ((with_reducible refine gate_dst (N := 59) rfl ?_); (try refine gate_guard (by rfl) ?_); refine Kd.event_run rfl (exec_load rfl rfl (loadI24 (HM.out.get 5 rfl))) ?_))
      refine (Hab.out _).mono ?_
      rintro e w4 ⟨rfl, hB⟩
      replace HM := Aside0.mk (HM.out.below hB)
      clear hB
      go_wp2_with (first | ((with_reducible refine gate_dst (N := 47) rfl ?_); (try refine gate_guard (by rfl) ?_); refine Kd.event_run rfl (exec_load rfl rfl (loadI24 (HM.out.get 3 rfl))) ?_) | ((with_reducible refine gate_dst (N := 48) rfl ?_); (try refine gate_guard (by rfl) ?_); refine Kd.event_run rfl (exec_load rfl rfl (loadI24 (HM.out.get 4 rfl))) ?_) | ((with_reducible refine gate_dst (N := 52) rfl ?_); (try refine gate_guard (by rfl) ?_); refine Kd.event_run rfl (exec_load rfl rfl (loadI24 (HM.out.get 4 rfl))) ?_) | ((with_reducible refine gate_dst (N := 53) rfl ?_); (try refine gate_guard (by rfl) ?_); refine Kd.event_run rfl (exec_load rfl rfl (loadI24 (HM.out.get 5 rfl))) ?_) | ((with_reducible refine gate_dst (N := 58) rfl ?_); (try refine gate_guard (by rfl) ?_); refine Kd.event_run rfl (exec_load rfl rfl (loadI24 (HM.out.get 3 rfl))) ?_) | ((with_reducible refine gate_dst (N := 59) rfl ?_); (try refine gate_guard (by rfl) ?_); refine Kd.event_run rfl (exec_load rfl rfl (loadI24 (HM.out.get 5 rfl))) ?_))
      refine (Hbc.out _).mono ?_
      rintro e w5 ⟨rfl, hB⟩
      replace HM := Aside0.mk (HM.out.below hB)
      clear hB
      cases s
      · go_wp2_with fail
        refine (HK.out _).mono ?_
        rintro e w6 ⟨rfl, hB⟩
        replace HM := Aside0.mk (HM.out.below hB)
        clear hB
        go_wp2_with fail
        go_ret
        exact ⟨rfl, HM.out.b⟩
      · obtain rfl : t = true := by simpa using HTR.out
        go_wp2_with (first | ((with_reducible refine gate_dst (N := 47) rfl ?_); (try refine gate_guard (by rfl) ?_); refine Kd.event_run rfl (exec_load rfl rfl (loadI24 (HM.out.get 3 rfl))) ?_) | ((with_reducible refine gate_dst (N := 48) rfl ?_); (try refine gate_guard (by rfl) ?_); refine Kd.event_run rfl (exec_load rfl rfl (loadI24 (HM.out.get 4 rfl))) ?_) | ((with_reducible refine gate_dst (N := 52) rfl ?_); (try refine gate_guard (by rfl) ?_); refine Kd.event_run rfl (exec_load rfl rfl (loadI24 (HM.out.get 4 rfl))) ?_) | ((with_reducible refine gate_dst (N := 53) rfl ?_); (try refine gate_guard (by rfl) ?_); refine Kd.event_run rfl (exec_load rfl rfl (loadI24 (HM.out.get 5 rfl))) ?_) | ((with_reducible refine gate_dst (N := 58) rfl ?_); (try refine gate_guard (by rfl) ?_); refine Kd.event_run rfl (exec_load rfl rfl (loadI24 (HM.out.get 3 rfl))) ?_) | ((with_reducible refine gate_dst (N := 59) rfl ?_); (try refine gate_guard (by rfl) ?_); refine Kd.event_run rfl (exec_load rfl rfl (loadI24 (HM.out.get 5 rfl))) ?_))
        refine (Hac.out _).mono ?_
        rintro e w6 ⟨rfl, hB⟩
        replace HM := Aside0.mk (HM.out.below hB)
        clear hB
        go_wp2_with fail
        refine (HK.out _).mono ?_
        rintro e w7 ⟨rfl, hB⟩
        replace HM := Aside0.mk (HM.out.below hB)
        clear hB
        go_wp2_with fail
        go_ret
        exact ⟨rfl, HM.out.b⟩
  · repeat (first
      | (refine RegionF.wpF_skip (by rfl) ?_
         refine RegionF.wpF_put (fun K' hK' => ?_)
         go_simp
         refine hK' _ ?_
         clear hK' K')
      | (apply RegionF.wpF_step
         · rfl
         · (intro W hW; first | (rw [exec_load rfl rfl (loadI23 (hW.get 0 rfl))]; exact RegionF.GivesF.value rfl hW) | (rw [exec_load rfl rfl (loadI23 (hW.get 1 rfl))]; exact RegionF.GivesF.value rfl hW) | (rw [exec_load rfl rfl (loadI24 (hW.get 3 rfl))]; exact RegionF.GivesF.value rfl hW) | (rw [exec_load rfl rfl (loadI24 (hW.get 4 rfl))]; exact RegionF.GivesF.value rfl hW) | (rw [exec_neq Try.eqGuardType23 rfl rfl rfl (HEQ.out W)]; exact RegionF.GivesF.value rfl hW) | (go_simp; first | exact RegionF.GivesF.value rfl hW | (apply RegionF.GivesF.enter; first | fail)))
         refine RegionF.wpF_put (fun K' hK' => ?_)
         go_simp
         refine hK' _ ?_
         clear hK' K'))
    refine RegionF.wpF_nil (fun X hX => ?_)
    replace HM := Aside0.mk hX
    clear hX
    cases p
    · go_wp2_with (first | ((with_reducible refine gate_dst (N := 47) rfl ?_); (try refine gate_guard (by rfl) ?_); refine Kd.event_run rfl (exec_load rfl rfl (loadI24 (HM.out.get 3 rfl))) ?_) | ((with_reducible refine gate_dst (N := 48) rfl ?_); (try refine gate_guard (by rfl) ?_); refine Kd.event_run rfl (exec_load rfl rfl (loadI24 (HM.out.get 4 rfl))) ?_) | ((with_reducible refine gate_dst (N := 52) rfl ?_); (try refine gate_guard (by rfl) ?_); refine Kd.event_run rfl (exec_load rfl rfl (loadI24 (HM.out.get 4 rfl))) ?_) | ((with_reducible refine gate_dst (N := 53) rfl ?_); (try refine gate_guard (by rfl) ?_); refine Kd.event_run rfl (exec_load rfl rfl (loadI24 (HM.out.get 5 rfl))) ?_) | ((with_reducible refine gate_dst (N := 58) rfl ?_); (try refine gate_guard (by rfl) ?_); refine Kd.event_run rfl (exec_load rfl rfl (loadI24 (HM.out.get 3 rfl))) ?_) | ((with_reducible refine gate_dst (N := 59) rfl ?_); (try refine gate_guard (by rfl) ?_); refine Kd.event_run rfl (exec_load rfl rfl (loadI24 (HM.out.get 5 rfl))) ?_))
      refine (Hab.out _).mono ?_
      rintro e w4 ⟨rfl, hB⟩
      replace HM := Aside0.mk (HM.out.below hB)
      clear hB
      go_wp2_with fail
      refine (HK.out _).mono ?_
      rintro e w5 ⟨rfl, hB⟩
      replace HM := Aside0.mk (HM.out.below hB)
      clear hB
      go_wp2_with fail
      go_ret
      exact ⟨rfl, HM.out.b⟩
    · go_wp2_with (first | ((with_reducible refine gate_dst (N := 47) rfl ?_); (try refine gate_guard (by rfl) ?_); refine Kd.event_run rfl (exec_load rfl rfl (loadI24 (HM.out.get 3 rfl))) ?_) | ((with_reducible refine gate_dst (N := 48) rfl ?_); (try refine gate_guard (by rfl) ?_); refine Kd.event_run rfl (exec_load rfl rfl (loadI24 (HM.out.get 4 rfl))) ?_) | ((with_reducible refine gate_dst (N := 52) rfl ?_); (try refine gate_guard (by rfl) ?_); refine Kd.event_run rfl (exec_load rfl rfl (loadI24 (HM.out.get 4 rfl))) ?_) | ((with_reducible refine gate_dst (N := 53) rfl ?_); (try refine gate_guard (by rfl) ?_); refine Kd.event_run rfl (exec_load rfl rfl (loadI24 (HM.out.get 5 rfl))) ?_) | ((with_reducible refine gate_dst (N := 58) rfl ?_); (try refine gate_guard (by rfl) ?_); refine Kd.event_run rfl (exec_load rfl rfl (loadI24 (HM.out.get 3 rfl))) ?_) | ((with_reducible refine gate_dst (N := 59) rfl ?_); (try refine gate_guard (by rfl) ?_); refine Kd.event_run rfl (exec_load rfl rfl (loadI24 (HM.out.get 5 rfl))) ?_))
      refine (Hab.out _).mono ?_
      rintro e w4 ⟨rfl, hB⟩
      replace HM := Aside0.mk (HM.out.below hB)
      clear hB
      go_wp2_with (first | ((with_reducible refine gate_dst (N := 47) rfl ?_); (try refine gate_guard (by rfl) ?_); refine Kd.event_run rfl (exec_load rfl rfl (loadI24 (HM.out.get 3 rfl))) ?_) | ((with_reducible refine gate_dst (N := 48) rfl ?_); (try refine gate_guard (by rfl) ?_); refine Kd.event_run rfl (exec_load rfl rfl (loadI24 (HM.out.get 4 rfl))) ?_) | ((with_reducible refine gate_dst (N := 52) rfl ?_); (try refine gate_guard (by rfl) ?_); refine Kd.event_run rfl (exec_load rfl rfl (loadI24 (HM.out.get 4 rfl))) ?_) | ((with_reducible refine gate_dst (N := 53) rfl ?_); (try refine gate_guard (by rfl) ?_); refine Kd.event_run rfl (exec_load rfl rfl (loadI24 (HM.out.get 5 rfl))) ?_) | ((with_reducible refine gate_dst (N := 58) rfl ?_); (try refine gate_guard (by rfl) ?_); refine Kd.event_run rfl (exec_load rfl rfl (loadI24 (HM.out.get 3 rfl))) ?_) | ((with_reducible refine gate_dst (N := 59) rfl ?_); (try refine gate_guard (by rfl) ?_); refine Kd.event_run rfl (exec_load rfl rfl (loadI24 (HM.out.get 5 rfl))) ?_))
      refine (Hbc.out _).mono ?_
      rintro e w5 ⟨rfl, hB⟩
      replace HM := Aside0.mk (HM.out.below hB)
      clear hB
      cases s
      · go_wp2_with fail
        refine (HK.out _).mono ?_
        rintro e w6 ⟨rfl, hB⟩
        replace HM := Aside0.mk (HM.out.below hB)
        clear hB
        go_wp2_with fail
        go_ret
        exact ⟨rfl, HM.out.b⟩
      · obtain rfl : t = true := by simpa using HTR.out
        go_wp2_with (first | ((with_reducible refine gate_dst (N := 47) rfl ?_); (try refine gate_guard (by rfl) ?_); refine Kd.event_run rfl (exec_load rfl rfl (loadI24 (HM.out.get 3 rfl))) ?_) | ((with_reducible refine gate_dst (N := 48) rfl ?_); (try refine gate_guard (by rfl) ?_); refine Kd.event_run rfl (exec_load rfl rfl (loadI24 (HM.out.get 4 rfl))) ?_) | ((with_reducible refine gate_dst (N := 52) rfl ?_); (try refine gate_guard (by rfl) ?_); refine Kd.event_run rfl (exec_load rfl rfl (loadI24 (HM.out.get 4 rfl))) ?_) | ((with_reducible refine gate_dst (N := 53) rfl ?_); (try refine gate_guard (by rfl) ?_); refine Kd.event_run rfl (exec_load rfl rfl (loadI24 (HM.out.get 5 rfl))) ?_) | ((with_reducible refine gate_dst (N := 58) rfl ?_); (try refine gate_guard (by rfl) ?_); refine Kd.event_run rfl (exec_load rfl rfl (loadI24 (HM.out.get 3 rfl))) ?_) | ((with_reducible refine gate_dst (N := 59) rfl ?_); (try refine gate_guard (by rfl) ?_); refine Kd.event_run rfl (exec_load rfl rfl (loadI24 (HM.out.get 5 rfl))) ?_))
        refine (Hac.out _).mono ?_
        rintro e w6 ⟨rfl, hB⟩
        replace HM := Aside0.mk (HM.out.below hB)
        clear hB
        go_wp2_with fail
        refine (HK.out _).mono ?_
        rintro e w7 ⟨rfl, hB⟩
        replace HM := Aside0.mk (HM.out.below hB)
        clear hB
        go_wp2_with fail
        go_ret
        exact ⟨rfl, HM.out.b⟩
theorem MemberNewer_any (a b c : Int × Int) (w : World) : Calls Try.prog 3 #[infV a, infV b, infV c] w fun e w' => e = .returned (.bool true) ∧ Below w.heap.size w w' :=
  newer_core a b c _ _ _ _ _ _ w ⟨given_any⟩ ⟨Newer_any a b⟩ ⟨Newer_any b a⟩ ⟨Newer_any b c⟩ ⟨Newer_any a c⟩ ⟨fun W => newB_self a ▸ Newer_any a a W⟩ ⟨refNewer_any a b⟩ ⟨Right_any a⟩ ⟨refRight_any a⟩ ⟨eq_I23 a b⟩ ⟨fun h => newB_one h⟩ ⟨fun h k => newB_trans h k⟩
end Go.Proofs.Ytkdhccbgbkhnnaa.Memb
