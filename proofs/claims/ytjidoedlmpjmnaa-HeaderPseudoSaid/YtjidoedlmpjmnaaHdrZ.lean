/- HdrZ: HdrB, HdrG. -/
import Derived.Test.YtjidoedlmpjmnaaHdrX
import Derived.Deep.CutRange
namespace Go.Proofs.Ytjidoedlmpjmnaa.Hdr
open Go.RowKit Go.Proofs.Ytjidoedlmpjmnaa.AddrW Go.Proofs.Ytjidoedlmpjmnaa.Segs Go.Proofs.Ytjidoedlmpjmnaa.Mem Go.Proofs.Ytjidoedlmpjmnaa.AddrEq Go.Proofs.Ytjidoedlmpjmnaa.AddrM Go.Proofs.Ytjidoedlmpjmnaa.Bits Go.Proofs.Ytjidoedlmpjmnaa.Help Go.Proofs.YtjidoedlmpjmnaaW.PrintWords Go.Proofs.YtjidoedlmpjmnaaW.PrintLast Go.Proofs.YtjidoedlmpjmnaaW.PrintMore
set_option linter.unusedVariables false
set_option linter.unusedSimpArgs false
set_option maxHeartbeats 8000000 in
theorem right_any (h : Pk) (q : Pl) (w : World) (H : OkP h) : Calls Try.prog 22 #[.agg (flat (hseg h q))] w fun e w' => e = .returned (.bool (rightH h)) ∧ Below w.heap.size w w' := by
  have HM := Aside0.mk ((Mem.nil w).new (.cells (flat (hseg h q)) 28))
  simp only [List.nil_append, List.cons_append] at HM
  have H := Aside0.mk H
  have HS := Aside0.mk (fun W => Right_any h.s.v h.s.b W H.out.s.l)
  have HD := Aside0.mk (fun W => Right_any h.d.v h.d.b W H.out.d.l)
  have HP1 := Aside0.mk (fun W => in_any h.p 255 W)
  have HP2 := Aside0.mk (fun W => in_any h.tt 255 W)
  have HP3 := Aside0.mk (fun W => in_any h.ts 255 W)
  have HL := Aside0.mk (fun W => in_any h.lb 1048575 W)
  have HI := Aside0.mk (fun W => in_any h.id 65535 W)
  have HR : Aside0 (rightH h = (baseR h && restR h)) := ⟨rfl⟩
  have HB : Aside0 (baseR h = ((h.s.v == h.v) && ((h.d.v == h.v) && (rightB h.s.v h.s.b && (rightB h.d.v h.d.b && (inB h.p 255 && (inB h.tt 255 && inB h.ts 255))))))) := ⟨rfl⟩
  have HT : Aside0 (restR h = if h.v then (h.id == 0) && (!h.df && (decide (h.ol.length = 0) && inB h.lb 1048575)) else (h.lb == 0) && (inB h.id 65535 && (decide (h.ol.length ≤ 40) && decide (h.ol.length % 4 = 0)))) := ⟨rfl⟩
  have d0 := hc0 H.out (HM.out.get 0 rfl)
  have d1 := hc1 H.out (HM.out.get 0 rfl)
  have d18 := hc18 H.out (HM.out.get 0 rfl)
  generalize rightB h.s.v h.s.b = rs at *
  generalize rightB h.d.v h.d.b = rd at *
  generalize inB h.p 255 = p1 at *
  generalize inB h.tt 255 = p2 at *
  generalize inB h.ts 255 = p3 at *
  generalize inB h.lb 1048575 = pl at *
  generalize inB h.id 65535 = pi at *
  generalize baseR h = bR at *
  generalize restR h = tR at *
  obtain ⟨e1, he1⟩ : ∃ e1, (h.s.v == h.v) = e1 := ⟨_, rfl⟩
  obtain ⟨e2, he2⟩ : ∃ e2, (h.d.v == h.v) = e2 := ⟨_, rfl⟩
  rw [he1, he2] at HB
  have hn1 := he1
  have hn2 := he2
  clear he1 he2
  go_enter Try.func22, Try.ntmps22
  go_upto_region 2 with fail
  go_cut [50] from 4 to 50 (fun s50 wx => s50 = .bool (!bR) ∧ Aside0 (Mem w [Blk w.heap.size (.cells (flat (hseg h q)) 28 (0, 0))] wx))
  case first =>
    cases e1 with
    | false =>
      go_wp2_with fail
      go_meet
      exact ⟨by rw [HB.out]; simp, HM⟩
    | true =>
      cases e2 with
      | false =>
        go_wp2_with fail
        go_meet
        exact ⟨by rw [HB.out]; simp, HM⟩
      | true =>
        go_wp2_with (first | ((with_reducible refine gate_load (t := 24) rfl ?_); (try refine gate_guard (by rfl) ?_); first | (refine Kd.event_run rfl (exec_load rfl rfl (load_hs H.out (HM.out.get 0 rfl))) ?_)) | fail)
        refine (HS.out _).mono ?_
        rintro e w1 ⟨rfl, hB⟩
        replace HM := Aside0.mk (HM.out.below hB)
        clear hB
        clear d0 d1 d18 hn1 hn2
        cases rs with
        | false =>
          go_wp2_with fail
          go_meet
          exact ⟨by rw [HB.out]; simp, HM⟩
        | true =>
          go_wp2_with (first | ((with_reducible refine gate_load (t := 24) rfl ?_); (try refine gate_guard (by rfl) ?_); first | (refine Kd.event_run rfl (exec_load rfl rfl (load_hd H.out (HM.out.get 0 rfl))) ?_)) | fail)
          refine (HD.out _).mono ?_
          rintro e w1 ⟨rfl, hB⟩
          replace HM := Aside0.mk (HM.out.below hB)
          clear hB
          cases rd with
          | false =>
            go_wp2_with fail
            go_meet
            exact ⟨by rw [HB.out]; simp, HM⟩
          | true =>
            have d35 := hc35 H.out (HM.out.get 0 rfl)
            go_wp2_with fail
            refine (HP1.out _).mono ?_
            rintro e w1 ⟨rfl, hB⟩
            replace HM := Aside0.mk (HM.out.below hB)
            clear hB
            clear d35
            cases p1 with
            | false =>
              go_wp2_with fail
              go_meet
              exact ⟨by rw [HB.out]; simp, HM⟩
            | true =>
              have d36 := hc36 H.out (HM.out.get 0 rfl)
              go_wp2_with fail
              refine (HP2.out _).mono ?_
              rintro e w1 ⟨rfl, hB⟩
              replace HM := Aside0.mk (HM.out.below hB)
              clear hB
              clear d36
              cases p2 with
              | false =>
                go_wp2_with fail
                go_meet
                exact ⟨by rw [HB.out]; simp, HM⟩
              | true =>
                have d37 := hc37 H.out (HM.out.get 0 rfl)
                go_wp2_with fail
                refine (HP3.out _).mono ?_
                rintro e w1 ⟨rfl, hB⟩
                replace HM := Aside0.mk (HM.out.below hB)
                clear hB
                clear d37
                cases p3 with
                | false =>
                  go_wp2_with fail
                  go_meet
                  exact ⟨by rw [HB.out]; simp, HM⟩
                | true =>
                  go_wp2_with fail
                  go_meet
                  exact ⟨by rw [HB.out]; simp, HM⟩
  case rest =>
    obtain ⟨rfl, HM⟩ := hcut
    cases bR with
    | false =>
      go_wp2_with fail
      go_ret
      exact ⟨by rw [HR.out]; rfl, HM.out.b⟩
    | true =>
      rw [Bool.true_and] at HR
      have d0 := hc0 H.out (HM.out.get 0 rfl)
      generalize hv : h.v = v at d0 HT
      clear hv
      cases v with
      | true =>
        have d38 := hc38 H.out (HM.out.get 0 rfl)
        have d39 := hc39 H.out (HM.out.get 0 rfl)
        have d41 := hc41 H.out (HM.out.get 0 rfl)
        have d40 := hc40 H.out (HM.out.get 0 rfl)
        generalize h.id = id at *
        generalize h.lb = lb at *
        generalize h.df = df at *
        by_cases h1 : id = 0
        · subst h1
          cases df with
          | true =>
            go_wp2_with fail
            go_ret
            exact ⟨by rw [HR.out, HT.out]; rfl, HM.out.b⟩
          | false =>
            by_cases h2 : h.ol.length = 0
            · have q2 : ((h.ol.length : Int) == 0) = true := by rw [h2]; rfl
              have q3 : decide (h.ol.length = 0) = true := by simpa using h2
              rw [q3] at HT
              generalize h.ol.length = n at *
              clear h2 q3
              go_wp2_with fail
              refine (HL.out _).mono ?_
              rintro e w1 ⟨rfl, hB⟩
              replace HM := Aside0.mk (HM.out.below hB)
              clear hB
              go_wp2_with fail
              go_ret
              exact ⟨by rw [HR.out, HT.out]; simp, HM.out.b⟩
            · have q2 : ((h.ol.length : Int) == 0) = false := by rw [beq_eq_false_iff_ne]; omega
              have q3 : decide (h.ol.length = 0) = false := by simpa using h2
              rw [q3] at HT
              generalize h.ol.length = n at *
              clear h2 q3
              go_wp2_with fail
              go_ret
              exact ⟨by rw [HR.out, HT.out]; simp, HM.out.b⟩
        · have q1 : (id == 0) = false := by simpa using h1
          clear h1
          rw [q1] at HT
          go_wp2_with fail
          go_ret
          exact ⟨by rw [HR.out, HT.out]; simp, HM.out.b⟩
      | false =>
        have d38 := hc38 H.out (HM.out.get 0 rfl)
        have d40 := hc40 H.out (HM.out.get 0 rfl)
        have htm : ((h.ol.length : Int)).tmod 4 = ((h.ol.length % 4 : Nat) : Int) := by rw [Int.tmod_eq_emod_of_nonneg (by omega)]; omega
        obtain ⟨b1, hb1⟩ : ∃ b1, (h.lb == 0) = b1 := ⟨_, rfl⟩
        obtain ⟨b2, hb2⟩ : ∃ b2, decide (h.ol.length ≤ 40) = b2 := ⟨_, rfl⟩
        obtain ⟨b3, hb3⟩ : ∃ b3, decide (h.ol.length % 4 = 0) = b3 := ⟨_, rfl⟩
        rw [hb1, hb2, hb3] at HT
        have q2 : decide ((h.ol.length : Int) ≤ 40) = b2 := by rw [← hb2]; exact decide_eq_decide.2 (by omega)
        have q3 : ((h.ol.length : Int).tmod 4 == 0) = b3 := by rw [htm, ← hb3]; by_cases h4 : h.ol.length % 4 = 0; rw [h4]; rfl; rw [decide_eq_false h4, beq_eq_false_iff_ne]; omega
        have q5 : ((h.ol.length : Int) % 4 == 0) = b3 := by rw [← q3, Int.tmod_eq_emod_of_nonneg (by omega)]
        clear hb2 hb3
        have HQ := Aside0.mk (And.intro q2 (And.intro q3 q5))
        clear q2 q3 q5 htm
        generalize h.lb = lb at *
        cases b1 with
        | false =>
          go_wp2_with fail
          go_ret
          exact ⟨by rw [HR.out, HT.out]; simp, HM.out.b⟩
        | true =>
          go_wp2_with fail
          refine (HI.out _).mono ?_
          rintro e w1 ⟨rfl, hB⟩
          replace HM := Aside0.mk (HM.out.below hB)
          clear hB
          clear d38 d40 hb1 d0
          cases pi with
          | false =>
            go_wp2_with fail
            go_ret
            exact ⟨by rw [HR.out, HT.out]; simp, HM.out.b⟩
          | true =>
            have d41 := hc41 H.out (HM.out.get 0 rfl)
            have q2 : ((h.ol.length : Int) ≤ 40) ↔ b2 = true := by rw [← HQ.out.1]; simp
            have q3 := HQ.out.2.1
            have q5 := HQ.out.2.2
            generalize hn : h.ol.length = n at *
            clear hn HQ
            cases b2 with
            | false =>
              have q4 : ¬ (n : Int) ≤ 40 := by simpa using q2
              clear q2
              go_wp2_with fail
              go_ret
              exact ⟨by rw [HR.out, HT.out]; simp, HM.out.b⟩
            | true =>
              have q4 : (n : Int) ≤ 40 := by simpa using q2
              clear q2
              go_wp2_with fail
              go_ret
              exact ⟨by rw [HR.out, HT.out]; simp [q5], HM.out.b⟩
set_option maxHeartbeats 8000000 in
theorem refRightH_any (h : Pk) (q : Pl) (w : World) (H : OkP h) : Calls Try.prog 29 #[.agg (flat (hseg h q))] w fun e w' => e = .returned (.bool (rightH h)) ∧ Below w.heap.size w w' := by
  have HM := Aside0.mk ((Mem.nil w).new (.cells (flat (hseg h q)) 27))
  simp only [List.nil_append, List.cons_append] at HM
  have H := Aside0.mk H
  have HS := Aside0.mk (fun W => refRight_any h.s.v h.s.b W H.out.s.l)
  have HD := Aside0.mk (fun W => refRight_any h.d.v h.d.b W H.out.d.l)
  have HP1 := Aside0.mk (fun W => within_any h.p 255 W)
  have HP2 := Aside0.mk (fun W => within_any h.tt 255 W)
  have HP3 := Aside0.mk (fun W => within_any h.ts 255 W)
  have HL := Aside0.mk (fun W => within_any h.lb 1048575 W)
  have HI := Aside0.mk (fun W => within_any h.id 65535 W)
  have HR : Aside0 (rightH h = (baseR h && restR h)) := ⟨rfl⟩
  have HB : Aside0 (baseR h = ((h.s.v == h.v) && ((h.d.v == h.v) && (rightB h.s.v h.s.b && (rightB h.d.v h.d.b && (inB h.p 255 && (inB h.tt 255 && inB h.ts 255))))))) := ⟨rfl⟩
  have HT : Aside0 (restR h = if h.v then (h.id == 0) && (!h.df && (decide (h.ol.length = 0) && inB h.lb 1048575)) else (h.lb == 0) && (inB h.id 65535 && (decide (h.ol.length ≤ 40) && decide (h.ol.length % 4 = 0)))) := ⟨rfl⟩
  have d0 := hc0 H.out (HM.out.get 0 rfl)
  have d1 := hc1 H.out (HM.out.get 0 rfl)
  have d18 := hc18 H.out (HM.out.get 0 rfl)
  generalize rightB h.s.v h.s.b = rs at *
  generalize rightB h.d.v h.d.b = rd at *
  generalize inB h.p 255 = p1 at *
  generalize inB h.tt 255 = p2 at *
  generalize inB h.ts 255 = p3 at *
  generalize inB h.lb 1048575 = pl at *
  generalize inB h.id 65535 = pi at *
  generalize baseR h = bR at *
  generalize restR h = tR at *
  obtain ⟨e1, he1⟩ : ∃ e1, (h.s.v == h.v) = e1 := ⟨_, rfl⟩
  obtain ⟨e2, he2⟩ : ∃ e2, (h.d.v == h.v) = e2 := ⟨_, rfl⟩
  rw [he1, he2] at HB
  have hn1 := he1
  have hn2 := he2
  clear he1 he2
  go_enter Try.func29, Try.ntmps29
  go_upto_region 1 with fail
  go_cut [46] from 3 to 46 (fun s46 wx => s46 = .bool (!bR) ∧ Aside0 (Mem w [Blk w.heap.size (.cells (flat (hseg h q)) 27 (0, 0))] wx))
  case first =>
    clear d0 d1 d18
    go_wp2_with (first | ((with_reducible refine gate_load (t := 24) rfl ?_); (try refine gate_guard (by rfl) ?_); first | (refine Kd.event_run rfl (exec_load rfl rfl (load_hs H.out (HM.out.get 0 rfl))) ?_)) | fail)
    refine (HS.out _).mono ?_
    rintro e w1 ⟨rfl, hB⟩
    replace HM := Aside0.mk (HM.out.below hB)
    clear hB
    cases rs with
    | false =>
      go_wp2_with fail
      go_meet
      exact ⟨by rw [HB.out]; simp, HM⟩
    | true =>
      go_wp2_with (first | ((with_reducible refine gate_load (t := 24) rfl ?_); (try refine gate_guard (by rfl) ?_); first | (refine Kd.event_run rfl (exec_load rfl rfl (load_hd H.out (HM.out.get 0 rfl))) ?_)) | fail)
      refine (HD.out _).mono ?_
      rintro e w1 ⟨rfl, hB⟩
      replace HM := Aside0.mk (HM.out.below hB)
      clear hB
      cases rd with
      | false =>
        go_wp2_with fail
        go_meet
        exact ⟨by rw [HB.out]; simp, HM⟩
      | true =>
        have d0 := hc0 H.out (HM.out.get 0 rfl)
        have d1 := hc1 H.out (HM.out.get 0 rfl)
        have d18 := hc18 H.out (HM.out.get 0 rfl)
        cases e1 with
        | false =>
          go_wp2_with fail
          go_meet
          exact ⟨by rw [HB.out]; simp, HM⟩
        | true =>
          cases e2 with
          | false =>
            go_wp2_with fail
            go_meet
            exact ⟨by rw [HB.out]; simp, HM⟩
          | true =>
            have d35 := hc35 H.out (HM.out.get 0 rfl)
            go_wp2_with fail
            refine (HP1.out _).mono ?_
            rintro e w1 ⟨rfl, hB⟩
            replace HM := Aside0.mk (HM.out.below hB)
            clear hB
            clear d35 d0 d1 d18 hn1 hn2
            cases p1 with
            | false =>
              go_wp2_with fail
              go_meet
              exact ⟨by rw [HB.out]; simp, HM⟩
            | true =>
              have d36 := hc36 H.out (HM.out.get 0 rfl)
              go_wp2_with fail
              refine (HP2.out _).mono ?_
              rintro e w1 ⟨rfl, hB⟩
              replace HM := Aside0.mk (HM.out.below hB)
              clear hB
              clear d36
              cases p2 with
              | false =>
                go_wp2_with fail
                go_meet
                exact ⟨by rw [HB.out]; simp, HM⟩
              | true =>
                have d37 := hc37 H.out (HM.out.get 0 rfl)
                go_wp2_with fail
                refine (HP3.out _).mono ?_
                rintro e w1 ⟨rfl, hB⟩
                replace HM := Aside0.mk (HM.out.below hB)
                clear hB
                clear d37
                cases p3 with
                | false =>
                  go_wp2_with fail
                  go_meet
                  exact ⟨by rw [HB.out]; simp, HM⟩
                | true =>
                  go_wp2_with fail
                  go_meet
                  exact ⟨by rw [HB.out]; simp, HM⟩
  case rest =>
    obtain ⟨rfl, HM⟩ := hcut
    cases bR with
    | false =>
      go_wp2_with fail
      go_ret
      exact ⟨by rw [HR.out]; rfl, HM.out.b⟩
    | true =>
      rw [Bool.true_and] at HR
      have d0 := hc0 H.out (HM.out.get 0 rfl)
      generalize hv : h.v = v at d0 HT
      clear hv
      cases v with
      | true =>
        have d38 := hc38 H.out (HM.out.get 0 rfl)
        have d39 := hc39 H.out (HM.out.get 0 rfl)
        have d41 := hc41 H.out (HM.out.get 0 rfl)
        have d40 := hc40 H.out (HM.out.get 0 rfl)
        generalize h.id = id at *
        generalize h.lb = lb at *
        generalize h.df = df at *
        by_cases h1 : id = 0
        · subst h1
          cases df with
          | true =>
            go_wp2_with fail
            go_ret
            exact ⟨by rw [HR.out, HT.out]; rfl, HM.out.b⟩
          | false =>
            by_cases h2 : h.ol.length = 0
            · have q2 : ((h.ol.length : Int) == 0) = true := by rw [h2]; rfl
              have q3 : decide (h.ol.length = 0) = true := by simpa using h2
              rw [q3] at HT
              generalize h.ol.length = n at *
              clear h2 q3
              go_wp2_with fail
              refine (HL.out _).mono ?_
              rintro e w1 ⟨rfl, hB⟩
              replace HM := Aside0.mk (HM.out.below hB)
              clear hB
              go_wp2_with fail
              go_ret
              exact ⟨by rw [HR.out, HT.out]; simp, HM.out.b⟩
            · have q2 : ((h.ol.length : Int) == 0) = false := by rw [beq_eq_false_iff_ne]; omega
              have q3 : decide (h.ol.length = 0) = false := by simpa using h2
              rw [q3] at HT
              generalize h.ol.length = n at *
              clear h2 q3
              go_wp2_with fail
              go_ret
              exact ⟨by rw [HR.out, HT.out]; simp, HM.out.b⟩
        · have q1 : (id == 0) = false := by simpa using h1
          clear h1
          rw [q1] at HT
          go_wp2_with fail
          go_ret
          exact ⟨by rw [HR.out, HT.out]; simp, HM.out.b⟩
      | false =>
        have d38 := hc38 H.out (HM.out.get 0 rfl)
        have d40 := hc40 H.out (HM.out.get 0 rfl)
        have htm : ((h.ol.length : Int)).tmod 4 = ((h.ol.length % 4 : Nat) : Int) := by rw [Int.tmod_eq_emod_of_nonneg (by omega)]; omega
        obtain ⟨b1, hb1⟩ : ∃ b1, (h.lb == 0) = b1 := ⟨_, rfl⟩
        obtain ⟨b2, hb2⟩ : ∃ b2, decide (h.ol.length ≤ 40) = b2 := ⟨_, rfl⟩
        obtain ⟨b3, hb3⟩ : ∃ b3, decide (h.ol.length % 4 = 0) = b3 := ⟨_, rfl⟩
        rw [hb1, hb2, hb3] at HT
        have q2 : decide ((h.ol.length : Int) ≤ 40) = b2 := by rw [← hb2]; exact decide_eq_decide.2 (by omega)
        have q3 : ((h.ol.length : Int).tmod 4 == 0) = b3 := by rw [htm, ← hb3]; by_cases h4 : h.ol.length % 4 = 0; rw [h4]; rfl; rw [decide_eq_false h4, beq_eq_false_iff_ne]; omega
        have q5 : ((h.ol.length : Int) % 4 == 0) = b3 := by rw [← q3, Int.tmod_eq_emod_of_nonneg (by omega)]
        clear hb2 hb3
        have HQ := Aside0.mk (And.intro q2 (And.intro q3 q5))
        clear q2 q3 q5 htm
        clear d40
        go_wp2_with fail
        refine (HI.out _).mono ?_
        rintro e w1 ⟨rfl, hB⟩
        replace HM := Aside0.mk (HM.out.below hB)
        clear hB
        clear d38 d0
        cases pi with
        | false =>
          go_wp2_with fail
          go_ret
          exact ⟨by rw [HR.out, HT.out]; simp, HM.out.b⟩
        | true =>
          have d40 := hc40 H.out (HM.out.get 0 rfl)
          generalize h.lb = lb at *
          cases b1 with
          | false =>
            go_wp2_with fail
            go_ret
            exact ⟨by rw [HR.out, HT.out]; simp, HM.out.b⟩
          | true =>
            have d41 := hc41 H.out (HM.out.get 0 rfl)
            have q2 : ((h.ol.length : Int) ≤ 40) ↔ b2 = true := by rw [← HQ.out.1]; simp
            have q3 := HQ.out.2.1
            have q5 := HQ.out.2.2
            generalize hn : h.ol.length = n at *
            clear hn HQ
            cases b2 with
            | false =>
              have q4 : ¬ (n : Int) ≤ 40 := by simpa using q2
              clear q2
              go_wp2_with fail
              go_ret
              exact ⟨by rw [HR.out, HT.out]; simp, HM.out.b⟩
            | true =>
              have q4 : (n : Int) ≤ 40 := by simpa using q2
              clear q2
              go_wp2_with fail
              go_ret
              exact ⟨by rw [HR.out, HT.out]; simp [q5], HM.out.b⟩
end Go.Proofs.Ytjidoedlmpjmnaa.Hdr
namespace Go.Proofs.Ytjidoedlmpjmnaa.Hdr
open Go.RowKit Go.Proofs.Ytjidoedlmpjmnaa.SumsP Go.Proofs.Ytjidoedlmpjmnaa.SumW Go.Proofs.Ytjidoedlmpjmnaa.Cur Go.Proofs.Ytjidoedlmpjmnaa.Own Go.Proofs.Ytjidoedlmpjmnaa.StepX Go.Proofs.Ytjidoedlmpjmnaa.AddrW Go.Proofs.Ytjidoedlmpjmnaa.Segs Go.Proofs.Ytjidoedlmpjmnaa.Mem Go.Proofs.Ytjidoedlmpjmnaa.AddrEq Go.Proofs.Ytjidoedlmpjmnaa.Bits Go.Proofs.Ytjidoedlmpjmnaa.Help Go.Proofs.YtjidoedlmpjmnaaW.PrintWords Go.Proofs.YtjidoedlmpjmnaaW.PrintLast Go.Proofs.YtjidoedlmpjmnaaW.PrintMore
set_option linter.unusedVariables false
set_option linter.unusedSimpArgs false
set_option maxRecDepth 20000
def PutR (h : Pk) (w : World) (e : Ending) (w' : World) : Prop := ∃ v, e = .returned (.tuple #[v, .int .i64 (putE h)]) ∧ Owns w' w.heap.size v (putH h) ∧ Below w.heap.size w w'
theorem vK0 (W : World) (n : Int) : dV.K W (n, ([] : List Int)) [.int .u64 n, .slice none 0 0] := ⟨[_], [_], rfl, rfl, none, 0, rfl, Nat.le_refl _, C_zero _ _⟩
theorem vKb {W : World} {A : Option Addr} {c : Nat} {bs : List Int} (h : Kd.C (Kd.int .u8) W A bs.length bs) (hc : bs.length ≤ c) : dV.K W (0, bs) [.int .u64 0, .slice A bs.length c] := ⟨[_], [_], rfl, rfl, A, c, rfl, hc, h⟩
def v6C (h : Pk) (n m : Nat) (sA dA : Option Addr) (sc dc : Nat) : Array Value := #[.int .u64 (1610612736 + h.ts * 1048576 + h.lb), .slice none 0 0, .int .u64 (h.dl.length : Int), .slice none 0 0, .int .u64 h.p, .slice none 0 0, .int .u64 h.tt, .slice none 0 0, .int .u64 0, .slice sA n sc, .int .u64 0, .slice dA m dc]
def v4C (h : Pk) (n m : Nat) (sA dA : Option Addr) (sc dc : Nat) : Array Value := #[.int .u64 (64 + (hdN h : Int) / 4), .slice none 0 0, .int .u64 h.ts, .slice none 0 0, .int .u64 ((hdN h : Int) + h.dl.length), .slice none 0 0, .int .u64 h.id, .slice none 0 0, .int .u64 (dfN h.df), .slice none 0 0, .int .u64 h.tt, .slice none 0 0, .int .u64 h.p, .slice none 0 0, .int .u64 0, .slice none 0 0, .int .u64 0, .slice sA n sc, .int .u64 0, .slice dA m dc]
theorem lay6_any {h : Pk} (H : OkP h) (R : RtP h) (hv : h.v = true) (hd : (h.dl.length : Int) ≤ 65535 - (hdN h : Int)) (W : World) {sb db : List Int} (hsb : h.s.b = sb) (hdb : h.d.b = db) {sA dA : Option Addr} {sc dc : Nat} {x y : Nat}
    (hs : Kd.C (Kd.int .u8) W sA sb.length sb) (hsc : sb.length ≤ sc) (hdd : Kd.C (Kd.int .u8) W dA db.length db) (hdc : db.length ≤ dc)
    (hx : W.heap[x]? = some (.cells (v6C h sb.length db.length sA dA sc dc) 53 (0, 0))) (hy : W.heap[y]? = some (.cells ops6C 68 (0, 0))) :
    Calls Try.prog 25 #[.slice (some ⟨x, 0, none⟩) 6 6, .slice (some ⟨y, 0, none⟩) 6 6] W fun e w' => ∃ v, e = .returned (.tuple #[v, .int .i64 0]) ∧ Owns w' W.heap.size v (pre6 h) ∧ Below W.heap.size W w' := by
  subst hsb hdb
  obtain ⟨-, -, -, hl0, hl1⟩ := R.v6 hv
  have hp := R.p; have ht := R.tt; have hts := R.ts
  have hV : dV.C W (some ⟨x, 0, none⟩) (vals6 h).length (vals6 h) := lit_C [((1610612736 + h.ts * 1048576 + h.lb, ([] : List Int)), [.int .u64 (1610612736 + h.ts * 1048576 + h.lb), .slice none 0 0]), (((h.dl.length : Int), []), [.int .u64 (h.dl.length : Int), .slice none 0 0]), ((h.p, []), [.int .u64 h.p, .slice none 0 0]), ((h.tt, []), [.int .u64 h.tt, .slice none 0 0]), ((0, h.s.b), [.int .u64 0, .slice sA h.s.b.length sc]), ((0, h.d.b), [.int .u64 0, .slice dA h.d.b.length dc])]
    (fun p hp => by
      simp only [List.mem_cons, List.not_mem_nil, or_false] at hp
      rcases hp with rfl | rfl | rfl | rfl | rfl | rfl
      · exact vK0 _ _
      · exact vK0 _ _
      · exact vK0 _ _
      · exact vK0 _ _
      · exact vKb hs hsc
      · exact vKb hdd hdc) hx (by simp)
  refine (Lay_any W _ _ 6 6 (vals6 h) ops6 hV (by simp [vals6]) (ops_lit ops6 (by decide) hy) (by decide) (by decide) (fun v hv => ?_)).mono ?_
  · simp only [vals6, List.mem_cons, List.not_mem_nil, or_false] at hv
    rcases hv with rfl | rfl | rfl | rfl | rfl | rfl <;> dsimp only <;> omega
  · rintro e w' ⟨v, he, hO, hB⟩
    rw [lay6 H R hv hd] at he hO
    exact ⟨v, he, hO, hB⟩
theorem lay4_any {h : Pk} (H : OkP h) (R : RtP h) (hv : h.v = false) (hd : (h.dl.length : Int) ≤ 65535 - (hdN h : Int)) (W : World) {sb db : List Int} (hsb : h.s.b.take 4 = sb) (hdb : h.d.b.take 4 = db) {sA dA : Option Addr} {sc dc : Nat} {x y : Nat}
    (hs : Kd.C (Kd.int .u8) W sA sb.length sb) (hsc : sb.length ≤ sc) (hdd : Kd.C (Kd.int .u8) W dA db.length db) (hdc : db.length ≤ dc)
    (hx : W.heap[x]? = some (.cells (v4C h sb.length db.length sA dA sc dc) 53 (0, 0))) (hy : W.heap[y]? = some (.cells ops4C 68 (0, 0))) :
    Calls Try.prog 25 #[.slice (some ⟨x, 0, none⟩) 10 10, .slice (some ⟨y, 0, none⟩) 10 10] W fun e w' => ∃ v, e = .returned (.tuple #[v, .int .i64 0]) ∧ Owns w' W.heap.size v (hd4 h) ∧ Below W.heap.size W w' := by
  subst hsb hdb
  obtain ⟨hh, ho, ho4⟩ := hdN4 R hv
  obtain ⟨-, hid, -, -⟩ := R.v4 hv
  have hp := R.p; have ht := R.tt; have hts := R.ts
  have hdf : 0 ≤ dfN h.df ∧ dfN h.df < 65536 := by cases h.df <;> decide
  have hV : dV.C W (some ⟨x, 0, none⟩) (vals4 h).length (vals4 h) := lit_C [((64 + (hdN h : Int) / 4, ([] : List Int)), [.int .u64 (64 + (hdN h : Int) / 4), .slice none 0 0]), ((h.ts, []), [.int .u64 h.ts, .slice none 0 0]), (((hdN h : Int) + h.dl.length, []), [.int .u64 ((hdN h : Int) + h.dl.length), .slice none 0 0]), ((h.id, []), [.int .u64 h.id, .slice none 0 0]), ((dfN h.df, []), [.int .u64 (dfN h.df), .slice none 0 0]), ((h.tt, []), [.int .u64 h.tt, .slice none 0 0]), ((h.p, []), [.int .u64 h.p, .slice none 0 0]), ((0, []), [.int .u64 0, .slice none 0 0]), ((0, h.s.b.take 4), [.int .u64 0, .slice sA (h.s.b.take 4).length sc]), ((0, h.d.b.take 4), [.int .u64 0, .slice dA (h.d.b.take 4).length dc])]
    (fun p hp => by
      simp only [List.mem_cons, List.not_mem_nil, or_false] at hp
      rcases hp with rfl | rfl | rfl | rfl | rfl | rfl | rfl | rfl | rfl | rfl
      · exact vK0 _ _
      · exact vK0 _ _
      · exact vK0 _ _
      · exact vK0 _ _
      · exact vK0 _ _
      · exact vK0 _ _
      · exact vK0 _ _
      · exact vK0 _ _
      · exact vKb hs hsc
      · exact vKb hdd hdc) hx (by simp)
  refine (Lay_any W _ _ 10 10 (vals4 h) ops4 hV (by simp [vals4]) (ops_lit ops4 (by decide) hy) (by decide) (by decide) (fun v hv => ?_)).mono ?_
  · simp only [vals4, List.mem_cons, List.not_mem_nil, or_false] at hv
    rcases hv with rfl | rfl | rfl | rfl | rfl | rfl | rfl | rfl | rfl | rfl <;> dsimp only <;> omega
  · rintro e w' ⟨v, he, hO, hB⟩
    rw [lay4 H R hv hd] at he hO
    exact ⟨v, he, hO, hB⟩
theorem pre6_len {h : Pk} (H : OkP h) : (pre6 h).length ≤ 100 := by simp [pre6, be2, H.s.l, H.d.l]
theorem hd4_len {h : Pk} (H : OkP h) : (hd4 h).length ≤ 100 := by simp [hd4, be2]; omega
theorem hd4_len2 {h : Pk} (H : OkP h) : (hd4 h).length = 20 := by simp [hd4, be2, H.s.l, H.d.l]
theorem zero2_pre4 (h : Pk) : zero2 (pre4 h) 10 = pre4 h := by
  unfold zero2 pre4 be2
  simp
theorem be2_bytes (n : Int) : Bytes (be2 n) := fun x hx => by
  unfold be2 at hx
  simp at hx
  omega
theorem allB_bytes {l : List Int} (h : ∀ x ∈ l, 0 ≤ x ∧ x < 256) : Bytes l := fun x hx => by have := h x hx; omega
theorem pre4_bytes {h : Pk} (H : OkP h) (R : RtP h) (hv : h.v = false) : Bytes (pre4 h) := by
  obtain ⟨hh, ho, ho4⟩ := hdN4 R hv
  have hp := R.p; have ht := R.tt; have hs := R.ts
  unfold pre4
  refine Bytes.append (fun x hx => ?_) (Bytes.append (be2_bytes _) (Bytes.append (be2_bytes _) (Bytes.append (be2_bytes _) (Bytes.append (fun x hx => ?_) (Bytes.append ((allB_bytes H.s.a).take 4) (Bytes.append ((allB_bytes H.d.a).take 4) (allB_bytes H.ob)))))))
  · simp at hx; rcases hx with rfl | rfl <;> omega
  · simp at hx; rcases hx with rfl | rfl | rfl <;> omega
theorem pre6_len2 {h : Pk} (H : OkP h) : (pre6 h).length = 40 := by simp [pre6, be2, H.s.l, H.d.l]
theorem u64_63 {n : Int} (h : n < 256) : n < 18446744073709551616 := by omega
set_option maxHeartbeats 16000000 in
theorem Put_any (h : Pk) (q : Pl) (w : World) (H : OkP h) (hr : RdP h q w) : Calls Try.prog 8 #[.agg (flat (hseg h q))] w (PutR h w) := by
  have HM := Aside0.mk ((Mem.nil w).new (.cells (flat (hseg h q)) 28))
  simp only [List.nil_append, List.cons_append] at HM
  have H := Aside0.mk H
  have HRD := Aside0.mk hr
  have HR := Aside0.mk (fun W => right_any h q W H.out)
  have HSZ := Aside0.mk (fun W => Size_any h q W H.out)
  have HP : Aside0 (∀ e w', PutR h w e w' = ∃ v, e = .returned (.tuple #[v, .int .i64 (putE h)]) ∧ Owns w' w.heap.size v (putH h) ∧ Below w.heap.size w w') := ⟨fun _ _ => rfl⟩
  clear hr
  go_enter Try.func8, Try.ntmps8
  go_wp2_with ((with_reducible refine gate_dst (N := 16) rfl ?_); refine Kd.event_run rfl (exec_load rfl rfl (load_h H.out (HM.out.get 0 rfl))) ?_)
  refine (HR.out _).mono ?_
  rintro e w1 ⟨rfl, hB⟩
  replace HM := Aside0.mk (HM.out.below hB)
  clear hB
  cases hr : rightH h with
  | false =>
    have HE : Aside0 (putE h = 1 ∧ putH h = []) := ⟨by unfold putH putE; rw [hr]; simp⟩
    have HF : Aside0 (PutR h w (.returned (.tuple #[.slice none 0 0, .int .i64 1])) w1) := ⟨⟨_, by rw [HE.out.1], by rw [HE.out.2]; exact Owns.nil _ _, HM.out.b⟩⟩
    clear hr
    go_wp2_with fail
    go_ret2
    exact HF.out
  | true =>
    have R := Aside0.mk (rt_of hr)
    have HE : Aside0 (putE h = if (h.dl.length : Int) > 65535 - (hdN h : Int) then 3 else 0) := ⟨by unfold putE; rw [hr]; simp⟩
    have hN : hdN h ≤ 60 := by
      cases hv : h.v
      · have := hdN4 R.out hv; omega
      · unfold hdN; rw [hv]; exact (by decide : (40 : Nat) ≤ 60)
    have hw0 : IntKind.i64.wrap (65535 - ((hdN h : Nat) : Int)) = 65535 - ((hdN h : Nat) : Int) := wrap64_in (by omega)
    clear hr HR
    go_upto_region 3 with fail
    refine RegionF.region_F (F := (Mem w [Blk w.heap.size (.cells (flat (hseg h q)) 28 (0, 0))])) 7 (by kernel_rfl) (by kernel_rfl) HM.out.drew ?_
    simp only [List.take_succ_cons, List.take_zero, List.drop_succ_cons, List.drop_zero]
    repeat (first
      | (refine RegionF.wpF_skip (by rfl) ?_
         refine RegionF.wpF_put (fun K' hK' => ?_)
         go_simp
         refine hK' _ ?_
         clear hK' K')
      | (apply RegionF.wpF_step
         · rfl
         · (intro W hW; first | (rw [exec_load rfl rfl (Cur.load_one (hc42 H.out (hW.get 0 rfl)) Try.underlying25 rfl)]; exact RegionF.GivesF.value rfl hW) | (rw [exec_load rfl rfl (load_h H.out (hW.get 0 rfl))]; exact RegionF.GivesF.value rfl hW) | (go_simp; first | exact RegionF.GivesF.value rfl hW | (apply RegionF.GivesF.enter; first | (with_reducible exact (HSZ.out W).mono fun e w1 h => ⟨h.1, hW.below h.2⟩))))
         refine RegionF.wpF_put (fun K' hK' => ?_)
         go_simp
         refine hK' _ ?_
         clear hK' K'))
    refine RegionF.wpF_nil (fun X hX => ?_)
    replace HM := Aside0.mk hX
    clear hX
    by_cases hd : 65535 - ((hdN h : Nat) : Int) < ((h.dl.length : Nat) : Int)
    · have HE2 : Aside0 (putE h = 3 ∧ putH h = []) := ⟨by rw [HE.out, if_pos hd]; exact ⟨rfl, by unfold putH; rw [HE.out, if_pos hd]; simp⟩⟩
      have HF : Aside0 (PutR h w (.returned (.tuple #[.slice none 0 0, .int .i64 3])) X) := ⟨⟨_, by rw [HE2.out.1], by rw [HE2.out.2]; exact Owns.nil _ _, HM.out.b⟩⟩
      go_wp2_with fail
      go_ret2
      exact HF.out
    · have HE2 : Aside0 (putE h = 0 ∧ putH h = if h.v then put6 h else put4 h) := ⟨by rw [HE.out, if_neg hd]; exact ⟨rfl, by unfold putH; rw [HE.out, if_neg hd]; simp⟩⟩
      have hdl : Aside0 ((h.dl.length : Int) ≤ 65535 - (hdN h : Int)) := ⟨by omega⟩
      have hd2 : decide (65535 - ((hdN h : Nat) : Int) < ((h.dl.length : Nat) : Int)) = false := by simpa using hd
      have HBS := Aside0.mk (fun W => Bytes_any h.s.v h.s.b W H.out.s.l)
      have HBD := Aside0.mk (fun W => Bytes_any h.d.v h.d.b W H.out.d.l)
      have hes : byE h.s.v h.s.b = 0 ∧ byR h.s.v h.s.b = h.s.b.take (sz h.v) := by unfold byE byR; rw [R.out.sr, R.out.sv]; exact ⟨rfl, rfl⟩
      have hed : byE h.d.v h.d.b = 0 ∧ byR h.d.v h.d.b = h.d.b.take (sz h.v) := by unfold byE byR; rw [R.out.dr, R.out.dv]; exact ⟨rfl, rfl⟩
      obtain ⟨sb, hsb⟩ : ∃ sb, h.s.b.take (sz h.v) = sb := ⟨_, rfl⟩
      obtain ⟨db, hdb⟩ : ∃ db, h.d.b.take (sz h.v) = db := ⟨_, rfl⟩
      rw [hes.1, hes.2, hsb] at HBS
      rw [hed.1, hed.2, hdb] at HBD
      have hsb := Aside0.mk hsb
      have hdb := Aside0.mk hdb
      clear hes hed hw0 HE
      go_upto_region 5 with fail
      go_wp2_with ((with_reducible refine gate_dst (N := 29) rfl ?_); refine Kd.event_run rfl (exec_load rfl rfl (load_hs H.out (HM.out.get 0 rfl))) ?_)
      refine (HBS.out _).mono ?_
      rintro e X1 ⟨r1, rfl, hO1, hB1⟩
      obtain ⟨sA, sc, rfl, hscx, hC1⟩ := hO1.reads hO1.len63
      replace HM := Aside0.mk ((HM.out.below hB1).push (Rd.stays sA _) hC1)
      simp only [List.nil_append, List.cons_append] at HM
      have hsc := Aside0.mk hscx
      clear hO1 hB1 hC1 hscx hd hd2
      go_wp2_with ((with_reducible refine gate_dst (N := 35) rfl ?_); refine Kd.event_run rfl (exec_load rfl rfl (load_hd H.out (HM.out.get 0 rfl))) ?_)
      refine (HBD.out _).mono ?_
      rintro e X2 ⟨r2, rfl, hO2, hB2⟩
      obtain ⟨dA, dc, rfl, hdcx, hC2⟩ := hO2.reads hO2.len63
      replace HM := Aside0.mk ((HM.out.below hB2).push (Rd.stays dA _) hC2)
      simp only [List.nil_append, List.cons_append] at HM
      have hdc := Aside0.mk hdcx
      clear hO2 hB2 hC2 hdcx HBS HBD
      have c0 := hc0 H.out (HM.out.get 0 rfl)
      have hp := R.out.p
      have htt := R.out.tt
      have hts := R.out.ts
      have hdn := hdl.out
      cases hvv : h.v with
      | true =>
        have hv := Aside0.mk hvv
        obtain ⟨-, -, hol, hl0, hl1⟩ := R.out.v6 hvv
        rw [hvv] at c0 HE2
        have ets : Aside0 (h.s.b = sb) := ⟨by rw [← hsb.out, hvv]; exact (List.take_of_length_le (by rw [H.out.s.l]; decide)).symm⟩
        have etd : Aside0 (h.d.b = db) := ⟨by rw [← hdb.out, hvv]; exact (List.take_of_length_le (by rw [H.out.d.l]; decide)).symm⟩
        clear hvv hsb hdb
        have hsh : IntKind.i64.wrap (h.ts * 1048576) = h.ts * 1048576 := wrap64_in (by omega)
        have hor1 : Go.bits .or .i64 1610612736 (h.ts * 1048576) = 1610612736 + h.ts * 1048576 := or_i64 28 (by omega) (by decide) (by omega) (by omega) (by omega) (by omega)
        have hor2 : Go.bits .or .i64 (1610612736 + h.ts * 1048576) h.lb = 1610612736 + h.ts * 1048576 + h.lb := or_i64 20 (by omega) (by omega) (by omega) (by omega) (by omega) (by omega)
        go_upto_region 9 with fail
        clear c0
        go_cut [9, 10] from 41 to 72 (fun s9 s10 wx => ∃ (Vl : World) (A : Option Addr) (c : Nat), s9 = .slice A 40 c ∧ s10 = .int .i64 0 ∧ Aside0 (RB Vl wx (.slice A 40 c) (pre6 h) ∧ (Mem w [Blk w.heap.size (.cells (flat (hseg h q)) 28 (0, 0)), Rd sA sb, Rd dA db] Vl)))
        case first =>
          try simp only [List.append_eq, List.cons_append, List.nil_append]
          replace HM := Aside0.mk HM.out.drew
          refine RegionI.region_I (S := BH 28 w.heap.size h q) (D := fun _ => false) (by kernel_rfl) (HM.out.get 0 rfl) ?_
          intro hS
          generalize X2.drew = V at *
          refine RegionI.wpAnyI_take (i := 0) (v := ?_) rfl (by kernel_rfl) (by kernel_rfl) (by kernel_rfl) (by kernel_rfl) (by kernel_rfl) (fun _ _ => rfl) (fun _ _ _ h => h) (by rfl) ?_ hS ?_
          rotate_left
          · (intro X hX; go_simp; try with_reducible rfl)
          refine RegionI.wpAnyI_take (i := 1) (v := ?_) rfl (by kernel_rfl) (by kernel_rfl) (by kernel_rfl) (by kernel_rfl) (by kernel_rfl) (fun _ _ => rfl) (fun _ _ _ h => h) (by rfl) ?_ hS ?_
          rotate_left
          · (intro X hX; go_simp; try with_reducible rfl)
          refine RegionI.wpAnyI_take (i := 2) (v := _) rfl (by kernel_rfl) (by kernel_rfl) (by kernel_rfl) (by kernel_rfl) (by kernel_rfl) (fun _ _ => rfl) (fun _ _ _ h => h) (by rfl) (fun w hw => exec_load rfl (by go_simp) (Cur.load_one (hc37 H.out hw) Try.underlying3 rfl)) hS ?_
          refine RegionI.wpAnyI_take (i := 3) (v := ?_) rfl (by kernel_rfl) (by kernel_rfl) (by kernel_rfl) (by kernel_rfl) (by kernel_rfl) (fun _ _ => rfl) (fun _ _ _ h => h) (by rfl) ?_ hS ?_
          rotate_left
          · (intro X hX; go_simp; try with_reducible rfl)
          refine RegionI.wpAnyI_take (i := 4) (v := ?_) rfl (by kernel_rfl) (by kernel_rfl) (by kernel_rfl) (by kernel_rfl) (by kernel_rfl) (fun _ _ => rfl) (fun _ _ _ h => h) (by rfl) ?_ hS ?_
          rotate_left
          · (intro X hX; go_simp; try with_reducible rfl)
          refine RegionI.wpAnyI_take (i := 5) (v := ?_) rfl (by kernel_rfl) (by kernel_rfl) (by kernel_rfl) (by kernel_rfl) (by kernel_rfl) (fun _ _ => rfl) (fun _ _ _ h => h) (by rfl) ?_ hS ?_
          rotate_left
          · (intro X hX; go_simp; try with_reducible rfl)
          refine RegionI.wpAnyI_take (i := 6) (v := _) rfl (by kernel_rfl) (by kernel_rfl) (by kernel_rfl) (by kernel_rfl) (by kernel_rfl) (fun _ _ => rfl) (fun _ _ _ h => h) (by rfl) (fun w hw => exec_load rfl (by go_simp) (Cur.load_one (hc40 H.out hw) Try.underlying3 rfl)) hS ?_
          refine RegionI.wpAnyI_take (i := 7) (v := ?_) rfl (by kernel_rfl) (by kernel_rfl) (by kernel_rfl) (by kernel_rfl) (by kernel_rfl) (fun _ _ => rfl) (fun _ _ _ h => h) (by rfl) ?_ hS ?_
          rotate_left
          · (intro X hX; go_simp; try with_reducible rfl)
          refine RegionI.wpAnyI_take (i := 9) (v := ?_) rfl (by kernel_rfl) (by kernel_rfl) (by kernel_rfl) (by kernel_rfl) (by kernel_rfl) (fun _ _ => rfl) (fun _ _ _ h => h) (by rfl) ?_ hS ?_
          rotate_left
          · (intro X hX; go_simp; try with_reducible rfl)
          refine RegionI.wpAnyI_take (i := 10) (v := ?_) rfl (by kernel_rfl) (by kernel_rfl) (by kernel_rfl) (by kernel_rfl) (by kernel_rfl) (fun _ _ => rfl) (fun _ _ _ h => h) (by rfl) ?_ hS ?_
          rotate_left
          · (intro X hX; go_simp; try with_reducible rfl)
          refine RegionI.wpAnyI_take (i := 11) (v := _) rfl (by kernel_rfl) (by kernel_rfl) (by kernel_rfl) (by kernel_rfl) (by kernel_rfl) (fun _ _ => rfl) (fun _ _ _ h => h) (by rfl) (fun w hw => exec_load rfl (by go_simp) (Cur.load_one (hc42 H.out hw) Try.underlying25 rfl)) hS ?_
          refine RegionI.wpAnyI_take (i := 12) (v := ?_) rfl (by kernel_rfl) (by kernel_rfl) (by kernel_rfl) (by kernel_rfl) (by kernel_rfl) (fun _ _ => rfl) (fun _ _ _ h => h) (by rfl) ?_ hS ?_
          rotate_left
          · (intro X hX; go_simp; try with_reducible rfl)
          refine RegionI.wpAnyI_take (i := 14) (v := ?_) rfl (by kernel_rfl) (by kernel_rfl) (by kernel_rfl) (by kernel_rfl) (by kernel_rfl) (fun _ _ => rfl) (fun _ _ _ h => h) (by rfl) ?_ hS ?_
          rotate_left
          · (intro X hX; go_simp; try with_reducible rfl)
          refine RegionI.wpAnyI_take (i := 15) (v := ?_) rfl (by kernel_rfl) (by kernel_rfl) (by kernel_rfl) (by kernel_rfl) (by kernel_rfl) (fun _ _ => rfl) (fun _ _ _ h => h) (by rfl) ?_ hS ?_
          rotate_left
          · (intro X hX; go_simp; try with_reducible rfl)
          refine RegionI.wpAnyI_take (i := 16) (v := _) rfl (by kernel_rfl) (by kernel_rfl) (by kernel_rfl) (by kernel_rfl) (by kernel_rfl) (fun _ _ => rfl) (fun _ _ _ h => h) (by rfl) (fun w hw => exec_load rfl (by go_simp) (Cur.load_one (hc35 H.out hw) Try.underlying3 rfl)) hS ?_
          refine RegionI.wpAnyI_take (i := 18) (v := ?_) rfl (by kernel_rfl) (by kernel_rfl) (by kernel_rfl) (by kernel_rfl) (by kernel_rfl) (fun _ _ => rfl) (fun _ _ _ h => h) (by rfl) ?_ hS ?_
          rotate_left
          · (intro X hX; go_simp; try with_reducible rfl)
          refine RegionI.wpAnyI_take (i := 19) (v := ?_) rfl (by kernel_rfl) (by kernel_rfl) (by kernel_rfl) (by kernel_rfl) (by kernel_rfl) (fun _ _ => rfl) (fun _ _ _ h => h) (by rfl) ?_ hS ?_
          rotate_left
          · (intro X hX; go_simp; try with_reducible rfl)
          refine RegionI.wpAnyI_take (i := 20) (v := _) rfl (by kernel_rfl) (by kernel_rfl) (by kernel_rfl) (by kernel_rfl) (by kernel_rfl) (fun _ _ => rfl) (fun _ _ _ h => h) (by rfl) (fun w hw => exec_load rfl (by go_simp) (Cur.load_one (hc36 H.out hw) Try.underlying3 rfl)) hS ?_
          refine RegionI.wpAnyI_take (i := 22) (v := ?_) rfl (by kernel_rfl) (by kernel_rfl) (by kernel_rfl) (by kernel_rfl) (by kernel_rfl) (fun _ _ => rfl) (fun _ _ _ h => h) (by rfl) ?_ hS ?_
          rotate_left
          · (intro X hX; go_simp; try with_reducible rfl)
          refine RegionI.wpAnyI_take (i := 23) (v := ?_) rfl (by kernel_rfl) (by kernel_rfl) (by kernel_rfl) (by kernel_rfl) (by kernel_rfl) (fun _ _ => rfl) (fun _ _ _ h => h) (by rfl) ?_ hS ?_
          rotate_left
          · (intro X hX; go_simp; try with_reducible rfl)
          refine RegionI.wpAnyI_take (i := 24) (v := ?_) rfl (by kernel_rfl) (by kernel_rfl) (by kernel_rfl) (by kernel_rfl) (by kernel_rfl) (fun _ _ => rfl) (fun _ _ _ h => h) (by rfl) ?_ hS ?_
          rotate_left
          · (intro X hX; go_simp; try with_reducible rfl)
          refine RegionI.wpAnyI_take (i := 25) (v := ?_) rfl (by kernel_rfl) (by kernel_rfl) (by kernel_rfl) (by kernel_rfl) (by kernel_rfl) (fun _ _ => rfl) (fun _ _ _ h => h) (by rfl) ?_ hS ?_
          rotate_left
          · (intro X hX; go_simp; try with_reducible rfl)
          clear hS
          refine RegionI.wpAnyI_one (i := 8) (by kernel_rfl) rfl (fun K hK => ?_)
          go_simp
          refine (val_any (1610612736 + h.ts * 1048576 + h.lb) _ (by omega) (by omega)).mono ?_
          rintro e V1 ⟨rfl, hB⟩
          replace HM := Aside0.mk (HM.out.below hB)
          have hS := HM.out.get 0 rfl
          clear hB
          refine hK _ _ ⟨fun _ => hS, ?_⟩
          clear hK K
          clear hS
          refine RegionI.wpAnyI_one (i := 13) (by kernel_rfl) rfl (fun K hK => ?_)
          go_simp
          refine (val_any ((h.dl.length : Int)) _ (by omega) (by omega)).mono ?_
          rintro e V2 ⟨rfl, hB⟩
          replace HM := Aside0.mk (HM.out.below hB)
          have hS := HM.out.get 0 rfl
          clear hB
          refine hK _ _ ⟨fun _ => hS, ?_⟩
          clear hK K
          clear hS
          refine RegionI.wpAnyI_one (i := 17) (by kernel_rfl) rfl (fun K hK => ?_)
          go_simp
          refine (val_any (h.p) _ (by omega) (by omega)).mono ?_
          rintro e V3 ⟨rfl, hB⟩
          replace HM := Aside0.mk (HM.out.below hB)
          have hS := HM.out.get 0 rfl
          clear hB
          refine hK _ _ ⟨fun _ => hS, ?_⟩
          clear hK K
          clear hS
          refine RegionI.wpAnyI_one (i := 21) (by kernel_rfl) rfl (fun K hK => ?_)
          go_simp
          refine (val_any (h.tt) _ (by omega) (by omega)).mono ?_
          rintro e V4 ⟨rfl, hB⟩
          replace HM := Aside0.mk (HM.out.below hB)
          have hS := HM.out.get 0 rfl
          clear hB
          refine hK _ _ ⟨fun _ => hS, ?_⟩
          clear hK K
          clear hS
          refine RegionI.wpAnyI_two (i := 26) (k := 27) (by kernel_rfl) rfl rfl (fun K hK => ?_) (fun K hK => ?_)
          · go_simp
            have hx := blk_new V4 (.cells (v6C h sb.length db.length sA dA sc dc) 53)
            replace HM := Aside0.mk (HM.out.alloc (.cells (v6C h sb.length db.length sA dA sc dc) 53))
            have hS := HM.out.get 0 rfl
            refine hK _ (V4.alloc (.cells (v6C h sb.length db.length sA dA sc dc) 53)) ⟨fun _ => hS, ?_⟩
            clear hK K hS
            refine RegionI.wpAnyI_one (i := 27) (by kernel_rfl) rfl (fun K hK => ?_)
            go_simp
            refine (six_any _).mono ?_
            rintro e V5 ⟨y, rfl, hy, hB⟩
            replace hx := blk_below hx hB
            generalize V4.heap.size = x at *
            replace HM := Aside0.mk (HM.out.below hB)
            have hS := HM.out.get 0 rfl
            clear hB
            refine hK _ _ ⟨fun _ => hS, ?_⟩
            clear hK K
            clear hS
            refine RegionI.wpAnyI_one (i := 28) (by kernel_rfl) rfl (fun K hK => ?_)
            go_simp
            have HLY := lay6_any H.out R.out hv.out hdl.out _ ets.out etd.out (HM.out.get 1 rfl) hsc.out (HM.out.get 2 rfl) hdc.out hx hy
            have hsz := HM.out.b.size
            refine HLY.mono ?_
            rintro e V7 ⟨v, rfl, hO, hB⟩
            have HRB : Aside0 (RB V5 V7 v (pre6 h)) := ⟨⟨hO, hB⟩⟩
            have HML := HM
            replace HM := Aside0.mk (HM.out.below hB)
            have hS := HM.out.get 0 rfl
            obtain ⟨bA, bc, rfl, -, -⟩ := HRB.out.o.reads HRB.out.o.len63
            clear HLY hsz hO hB hx hy
            refine hK _ _ ⟨fun _ => hS, ?_⟩
            clear hK K
            rw [pre6_len2 H.out] at HRB ⊢
            refine RegionI.wpAnyI_take (i := 29) (v := ?_) rfl (by kernel_rfl) (by kernel_rfl) (by kernel_rfl) (by kernel_rfl) (by kernel_rfl) (fun _ _ => rfl) (fun _ _ _ h => h) (by rfl) ?_ hS ?_
            rotate_left
            · (intro X hX; go_simp; try with_reducible rfl)
            refine RegionI.wpAnyI_take (i := 30) (v := ?_) rfl (by kernel_rfl) (by kernel_rfl) (by kernel_rfl) (by kernel_rfl) (by kernel_rfl) (fun _ _ => rfl) (fun _ _ _ h => h) (by rfl) ?_ hS ?_
            rotate_left
            · (intro X hX; go_simp; try with_reducible rfl)
            refine RegionI.wpAnyI_take (i := 31) (v := ?_) rfl (by kernel_rfl) (by kernel_rfl) (by kernel_rfl) (by kernel_rfl) (by kernel_rfl) (fun _ _ => rfl) (fun _ _ _ h => h) (by rfl) ?_ hS ?_
            rotate_left
            · (intro X hX; go_simp; try with_reducible rfl)
            refine RegionI.wpAnyI_take (i := 32) (v := ?_) rfl (by kernel_rfl) (by kernel_rfl) (by kernel_rfl) (by kernel_rfl) (by kernel_rfl) (fun _ _ => rfl) (fun _ _ _ h => h) (by rfl) ?_ hS ?_
            rotate_left
            · (intro X hX; go_simp; try with_reducible rfl)
            refine RegionI.wpAnyI_take (i := 33) (v := ?_) rfl (by kernel_rfl) (by kernel_rfl) (by kernel_rfl) (by kernel_rfl) (by kernel_rfl) (fun _ _ => rfl) (fun _ _ _ h => h) (by rfl) ?_ hS ?_
            rotate_left
            · (intro X hX; go_simp; try with_reducible rfl)
            refine RegionI.wpAnyI_done (by kernel_rfl) ?_ _
            clear hS
            go_wp2_with fail
            go_meet
            exact ⟨_, _, _, rfl, rfl, ⟨HRB.out, HML.out⟩⟩
          · go_simp
            refine (six_any _).mono ?_
            rintro e V5 ⟨y, rfl, hy, hB⟩
            replace HM := Aside0.mk (HM.out.below hB)
            have hS := HM.out.get 0 rfl
            clear hB
            refine hK _ _ ⟨fun _ => hS, ?_⟩
            clear hK K
            clear hS
            refine RegionI.wpAnyI_one (i := 26) (by kernel_rfl) rfl (fun K hK => ?_)
            go_simp
            have hx := blk_new V5 (.cells (v6C h sb.length db.length sA dA sc dc) 53)
            replace HM := Aside0.mk (HM.out.alloc (.cells (v6C h sb.length db.length sA dA sc dc) 53))
            replace hy := blk_alloc hy (.cells (v6C h sb.length db.length sA dA sc dc) 53)
            have hS := HM.out.get 0 rfl
            refine hK _ (V5.alloc (.cells (v6C h sb.length db.length sA dA sc dc) 53)) ⟨fun _ => hS, ?_⟩
            clear hK K hS
            generalize V5.alloc (.cells (v6C h sb.length db.length sA dA sc dc) 53) = V6 at *
            generalize V5.heap.size = x at *
            refine RegionI.wpAnyI_one (i := 28) (by kernel_rfl) rfl (fun K hK => ?_)
            go_simp
            have HLY := lay6_any H.out R.out hv.out hdl.out _ ets.out etd.out (HM.out.get 1 rfl) hsc.out (HM.out.get 2 rfl) hdc.out hx hy
            have hsz := HM.out.b.size
            refine HLY.mono ?_
            rintro e V7 ⟨v, rfl, hO, hB⟩
            have HRB : Aside0 (RB V6 V7 v (pre6 h)) := ⟨⟨hO, hB⟩⟩
            have HML := HM
            replace HM := Aside0.mk (HM.out.below hB)
            have hS := HM.out.get 0 rfl
            obtain ⟨bA, bc, rfl, -, -⟩ := HRB.out.o.reads HRB.out.o.len63
            clear HLY hsz hO hB hx hy
            refine hK _ _ ⟨fun _ => hS, ?_⟩
            clear hK K
            rw [pre6_len2 H.out] at HRB ⊢
            refine RegionI.wpAnyI_take (i := 29) (v := ?_) rfl (by kernel_rfl) (by kernel_rfl) (by kernel_rfl) (by kernel_rfl) (by kernel_rfl) (fun _ _ => rfl) (fun _ _ _ h => h) (by rfl) ?_ hS ?_
            rotate_left
            · (intro X hX; go_simp; try with_reducible rfl)
            refine RegionI.wpAnyI_take (i := 30) (v := ?_) rfl (by kernel_rfl) (by kernel_rfl) (by kernel_rfl) (by kernel_rfl) (by kernel_rfl) (fun _ _ => rfl) (fun _ _ _ h => h) (by rfl) ?_ hS ?_
            rotate_left
            · (intro X hX; go_simp; try with_reducible rfl)
            refine RegionI.wpAnyI_take (i := 31) (v := ?_) rfl (by kernel_rfl) (by kernel_rfl) (by kernel_rfl) (by kernel_rfl) (by kernel_rfl) (fun _ _ => rfl) (fun _ _ _ h => h) (by rfl) ?_ hS ?_
            rotate_left
            · (intro X hX; go_simp; try with_reducible rfl)
            refine RegionI.wpAnyI_take (i := 32) (v := ?_) rfl (by kernel_rfl) (by kernel_rfl) (by kernel_rfl) (by kernel_rfl) (by kernel_rfl) (fun _ _ => rfl) (fun _ _ _ h => h) (by rfl) ?_ hS ?_
            rotate_left
            · (intro X hX; go_simp; try with_reducible rfl)
            refine RegionI.wpAnyI_take (i := 33) (v := ?_) rfl (by kernel_rfl) (by kernel_rfl) (by kernel_rfl) (by kernel_rfl) (by kernel_rfl) (fun _ _ => rfl) (fun _ _ _ h => h) (by rfl) ?_ hS ?_
            rotate_left
            · (intro X hX; go_simp; try with_reducible rfl)
            refine RegionI.wpAnyI_done (by kernel_rfl) ?_ _
            clear hS
            go_wp2_with fail
            go_meet
            exact ⟨_, _, _, rfl, rfl, ⟨HRB.out, HML.out⟩⟩
        obtain ⟨Vl, bA, bc, rfl, rfl, hRM⟩ := hcut
        have HRB := Aside0.mk hRM.out.1
        have HML := Aside0.mk hRM.out.2
        have HM := Aside0.mk (HML.out.below HRB.out.l)
        obtain ⟨v9, W9, hrun, hRB9⟩ := HRB.out.app (c := q.dc) (HRD.out.below HM.out.b).d (by rw [pre6_len2 H.out]; have := H.out.dn; omega)
        have HRUN := Aside0.mk hrun
        have c42 := hc42 H.out (HM.out.get 0 rfl)
        have HF : Aside0 (PutR h w (.returned (.tuple #[v9, .int .i64 0])) W9) := ⟨⟨_, by rw [HE2.out.1], by rw [HE2.out.2]; exact hRB9.o.lower HML.out.b.size, below_step HML.out.b hRB9.l⟩⟩
        clear hrun hRB9 hsh hor1 hor2 hRM
        go_wp2_with ((with_reducible refine gate_dst (N := 76) rfl ?_); refine Kd.event_run rfl (exec_append rfl rfl rfl HRUN.out) ?_)
        go_ret2
        exact HF.out
      | false =>
        have hv := Aside0.mk hvv
        obtain ⟨hlb, hid, hol, hol4⟩ := R.out.v4 hvv
        obtain ⟨hh, -, -⟩ := hdN4 R.out hvv
        rw [hvv] at c0 HE2
        have ets : Aside0 (h.s.b.take 4 = sb) := ⟨by rw [← hsb.out, hvv]; rfl⟩
        have etd : Aside0 (h.d.b.take 4 = db) := ⟨by rw [← hdb.out, hvv]; rfl⟩
        clear hvv hsb hdb
        have HH := Aside0.mk hh
        have HOL := Aside0.mk hol
        have hN5 : 20 ≤ hdN h := by omega
        clear hh
        have hdf : 0 ≤ dfN h.df ∧ dfN h.df < 65536 := by cases h.df <;> decide
        have c39 := hc39 H.out (HM.out.get 0 rfl)
        obtain ⟨dfv, hdfv⟩ : ∃ dfv, dfN h.df = dfv := ⟨_, rfl⟩
        have HDFV := Aside0.mk hdfv
        rw [hdfv] at hdf
        obtain ⟨dff, hdff⟩ : ∃ dff, h.df = dff := ⟨_, rfl⟩
        rw [hdff] at c39 hdfv
        clear hdff
        go_upto_if 79 with fail
        go_cut [11] from 78 to 79 (fun s11 wx => X2 = wx ∧ s11 = .int .i64 dfv)
        case first =>
          cases dff
          · obtain rfl := hdfv
            go_wp2_with fail
            go_meet
            exact ⟨rfl, rfl⟩
          · obtain rfl := hdfv
            go_wp2_with fail
            go_meet
            exact ⟨rfl, rfl⟩
        obtain ⟨rfl, rfl⟩ := hcut
        have htd : ((hdN h : Nat) : Int).tdiv 4 = ((hdN h : Nat) : Int) / 4 := Int.tdiv_eq_ediv_of_nonneg (by omega)
        have hor1 : Go.bits .or .i64 64 (((hdN h : Nat) : Int) / 4) = 64 + ((hdN h : Nat) : Int) / 4 := or_i64 4 (by omega) (by decide) (by omega) (by omega) (by omega) (by omega)
        have hwt : IntKind.i64.wrap (((hdN h : Nat) : Int) + ((h.dl.length : Nat) : Int)) = ((hdN h : Nat) : Int) + ((h.dl.length : Nat) : Int) := wrap64_in (by omega)
        have hwq : IntKind.i64.wrap (((hdN h : Nat) : Int) / 4) = ((hdN h : Nat) : Int) / 4 := wrap64_in (by omega)
        go_upto_region 14 with fail
        clear c0 c39 hdfv
        go_cut [12, 13] from 80 to 124 (fun s12 s13 wx => ∃ (Vl : World) (A : Option Addr) (c : Nat), s12 = .slice A 20 c ∧ s13 = .int .i64 0 ∧ Aside0 (RB Vl wx (.slice A 20 c) (hd4 h) ∧ (Mem w [Blk w.heap.size (.cells (flat (hseg h q)) 28 (0, 0)), Rd sA sb, Rd dA db] Vl)))
        case first =>
          try simp only [List.append_eq, List.cons_append, List.nil_append]
          replace HM := Aside0.mk HM.out.drew
          refine RegionI.region_I (S := BH 28 w.heap.size h q) (D := fun _ => false) (by kernel_rfl) (HM.out.get 0 rfl) ?_
          intro hS
          generalize X2.drew = V at *
          refine RegionI.wpAnyI_take (i := 0) (v := ?_) rfl (by kernel_rfl) (by kernel_rfl) (by kernel_rfl) (by kernel_rfl) (by kernel_rfl) (fun _ _ => rfl) (fun _ _ _ h => h) (by rfl) ?_ hS ?_
          rotate_left
          · (intro X hX; go_simp; try with_reducible rfl)
          refine RegionI.wpAnyI_take (i := 1) (v := _) rfl (by kernel_rfl) (by kernel_rfl) (by kernel_rfl) (by kernel_rfl) (by kernel_rfl) (fun _ _ => rfl) (fun _ _ _ h => h) (by rfl) (fun w hw => exec_load rfl (by go_simp) (load_h H.out hw)) hS ?_
          refine RegionI.wpAnyI_take (i := 6) (v := ?_) rfl (by kernel_rfl) (by kernel_rfl) (by kernel_rfl) (by kernel_rfl) (by kernel_rfl) (fun _ _ => rfl) (fun _ _ _ h => h) (by rfl) ?_ hS ?_
          rotate_left
          · (intro X hX; go_simp; try with_reducible rfl)
          refine RegionI.wpAnyI_take (i := 7) (v := ?_) rfl (by kernel_rfl) (by kernel_rfl) (by kernel_rfl) (by kernel_rfl) (by kernel_rfl) (fun _ _ => rfl) (fun _ _ _ h => h) (by rfl) ?_ hS ?_
          rotate_left
          · (intro X hX; go_simp; try with_reducible rfl)
          refine RegionI.wpAnyI_take (i := 8) (v := _) rfl (by kernel_rfl) (by kernel_rfl) (by kernel_rfl) (by kernel_rfl) (by kernel_rfl) (fun _ _ => rfl) (fun _ _ _ h => h) (by rfl) (fun w hw => exec_load rfl (by go_simp) (Cur.load_one (hc37 H.out hw) Try.underlying3 rfl)) hS ?_
          refine RegionI.wpAnyI_take (i := 10) (v := ?_) rfl (by kernel_rfl) (by kernel_rfl) (by kernel_rfl) (by kernel_rfl) (by kernel_rfl) (fun _ _ => rfl) (fun _ _ _ h => h) (by rfl) ?_ hS ?_
          rotate_left
          · (intro X hX; go_simp; try with_reducible rfl)
          refine RegionI.wpAnyI_take (i := 11) (v := _) rfl (by kernel_rfl) (by kernel_rfl) (by kernel_rfl) (by kernel_rfl) (by kernel_rfl) (fun _ _ => rfl) (fun _ _ _ h => h) (by rfl) (fun w hw => exec_load rfl (by go_simp) (load_h H.out hw)) hS ?_
          refine RegionI.wpAnyI_take (i := 13) (v := ?_) rfl (by kernel_rfl) (by kernel_rfl) (by kernel_rfl) (by kernel_rfl) (by kernel_rfl) (fun _ _ => rfl) (fun _ _ _ h => h) (by rfl) ?_ hS ?_
          rotate_left
          · (intro X hX; go_simp; try with_reducible rfl)
          refine RegionI.wpAnyI_take (i := 14) (v := _) rfl (by kernel_rfl) (by kernel_rfl) (by kernel_rfl) (by kernel_rfl) (by kernel_rfl) (fun _ _ => rfl) (fun _ _ _ h => h) (by rfl) (fun w hw => exec_load rfl (by go_simp) (Cur.load_one (hc42 H.out hw) Try.underlying25 rfl)) hS ?_
          refine RegionI.wpAnyI_take (i := 15) (v := ?_) rfl (by kernel_rfl) (by kernel_rfl) (by kernel_rfl) (by kernel_rfl) (by kernel_rfl) (fun _ _ => rfl) (fun _ _ _ h => h) (by rfl) ?_ hS ?_
          rotate_left
          · (intro X hX; go_simp; try with_reducible rfl)
          refine RegionI.wpAnyI_take (i := 18) (v := ?_) rfl (by kernel_rfl) (by kernel_rfl) (by kernel_rfl) (by kernel_rfl) (by kernel_rfl) (fun _ _ => rfl) (fun _ _ _ h => h) (by rfl) ?_ hS ?_
          rotate_left
          · (intro X hX; go_simp; try with_reducible rfl)
          refine RegionI.wpAnyI_take (i := 19) (v := ?_) rfl (by kernel_rfl) (by kernel_rfl) (by kernel_rfl) (by kernel_rfl) (by kernel_rfl) (fun _ _ => rfl) (fun _ _ _ h => h) (by rfl) ?_ hS ?_
          rotate_left
          · (intro X hX; go_simp; try with_reducible rfl)
          refine RegionI.wpAnyI_take (i := 20) (v := _) rfl (by kernel_rfl) (by kernel_rfl) (by kernel_rfl) (by kernel_rfl) (by kernel_rfl) (fun _ _ => rfl) (fun _ _ _ h => h) (by rfl) (fun w hw => exec_load rfl (by go_simp) (Cur.load_one (hc38 H.out hw) Try.underlying3 rfl)) hS ?_
          refine RegionI.wpAnyI_take (i := 22) (v := ?_) rfl (by kernel_rfl) (by kernel_rfl) (by kernel_rfl) (by kernel_rfl) (by kernel_rfl) (fun _ _ => rfl) (fun _ _ _ h => h) (by rfl) ?_ hS ?_
          rotate_left
          · (intro X hX; go_simp; try with_reducible rfl)
          refine RegionI.wpAnyI_take (i := 23) (v := ?_) rfl (by kernel_rfl) (by kernel_rfl) (by kernel_rfl) (by kernel_rfl) (by kernel_rfl) (fun _ _ => rfl) (fun _ _ _ h => h) (by rfl) ?_ hS ?_
          rotate_left
          · (intro X hX; go_simp; try with_reducible rfl)
          refine RegionI.wpAnyI_take (i := 25) (v := ?_) rfl (by kernel_rfl) (by kernel_rfl) (by kernel_rfl) (by kernel_rfl) (by kernel_rfl) (fun _ _ => rfl) (fun _ _ _ h => h) (by rfl) ?_ hS ?_
          rotate_left
          · (intro X hX; go_simp; try with_reducible rfl)
          refine RegionI.wpAnyI_take (i := 26) (v := ?_) rfl (by kernel_rfl) (by kernel_rfl) (by kernel_rfl) (by kernel_rfl) (by kernel_rfl) (fun _ _ => rfl) (fun _ _ _ h => h) (by rfl) ?_ hS ?_
          rotate_left
          · (intro X hX; go_simp; try with_reducible rfl)
          refine RegionI.wpAnyI_take (i := 27) (v := _) rfl (by kernel_rfl) (by kernel_rfl) (by kernel_rfl) (by kernel_rfl) (by kernel_rfl) (fun _ _ => rfl) (fun _ _ _ h => h) (by rfl) (fun w hw => exec_load rfl (by go_simp) (Cur.load_one (hc36 H.out hw) Try.underlying3 rfl)) hS ?_
          refine RegionI.wpAnyI_take (i := 29) (v := ?_) rfl (by kernel_rfl) (by kernel_rfl) (by kernel_rfl) (by kernel_rfl) (by kernel_rfl) (fun _ _ => rfl) (fun _ _ _ h => h) (by rfl) ?_ hS ?_
          rotate_left
          · (intro X hX; go_simp; try with_reducible rfl)
          refine RegionI.wpAnyI_take (i := 30) (v := ?_) rfl (by kernel_rfl) (by kernel_rfl) (by kernel_rfl) (by kernel_rfl) (by kernel_rfl) (fun _ _ => rfl) (fun _ _ _ h => h) (by rfl) ?_ hS ?_
          rotate_left
          · (intro X hX; go_simp; try with_reducible rfl)
          refine RegionI.wpAnyI_take (i := 31) (v := _) rfl (by kernel_rfl) (by kernel_rfl) (by kernel_rfl) (by kernel_rfl) (by kernel_rfl) (fun _ _ => rfl) (fun _ _ _ h => h) (by rfl) (fun w hw => exec_load rfl (by go_simp) (Cur.load_one (hc35 H.out hw) Try.underlying3 rfl)) hS ?_
          refine RegionI.wpAnyI_take (i := 33) (v := ?_) rfl (by kernel_rfl) (by kernel_rfl) (by kernel_rfl) (by kernel_rfl) (by kernel_rfl) (fun _ _ => rfl) (fun _ _ _ h => h) (by rfl) ?_ hS ?_
          rotate_left
          · (intro X hX; go_simp; try with_reducible rfl)
          refine RegionI.wpAnyI_take (i := 35) (v := ?_) rfl (by kernel_rfl) (by kernel_rfl) (by kernel_rfl) (by kernel_rfl) (by kernel_rfl) (fun _ _ => rfl) (fun _ _ _ h => h) (by rfl) ?_ hS ?_
          rotate_left
          · (intro X hX; go_simp; try with_reducible rfl)
          refine RegionI.wpAnyI_take (i := 36) (v := ?_) rfl (by kernel_rfl) (by kernel_rfl) (by kernel_rfl) (by kernel_rfl) (by kernel_rfl) (fun _ _ => rfl) (fun _ _ _ h => h) (by rfl) ?_ hS ?_
          rotate_left
          · (intro X hX; go_simp; try with_reducible rfl)
          refine RegionI.wpAnyI_take (i := 37) (v := ?_) rfl (by kernel_rfl) (by kernel_rfl) (by kernel_rfl) (by kernel_rfl) (by kernel_rfl) (fun _ _ => rfl) (fun _ _ _ h => h) (by rfl) ?_ hS ?_
          rotate_left
          · (intro X hX; go_simp; try with_reducible rfl)
          refine RegionI.wpAnyI_take (i := 38) (v := ?_) rfl (by kernel_rfl) (by kernel_rfl) (by kernel_rfl) (by kernel_rfl) (by kernel_rfl) (fun _ _ => rfl) (fun _ _ _ h => h) (by rfl) ?_ hS ?_
          rotate_left
          · (intro X hX; go_simp; try with_reducible rfl)
          clear hS
          refine RegionI.wpAnyI_one (i := 2) (by kernel_rfl) rfl (fun K hK => ?_)
          go_simp
          refine (HSZ.out _).mono ?_
          rintro e V1 ⟨rfl, hB⟩
          replace HM := Aside0.mk (HM.out.below hB)
          have hS := HM.out.get 0 rfl
          clear hB
          refine hK _ _ ⟨fun _ => hS, ?_⟩
          clear hK K
          refine RegionI.wpAnyI_take (i := 3) (v := ?_) rfl (by kernel_rfl) (by kernel_rfl) (by kernel_rfl) (by kernel_rfl) (by kernel_rfl) (fun _ _ => rfl) (fun _ _ _ h => h) (by rfl) ?_ hS ?_
          rotate_left
          · (intro X hX; go_simp; try with_reducible rfl)
          refine RegionI.wpAnyI_take (i := 4) (v := ?_) rfl (by kernel_rfl) (by kernel_rfl) (by kernel_rfl) (by kernel_rfl) (by kernel_rfl) (fun _ _ => rfl) (fun _ _ _ h => h) (by rfl) ?_ hS ?_
          rotate_left
          · (intro X hX; go_simp; try with_reducible rfl)
          clear hS
          refine RegionI.wpAnyI_one (i := 5) (by kernel_rfl) rfl (fun K hK => ?_)
          go_simp
          refine (val_any (64 + ((hdN h : Nat) : Int) / 4) _ (by omega) (by omega)).mono ?_
          rintro e V2 ⟨rfl, hB⟩
          replace HM := Aside0.mk (HM.out.below hB)
          have hS := HM.out.get 0 rfl
          clear hB
          refine hK _ _ ⟨fun _ => hS, ?_⟩
          clear hK K
          clear hS
          refine RegionI.wpAnyI_one (i := 9) (by kernel_rfl) rfl (fun K hK => ?_)
          go_simp
          refine (val_any (h.ts) _ (by omega) (by omega)).mono ?_
          rintro e V1 ⟨rfl, hB⟩
          replace HM := Aside0.mk (HM.out.below hB)
          have hS := HM.out.get 0 rfl
          clear hB
          refine hK _ _ ⟨fun _ => hS, ?_⟩
          clear hK K
          clear hS
          refine RegionI.wpAnyI_one (i := 12) (by kernel_rfl) rfl (fun K hK => ?_)
          go_simp
          refine (HSZ.out _).mono ?_
          rintro e V2 ⟨rfl, hB⟩
          replace HM := Aside0.mk (HM.out.below hB)
          have hS := HM.out.get 0 rfl
          clear hB
          refine hK _ _ ⟨fun _ => hS, ?_⟩
          clear hK K
          refine RegionI.wpAnyI_take (i := 16) (v := ?_) rfl (by kernel_rfl) (by kernel_rfl) (by kernel_rfl) (by kernel_rfl) (by kernel_rfl) (fun _ _ => rfl) (fun _ _ _ h => h) (by rfl) ?_ hS ?_
          rotate_left
          · (intro X hX; go_simp; try with_reducible rfl)
          clear hS
          refine RegionI.wpAnyI_one (i := 17) (by kernel_rfl) rfl (fun K hK => ?_)
          go_simp
          refine (val_any (((hdN h : Nat) : Int) + ((h.dl.length : Nat) : Int)) _ (by omega) (by omega)).mono ?_
          rintro e V1 ⟨rfl, hB⟩
          replace HM := Aside0.mk (HM.out.below hB)
          have hS := HM.out.get 0 rfl
          clear hB
          refine hK _ _ ⟨fun _ => hS, ?_⟩
          clear hK K
          clear hS
          refine RegionI.wpAnyI_one (i := 21) (by kernel_rfl) rfl (fun K hK => ?_)
          go_simp
          refine (val_any (h.id) _ (by omega) (by omega)).mono ?_
          rintro e V2 ⟨rfl, hB⟩
          replace HM := Aside0.mk (HM.out.below hB)
          have hS := HM.out.get 0 rfl
          clear hB
          refine hK _ _ ⟨fun _ => hS, ?_⟩
          clear hK K
          clear hS
          refine RegionI.wpAnyI_one (i := 24) (by kernel_rfl) rfl (fun K hK => ?_)
          go_simp
          refine (val_any (dfv) _ (by omega) (by omega)).mono ?_
          rintro e V1 ⟨rfl, hB⟩
          replace HM := Aside0.mk (HM.out.below hB)
          have hS := HM.out.get 0 rfl
          clear hB
          refine hK _ _ ⟨fun _ => hS, ?_⟩
          clear hK K
          clear hS
          refine RegionI.wpAnyI_one (i := 28) (by kernel_rfl) rfl (fun K hK => ?_)
          go_simp
          refine (val_any (h.tt) _ (by omega) (by omega)).mono ?_
          rintro e V2 ⟨rfl, hB⟩
          replace HM := Aside0.mk (HM.out.below hB)
          have hS := HM.out.get 0 rfl
          clear hB
          refine hK _ _ ⟨fun _ => hS, ?_⟩
          clear hK K
          clear hS
          refine RegionI.wpAnyI_one (i := 32) (by kernel_rfl) rfl (fun K hK => ?_)
          go_simp
          refine (val_any (h.p) _ (by omega) (by omega)).mono ?_
          rintro e V3 ⟨rfl, hB⟩
          replace HM := Aside0.mk (HM.out.below hB)
          have hS := HM.out.get 0 rfl
          clear hB
          refine hK _ _ ⟨fun _ => hS, ?_⟩
          clear hK K
          clear hS
          refine RegionI.wpAnyI_one (i := 34) (by kernel_rfl) rfl (fun K hK => ?_)
          go_simp
          refine (val_any (0) _ (by omega) (by omega)).mono ?_
          rintro e V4 ⟨rfl, hB⟩
          replace HM := Aside0.mk (HM.out.below hB)
          have hS := HM.out.get 0 rfl
          clear hB
          refine hK _ _ ⟨fun _ => hS, ?_⟩
          clear hK K
          clear hS
          obtain rfl := HDFV.out
          refine RegionI.wpAnyI_two (i := 39) (k := 40) (by kernel_rfl) rfl rfl (fun K hK => ?_) (fun K hK => ?_)
          · go_simp
            have hx := blk_new V4 (.cells (v4C h sb.length db.length sA dA sc dc) 53)
            replace HM := Aside0.mk (HM.out.alloc (.cells (v4C h sb.length db.length sA dA sc dc) 53))
            have hS := HM.out.get 0 rfl
            refine hK _ (V4.alloc (.cells (v4C h sb.length db.length sA dA sc dc) 53)) ⟨fun _ => hS, ?_⟩
            clear hK K hS
            refine RegionI.wpAnyI_one (i := 40) (by kernel_rfl) rfl (fun K hK => ?_)
            go_simp
            refine (four_any _).mono ?_
            rintro e V5 ⟨y, rfl, hy, hB⟩
            replace hx := blk_below hx hB
            generalize V4.heap.size = x at *
            replace HM := Aside0.mk (HM.out.below hB)
            have hS := HM.out.get 0 rfl
            clear hB
            refine hK _ _ ⟨fun _ => hS, ?_⟩
            clear hK K
            clear hS
            refine RegionI.wpAnyI_one (i := 41) (by kernel_rfl) rfl (fun K hK => ?_)
            go_simp
            have HLY := lay4_any H.out R.out hv.out hdl.out _ ets.out etd.out (HM.out.get 1 rfl) hsc.out (HM.out.get 2 rfl) hdc.out hx hy
            have hsz := HM.out.b.size
            refine HLY.mono ?_
            rintro e V7 ⟨v, rfl, hO, hB⟩
            have HRB : Aside0 (RB V5 V7 v (hd4 h)) := ⟨⟨hO, hB⟩⟩
            have HML := HM
            replace HM := Aside0.mk (HM.out.below hB)
            have hS := HM.out.get 0 rfl
            obtain ⟨bA, bc, rfl, -, -⟩ := HRB.out.o.reads HRB.out.o.len63
            clear HLY hsz hO hB hx hy
            refine hK _ _ ⟨fun _ => hS, ?_⟩
            clear hK K
            rw [hd4_len2 H.out] at HRB ⊢
            refine RegionI.wpAnyI_take (i := 42) (v := ?_) rfl (by kernel_rfl) (by kernel_rfl) (by kernel_rfl) (by kernel_rfl) (by kernel_rfl) (fun _ _ => rfl) (fun _ _ _ h => h) (by rfl) ?_ hS ?_
            rotate_left
            · (intro X hX; go_simp; try with_reducible rfl)
            refine RegionI.wpAnyI_take (i := 43) (v := ?_) rfl (by kernel_rfl) (by kernel_rfl) (by kernel_rfl) (by kernel_rfl) (by kernel_rfl) (fun _ _ => rfl) (fun _ _ _ h => h) (by rfl) ?_ hS ?_
            rotate_left
            · (intro X hX; go_simp; try with_reducible rfl)
            refine RegionI.wpAnyI_take (i := 44) (v := ?_) rfl (by kernel_rfl) (by kernel_rfl) (by kernel_rfl) (by kernel_rfl) (by kernel_rfl) (fun _ _ => rfl) (fun _ _ _ h => h) (by rfl) ?_ hS ?_
            rotate_left
            · (intro X hX; go_simp; try with_reducible rfl)
            refine RegionI.wpAnyI_take (i := 45) (v := ?_) rfl (by kernel_rfl) (by kernel_rfl) (by kernel_rfl) (by kernel_rfl) (by kernel_rfl) (fun _ _ => rfl) (fun _ _ _ h => h) (by rfl) ?_ hS ?_
            rotate_left
            · (intro X hX; go_simp; try with_reducible rfl)
            refine RegionI.wpAnyI_take (i := 46) (v := ?_) rfl (by kernel_rfl) (by kernel_rfl) (by kernel_rfl) (by kernel_rfl) (by kernel_rfl) (fun _ _ => rfl) (fun _ _ _ h => h) (by rfl) ?_ hS ?_
            rotate_left
            · (intro X hX; go_simp; try with_reducible rfl)
            refine RegionI.wpAnyI_done (by kernel_rfl) ?_ _
            clear hS
            go_wp2_with fail
            go_meet
            exact ⟨_, _, _, rfl, rfl, ⟨HRB.out, HML.out⟩⟩
          · go_simp
            refine (four_any _).mono ?_
            rintro e V5 ⟨y, rfl, hy, hB⟩
            replace HM := Aside0.mk (HM.out.below hB)
            have hS := HM.out.get 0 rfl
            clear hB
            refine hK _ _ ⟨fun _ => hS, ?_⟩
            clear hK K
            clear hS
            refine RegionI.wpAnyI_one (i := 39) (by kernel_rfl) rfl (fun K hK => ?_)
            go_simp
            have hx := blk_new V5 (.cells (v4C h sb.length db.length sA dA sc dc) 53)
            replace HM := Aside0.mk (HM.out.alloc (.cells (v4C h sb.length db.length sA dA sc dc) 53))
            replace hy := blk_alloc hy (.cells (v4C h sb.length db.length sA dA sc dc) 53)
            have hS := HM.out.get 0 rfl
            refine hK _ (V5.alloc (.cells (v4C h sb.length db.length sA dA sc dc) 53)) ⟨fun _ => hS, ?_⟩
            clear hK K hS
            generalize V5.alloc (.cells (v4C h sb.length db.length sA dA sc dc) 53) = V6 at *
            generalize V5.heap.size = x at *
            refine RegionI.wpAnyI_one (i := 41) (by kernel_rfl) rfl (fun K hK => ?_)
            go_simp
            have HLY := lay4_any H.out R.out hv.out hdl.out _ ets.out etd.out (HM.out.get 1 rfl) hsc.out (HM.out.get 2 rfl) hdc.out hx hy
            have hsz := HM.out.b.size
            refine HLY.mono ?_
            rintro e V7 ⟨v, rfl, hO, hB⟩
            have HRB : Aside0 (RB V6 V7 v (hd4 h)) := ⟨⟨hO, hB⟩⟩
            have HML := HM
            replace HM := Aside0.mk (HM.out.below hB)
            have hS := HM.out.get 0 rfl
            obtain ⟨bA, bc, rfl, -, -⟩ := HRB.out.o.reads HRB.out.o.len63
            clear HLY hsz hO hB hx hy
            refine hK _ _ ⟨fun _ => hS, ?_⟩
            clear hK K
            rw [hd4_len2 H.out] at HRB ⊢
            refine RegionI.wpAnyI_take (i := 42) (v := ?_) rfl (by kernel_rfl) (by kernel_rfl) (by kernel_rfl) (by kernel_rfl) (by kernel_rfl) (fun _ _ => rfl) (fun _ _ _ h => h) (by rfl) ?_ hS ?_
            rotate_left
            · (intro X hX; go_simp; try with_reducible rfl)
            refine RegionI.wpAnyI_take (i := 43) (v := ?_) rfl (by kernel_rfl) (by kernel_rfl) (by kernel_rfl) (by kernel_rfl) (by kernel_rfl) (fun _ _ => rfl) (fun _ _ _ h => h) (by rfl) ?_ hS ?_
            rotate_left
            · (intro X hX; go_simp; try with_reducible rfl)
            refine RegionI.wpAnyI_take (i := 44) (v := ?_) rfl (by kernel_rfl) (by kernel_rfl) (by kernel_rfl) (by kernel_rfl) (by kernel_rfl) (fun _ _ => rfl) (fun _ _ _ h => h) (by rfl) ?_ hS ?_
            rotate_left
            · (intro X hX; go_simp; try with_reducible rfl)
            refine RegionI.wpAnyI_take (i := 45) (v := ?_) rfl (by kernel_rfl) (by kernel_rfl) (by kernel_rfl) (by kernel_rfl) (by kernel_rfl) (fun _ _ => rfl) (fun _ _ _ h => h) (by rfl) ?_ hS ?_
            rotate_left
            · (intro X hX; go_simp; try with_reducible rfl)
            refine RegionI.wpAnyI_take (i := 46) (v := ?_) rfl (by kernel_rfl) (by kernel_rfl) (by kernel_rfl) (by kernel_rfl) (by kernel_rfl) (fun _ _ => rfl) (fun _ _ _ h => h) (by rfl) ?_ hS ?_
            rotate_left
            · (intro X hX; go_simp; try with_reducible rfl)
            refine RegionI.wpAnyI_done (by kernel_rfl) ?_ _
            clear hS
            go_wp2_with fail
            go_meet
            exact ⟨_, _, _, rfl, rfl, ⟨HRB.out, HML.out⟩⟩
        obtain ⟨Vl, bA, bc, rfl, rfl, hRM⟩ := hcut
        have HRB := Aside0.mk hRM.out.1
        have HML := Aside0.mk hRM.out.2
        have HM := Aside0.mk (HML.out.below HRB.out.l)
        clear hRM
        obtain ⟨v8, W8, hrun, hRB8⟩ := HRB.out.app (c := q.oc) (HRD.out.below HM.out.b).o (by rw [hd4_len2 H.out]; have := H.out.on; omega)
        rw [hd4_ol] at hRB8
        have HRUN := Aside0.mk hrun
        have c41 := hc41 H.out (HM.out.get 0 rfl)
        have HPL2 : Aside0 ((pre4 h).length = 20 + h.ol.length) := ⟨by rw [← hd4_ol, List.length_append, hd4_len2 H.out]⟩
        obtain ⟨A8, c8, hv8, -, hC8⟩ := hRB8.o.reads hRB8.o.len63
        subst hv8
        have hby := pre4_bytes H.out R.out hv.out
        have HCK := Aside0.mk (check_any A8 c8 (pre4 h) W8 hC8 (by rw [HPL2.out]; have := HOL.out; omega) hby (by rw [HPL2.out]; omega))
        rw [zero2_pre4] at HCK
        have HRB8 := Aside0.mk hRB8
        have hsb := inet_bd hby
        clear hrun hRB8 hC8 hby htd hor1 hwt hwq
        go_wp2_with ((with_reducible refine gate_dst (N := 128) rfl ?_); refine Kd.event_run rfl (exec_append rfl rfl rfl HRUN.out) ?_)
        refine HCK.out.mono ?_
        rintro e W9 ⟨rfl, hB9⟩
        have hRB9 := HRB8.out.below hB9
        obtain ⟨g9, c9, hv9, hge9, d10, f10, d11, f11, hO10, hg10⟩ := Owns.set2 hRB9.o (k := 10) (by rw [HPL2.out]; omega) (InetS (pre4 h) / 256 % 256) (InetS (pre4 h) % 256)
        injection hv9 with e1 e2 e3
        subst e1 e3
        have hRBX := hRB9.step hO10 (by simpa [Value.ownBlock] using hg10)
        have hlen : (10 : Int) < ((pre4 h).length : Int) := by rw [HPL2.out]; omega
        have hlen2 : (11 : Int) < ((pre4 h).length : Int) := by rw [HPL2.out]; omega
        have hw1 : IntKind.u8.wrap (InetS (pre4 h) / 256) = InetS (pre4 h) / 256 % 256 := wrap_u8 _
        have hw2 : IntKind.u8.wrap (InetS (pre4 h)) = InetS (pre4 h) % 256 := wrap_u8 _
        have hML := (HML.out.below hRBX.l)
        have c42 := hc42 H.out (hML.get 0 rfl)
        obtain ⟨v11, W11, hrun, hRB11⟩ := hRBX.app (c := q.dc) (HRD.out.below hML.b).d (by simp; rw [HPL2.out]; have := H.out.dn; have := HOL.out; omega)
        have HRUN2 := Aside0.mk hrun
        have HF : Aside0 (PutR h w (.returned (.tuple #[v11, .int .i64 0])) W11) := ⟨⟨_, by rw [HE2.out.1], by rw [HE2.out.2]; exact hRB11.o.lower HML.out.b.size, below_step HML.out.b hRB11.l⟩⟩
        clear hRB9 hO10 hg10 hRBX hrun hRB11 hML hsb hB9 c41 hge9
        generalize (pre4 h).getD 10 0 = x10 at *
        generalize (pre4 h).getD (10 + 1) 0 = x11 at *
        generalize InetS (pre4 h) = nn at *
        generalize (pre4 h).length = pl at *
        go_wp2_with ((with_reducible refine gate_dst (N := 143) rfl ?_); refine Kd.event_run rfl (exec_append rfl rfl rfl HRUN2.out) ?_)
        go_ret2
        exact HF.out
end Go.Proofs.Ytjidoedlmpjmnaa.Hdr
