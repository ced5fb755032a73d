/- CursorCut. -/
import Derived.Test.YtcmibbhfocfccaaCurQ
import Derived.Test.YtcmibbhfocfccaaCurL6
import Derived.Test.YtcmibbhfocfccaaCurW12
namespace Go.Proofs.Ytcmibbhfocfccaa.Cur
open Go.RowKit Go.Proofs.Ytcmibbhfocfccaa.A Go.Proofs.Ytcmibbhfocfccaa.Segs Go.Proofs.Ytcmibbhfocfccaa.Own Go.Proofs.Ytcmibbhfocfccaa.CurP Go.Proofs.Ytcmibbhfocfccaa.Mem Go.Proofs.Ytcmibbhfocfccaa.Bits Go.Proofs.Ytcmibbhfocfccaa.Help Go.Proofs.YtcmibbhfocfccaaW.PrintWords Go.Proofs.YtcmibbhfocfccaaW.PrintLast Go.Proofs.YtcmibbhfocfccaaW.PrintMore
set_option linter.unusedVariables false
set_option linter.unusedSimpArgs false
set_option maxHeartbeats 2000000 in
theorem count_any (k n : Int) (w : World) (h1 : 1 ≤ n) (hn : n ≤ 1048576) (hk0 : -9223372036854775808 ≤ k) (hk1 : k ≤ 9223372036854775807) :
    Calls Try.prog 19 #[.int .i64 k, .int .i64 n] w fun e w' => ∃ r : Nat, e = .returned (.int .i64 (r : Int)) ∧ (r : Int) < n ∧ w = w' := by
  have hne : (n == 0) = false := by simp; omega
  have hb := Int.tmod_lt_of_pos k (show 0 < n by omega)
  have hb2 : -n < k.tmod n := by have := Int.lt_tmod_of_pos k (show 0 < n by omega); omega
  have HC : Aside0 (∃ m, k.tmod n = m ∧ m < n ∧ -n < m) := ⟨_, rfl, hb, hb2⟩
  clear hb hb2
  obtain ⟨m, hm, hm1, hm2⟩ := HC.out
  by_cases hs : m < 0
  · have HF : Aside0 (∃ r : Nat, m + n = (r : Int) ∧ (r : Int) < n) := ⟨(m + n).toNat, by omega, by omega⟩
    clear HC
    go_enter Try.func19, Try.ntmps19
    go_wp2_with fail
    go_ret
    obtain ⟨r, h3, h4⟩ := HF.out
    exact ⟨r, by rw [← h3]; rfl, h4, rfl⟩
  · have HF : Aside0 (∃ r : Nat, m = (r : Int) ∧ (r : Int) < n) := ⟨m.toNat, by omega, by omega⟩
    clear HC
    go_enter Try.func19, Try.ntmps19
    go_wp2_with fail
    go_ret
    obtain ⟨r, h3, h4⟩ := HF.out
    exact ⟨r, by rw [← h3]; rfl, h4, rfl⟩
theorem dPast13 (j : Nat) (hj : 13 ≤ j) : (fun _ : Nat => false) j = false := rfl
set_option maxHeartbeats 8000000 in
theorem cursorCut_any (A : Option Addr) (c : Nat) (vs : List (Int × List Int)) (A2 : Option Addr) (c2 : Nat) (l : List (Int × Int)) (cut : Int) (w : World)
    (hr : dV.C w A vs.length vs) (hc : vs.length ≤ c) (ho : dO.C w A2 l.length l) (hlc : l.length ≤ c2)
    (hvs : vs.length ≤ 1048576) (hvb : ∀ v ∈ vs, 0 ≤ v.1 ∧ v.1 ≤ 18446744073709551615 ∧ v.2.length ≤ 1048576 ∧ AllB v.2) (hsz : l.length ≤ 1048576) (hlb : ∀ o ∈ l, -9223372036854775808 ≤ o.2 ∧ o.2 ≤ 9223372036854775807)
    (hk0 : -9223372036854775808 ≤ cut) (hk1 : cut ≤ 9223372036854775807) :
    Calls Try.prog 5 #[.slice A vs.length c, .slice A2 l.length c2, .int .i64 cut] w fun e w' => e = .returned (.bool true) ∧ Below w.heap.size w w' := by
  have H := Aside0.mk (And.intro hvs (And.intro hvb (And.intro hsz hlb)))
  have HV := Aside0.mk (And.intro hr hc)
  have HO := Aside0.mk (And.intro ho hlc)
  have HCUT := Aside0.mk (And.intro hk0 hk1)
  have hll : (l.length : Int) ≤ 1048576 := by omega
  clear hvs hvb hsz hlb hr hc ho hlc hk0 hk1
  go_enter Try.func5, Try.ntmps5
  go_wp2_with fail
  refine (vals_any w A c vs HV.out.1 HV.out.2 (by have := H.out.1; omega) (fun v hv => by have := (H.out.2.1 v hv).2.2.1; omega)).mono ?_
  rintro e w1 ⟨v, rfl, hS, hB⟩
  obtain ⟨va, vc, rfl, hvc, hrd⟩ := Kd.S_reads hS
  have HB := Aside0.mk hB
  have HV1 := Aside0.mk (And.intro hrd hvc)
  clear hS hB hrd hvc
  go_wp2_with fail
  refine (ops_any _ A2 c2 l (Kd.C_below HO.out.1 HB.out) HO.out.2 (by have := H.out.2.2.1; omega)).mono ?_
  rintro e w2 ⟨vo, rfl, hS, hB⟩
  obtain ⟨oa, oc, rfl, hoc, hrd⟩ := Kd.S_reads hS
  replace HB := Aside0.mk (below_step HB.out hB)
  replace HV1 := Aside0.mk (And.intro (Kd.C_below HV1.out.1 hB) HV1.out.2)
  have HO1 := Aside0.mk (And.intro hrd hoc)
  clear hS hB hrd hoc
  go_wp2_with fail
  refine (Lay_any w2 va oa vc oc vs l HV1.out.1 HV1.out.2 HO1.out.1 HO1.out.2 H.out.2.2.2 (fun v hv => ⟨(H.out.2.1 v hv).1, (H.out.2.1 v hv).2.1⟩)).mono ?_
  rintro e w3 ⟨v, rfl, hO, hB⟩
  obtain ⟨ba, bc, rfl, hbc, hbr⟩ := hO.reads hO.len63
  replace HB := Aside0.mk (below_step HB.out hB)
  have HX := Aside0.mk (And.intro hbr hbc)
  have HXB := Aside0.mk (layA_bytes vs l (fun v hv => (H.out.2.1 v hv).2.2.2))
  have HXL := Aside0.mk (layA_len vs l)
  have HCT := Aside0.mk (fun h h4 => layA_cut (vs := vs) (os := l) h h4 (fun v hv => (H.out.2.1 v hv).1))
  have hbl : ((layA vs l).2.length : Int) ≤ 65535 := by have := HXL.out; omega
  have hbc2 : ((layA vs l).2.length : Int) ≤ (bc : Int) := by omega
  clear hO hB hbr hbc HV1 HO1
  generalize (layA vs l).1 = er at *
  generalize (layA vs l).2 = xs at *
  by_cases he : er = 0
  case neg =>
    have q : (er != 0) = true := by simpa using he
    clear he HCT
    go_wp2_with fail
    refine (known_any _).mono ?_
    rintro e w4 ⟨rfl, hB⟩
    replace HB := Aside0.mk (below_step HB.out hB)
    clear hB
    go_wp2_with fail
    go_ret
    exact ⟨rfl, HB.out⟩
  subst he
  go_wp2_with fail
  go_loop [9] (fun v9 => ∃ i : Nat, i ≤ l.length ∧ v9 = .int .i64 (i : Int) ∧ Aside0 (∀ o ∈ l.take i, o.1 ≠ 4)) (fun v9 => l.length - (intOf v9).toNat)
  case atStart => exact ⟨0, Nat.zero_le _, rfl, ⟨by simp⟩⟩
  case round =>
    obtain ⟨i, hi, rfl, H4⟩ := hrel
    by_cases hlt : i < l.length
    · have hi2 : ((i : Nat) : Int) < ((l.length : Nat) : Int) := by omega
      obtain ⟨ad, rfl, hc0, -⟩ := op_cells (Kd.C_below HO.out.1 HB.out) i hlt
      have HT : Aside0 (∀ o ∈ l.take (i + 1), o.1 ≠ 4 ∨ o = l[i]) := ⟨fun o ho => by
        rw [List.take_succ_eq_append_getElem hlt, List.mem_append] at ho
        rcases ho with ho | ho
        · exact .inl (H4.out o ho)
        · exact .inr (by simpa using ho)⟩
      by_cases h4i : l[i].1 = 4
      · rw [h4i] at hc0
        clear h4i HT H4
        go_wp2_with fail
        refine (known_any _).mono ?_
        rintro e w4 ⟨rfl, hB⟩
        replace HB := Aside0.mk (below_step HB.out hB)
        clear hB hc0
        go_wp2_with fail
        go_ret
        exact ⟨rfl, HB.out⟩
      · have HT2 : Aside0 (∀ o ∈ l.take (i + 1), o.1 ≠ 4) := ⟨fun o ho => (HT.out o ho).elim id (fun e => e ▸ h4i)⟩
        have q : (l[i].1 == 4) = false := by simpa using h4i
        clear h4i HT H4
        generalize l[i].1 = k at *
        go_wp2_with fail
        exact ⟨⟨i + 1, hlt, by first | rfl | go_num, HT2⟩, by simp [intOf]; omega⟩
    · obtain rfl : i = l.length := by omega
      have h4 := H4.out
      rw [List.take_length] at h4
      have HF := Aside0.mk (HCT.out trivial h4)
      clear H4 h4 hlt HCT
      by_cases hx0 : xs.length = 0
      · have hq : ((xs.length : Int) == 0) = true := by rw [hx0]; rfl
        clear hx0
        go_wp2_with fail
        refine (known_any _).mono ?_
        rintro e w4 ⟨rfl, hB⟩
        replace HB := Aside0.mk (below_step HB.out hB)
        clear hB
        go_wp2_with fail
        go_ret
        exact ⟨rfl, HB.out⟩
      · have hq : ((xs.length : Int) == 0) = false := by simp; intro h; exact hx0 (by rw [h]; rfl)
        have HC := Aside0.mk (fun w => count_any cut (xs.length : Int) w (by omega) (by omega) HCUT.out.1 HCUT.out.2)
        clear hx0
        go_wp2_with fail
        refine (HC.out _).mono ?_
        rintro e w4 ⟨r, rfl, hr, rfl⟩
        have hrc : (r : Int) ≤ (bc : Int) := by omega
        have hr65 : (r : Int) ≤ 65535 := by omega
        have HRC := Aside0.mk (HF.out r (by omega))
        have hlen : Aside0 ((xs.take r).length = r) := ⟨by rw [List.length_take]; omega⟩
        have hXR : Kd.C (Kd.int .u8) w3.drew ba (xs.take r).length (xs.take r) := by
          have h := C_cut HX.out.1 0 r (by omega)
          rw [List.drop_zero] at h
          rw [hlen.out]
          have h2 : ba.map (·.add 0) = ba := by
            cases ba with
            | none => rfl
            | some a => rw [Option.map_some]; congr 1
          rw [h2] at h
          exact Kd.C_drew h
        have HXR := Aside0.mk hXR
        have HRB : Aside0 (AllB (xs.take r)) := ⟨HXB.out.take r⟩
        have HBD := Aside0.mk (below_drew HB.out)
        clear HC HF hXR hr HB
        go_wp2_with fail
        refine RegionI.region_I (S := fun X => True ∧ True) (D := fun _ => false) (by kernel_rfl) ⟨trivial, trivial⟩ ?_
        intro hS
        generalize w3.drew = V at *
        refine RegionI.wpAnyI_take (i := 0) (v := ?_) rfl (by kernel_rfl) (by kernel_rfl) (by kernel_rfl) (by kernel_rfl) (by kernel_rfl) dPast13 (fun _ _ _ h => h) (by rfl) ?_ hS ?_
        rotate_left
        · (intro X hX; obtain ⟨hx0, hx1⟩ := hX; go_simp; try with_reducible rfl)
        refine RegionI.wpAnyI_take (i := 1) (v := ?_) rfl (by kernel_rfl) (by kernel_rfl) (by kernel_rfl) (by kernel_rfl) (by kernel_rfl) dPast13 (fun _ _ _ h => h) (by rfl) ?_ hS ?_
        rotate_left
        · (intro X hX; obtain ⟨hx0, hx1⟩ := hX; go_simp; try with_reducible rfl)
        refine RegionI.wpAnyI_take (i := 2) (v := ?_) rfl (by kernel_rfl) (by kernel_rfl) (by kernel_rfl) (by kernel_rfl) (by kernel_rfl) dPast13 (fun _ _ _ h => h) (by rfl) ?_ hS ?_
        rotate_left
        · (intro X hX; obtain ⟨hx0, hx1⟩ := hX; go_simp; try with_reducible rfl)
        refine RegionI.wpAnyI_take (i := 3) (v := ?_) rfl (by kernel_rfl) (by kernel_rfl) (by kernel_rfl) (by kernel_rfl) (by kernel_rfl) dPast13 (fun _ _ _ h => h) (by rfl) ?_ hS ?_
        rotate_left
        · (intro X hX; obtain ⟨hx0, hx1⟩ := hX; go_simp; try with_reducible rfl)
        refine RegionI.wpAnyI_one (i := 4) (by kernel_rfl) rfl (fun K hK => ?_)
        go_simp
        refine (ops_any V A2 c2 l (Kd.C_below HO.out.1 HBD.out) HO.out.2 (by have := H.out.2.2.1; omega)).mono ?_
        rintro e w5 ⟨vo, rfl, hS2, hB⟩
        obtain ⟨oa, oc, rfl, hoc, hrd⟩ := Kd.S_reads hS2
        refine hK _ _ ⟨fun _ => hS, ?_⟩
        clear hK K
        have HB5 := Aside0.mk (below_step HBD.out hB)
        have HX5 := Aside0.mk (Kd.C_below HXR.out hB)
        have HO5 := Aside0.mk (And.intro hrd hoc)
        clear hS2 hB hrd hoc
        refine RegionI.wpAnyI_one (i := 5) (by kernel_rfl) rfl (fun K hK => ?_)
        go_simp
        have hrun := Run_any w5 ba oa bc oc (xs.take r) l HX5.out (by rw [hlen.out]; omega) (by rw [hlen.out]; omega) HO5.out.1 HO5.out.2 H.out.2.2.2 HRB.out (by rw [hlen.out]; omega) (by have := H.out.2.2.1; omega)
        rw [hlen.out] at hrun
        refine hrun.mono ?_
        rintro e w6 ⟨v, rfl, hS2, hB⟩
        obtain ⟨vb, vd, rfl, -, -⟩ := Kd.S_reads hS2
        replace HB5 := Aside0.mk (below_step HB5.out hB)
        refine hK _ _ ⟨fun _ => hS, ?_⟩
        clear hK K hS2 hB hrun HX5 HO5
        rw [HRC.out.1]
        have hat := HRC.out.2
        generalize (runL (xs.take r) 0 l).2.1 = at_ at *
        generalize (runL (xs.take r) 0 l).1.length = nn at *
        refine RegionI.wpAnyI_one (i := 6) (by kernel_rfl) rfl (fun K hK => ?_)
        go_simp
        refine hK _ _ ⟨fun _ => hS, ?_⟩
        clear hK K
        refine RegionI.wpAnyI_take (i := 7) (v := ?_) rfl (by kernel_rfl) (by kernel_rfl) (by kernel_rfl) (by kernel_rfl) (by kernel_rfl) dPast13 (fun _ _ _ h => h) (by rfl) ?_ hS ?_
        rotate_left
        · (intro X hX; obtain ⟨hx0, hx1⟩ := hX; go_simp; try with_reducible rfl)
        refine RegionI.wpAnyI_take (i := 8) (v := ?_) rfl (by kernel_rfl) (by kernel_rfl) (by kernel_rfl) (by kernel_rfl) (by kernel_rfl) dPast13 (fun _ _ _ h => h) (by rfl) ?_ hS ?_
        rotate_left
        · (intro X hX; obtain ⟨hx0, hx1⟩ := hX; go_simp; try with_reducible rfl)
        refine RegionI.wpAnyI_take (i := 9) (v := ?_) rfl (by kernel_rfl) (by kernel_rfl) (by kernel_rfl) (by kernel_rfl) (by kernel_rfl) dPast13 (fun _ _ _ h => h) (by rfl) ?_ hS ?_
        rotate_left
        · (intro X hX; obtain ⟨hx0, hx1⟩ := hX; go_simp; try with_reducible rfl)
        refine RegionI.wpAnyI_take (i := 10) (v := ?_) rfl (by kernel_rfl) (by kernel_rfl) (by kernel_rfl) (by kernel_rfl) (by kernel_rfl) dPast13 (fun _ _ _ h => h) (by rfl) ?_ hS ?_
        rotate_left
        · (intro X hX; obtain ⟨hx0, hx1⟩ := hX; go_simp; try with_reducible rfl)
        refine RegionI.wpAnyI_take (i := 11) (v := ?_) rfl (by kernel_rfl) (by kernel_rfl) (by kernel_rfl) (by kernel_rfl) (by kernel_rfl) dPast13 (fun _ _ _ h => h) (by rfl) ?_ hS ?_
        rotate_left
        · (intro X hX; obtain ⟨hx0, hx1⟩ := hX; go_simp; try with_reducible rfl)
        refine RegionI.wpAnyI_take (i := 12) (v := ?_) rfl (by kernel_rfl) (by kernel_rfl) (by kernel_rfl) (by kernel_rfl) (by kernel_rfl) dPast13 (fun _ _ _ h => h) (by rfl) ?_ hS ?_
        rotate_left
        · (intro X hX; obtain ⟨hx0, hx1⟩ := hX; go_simp; try with_reducible rfl)
        refine RegionI.wpAnyI_done (by kernel_rfl) ?_ _
        have hat2 : (at_ : Int) ≤ (r : Int) := by omega
        clear HRC
        go_wp2_with fail
        refine (known_any _).mono ?_
        rintro e w7 ⟨rfl, hB⟩
        replace HB5 := Aside0.mk (below_step HB5.out hB)
        clear hB
        go_wp2_with fail
        go_ret
        exact ⟨rfl, HB5.out⟩
end Go.Proofs.Ytcmibbhfocfccaa.Cur
