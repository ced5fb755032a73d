/- CursorMore. -/
import Derived.Test.YtcmibbhfocfccaaCurW12
import Derived.Test.YtcmibbhfocfccaaCurM
namespace Go.Proofs.Ytcmibbhfocfccaa.Cur
open Go.RowKit Go.Proofs.Ytcmibbhfocfccaa.Segs Go.Proofs.Ytcmibbhfocfccaa.Own Go.Proofs.Ytcmibbhfocfccaa.CurP Go.Proofs.Ytcmibbhfocfccaa.Mem Go.Proofs.Ytcmibbhfocfccaa.Bits Go.Proofs.Ytcmibbhfocfccaa.Help Go.Proofs.YtcmibbhfocfccaaW.PrintWords Go.Proofs.YtcmibbhfocfccaaW.PrintLast Go.Proofs.YtcmibbhfocfccaaW.PrintMore
set_option linter.unusedVariables false
set_option linter.unusedSimpArgs false
theorem owns_cap {w : World} {b n c : Nat} {A : Option Addr} {xs : List Int} (h : Owns w b (.slice A n c) xs) : c ≤ 9223372036854775807 := by
  rcases h.2 with ⟨h1, _⟩ | ⟨g, cap, cur, h1, _, _, _, h2, _⟩
  · injection h1 with _ _ h3; omega
  · injection h1 with _ _ h3; simp only [maxLen] at h2; omega
set_option maxHeartbeats 8000000 in
theorem cursorMore_any (A : Option Addr) (c : Nat) (xs : List Int) (A1 : Option Addr) (c1 : Nat) (ys : List Int) (A2 : Option Addr) (c2 : Nat) (l : List (Int × Int)) (w : World)
    (hr : Kd.C (Kd.int .u8) w A xs.length xs) (hc : xs.length ≤ c) (hr1 : Kd.C (Kd.int .u8) w A1 ys.length ys) (hc1 : ys.length ≤ c1) (ho : dO.C w A2 l.length l) (hlc : l.length ≤ c2)
    (hx : AllB xs) (hy : AllB ys) (hb : xs.length + ys.length ≤ 1048576) (hsz : l.length ≤ 1048576) (hlb : ∀ o ∈ l, -9223372036854775808 ≤ o.2 ∧ o.2 ≤ 9223372036854775807) :
    Calls Try.prog 4 #[.slice A xs.length c, .slice A1 ys.length c1, .slice A2 l.length c2] w fun e w' => e = .returned (.bool true) ∧ Below w.heap.size w w' := by
  have H := Aside0.mk (And.intro hx (And.intro hy (And.intro hb (And.intro hsz hlb))))
  have HR := Aside0.mk (And.intro hr (And.intro hc (show xs.length ≤ 9223372036854775807 by omega)))
  have HR1 := Aside0.mk (And.intro hr1 hc1)
  have HO := Aside0.mk (And.intro ho hlc)
  have hxl : (xs.length : Int) ≤ 1048576 := by omega
  have hll : (l.length : Int) ≤ 1048576 := by omega
  clear hx hy hb hsz hlb hr hc hr1 hc1 ho hlc
  go_enter Try.func4, Try.ntmps4
  go_wp2_with fail
  refine (ops_any _ A2 c2 l HO.out.1 HO.out.2 (by have := H.out.2.2.2.1; omega)).mono ?_
  rintro e w1 ⟨vo, rfl, hS, hB⟩
  obtain ⟨va, vc, rfl, hvc, hrd⟩ := Kd.S_reads hS
  have HB := Aside0.mk hB
  have HRD := Aside0.mk (And.intro hrd hvc)
  clear hS hB hrd hvc
  go_wp2_with fail
  refine (Run_any w1 A va c vc xs l (Kd.C_below HR.out.1 HB.out) HR.out.2.1 HR.out.2.2 HRD.out.1 HRD.out.2 H.out.2.2.2.2 H.out.1 (by have := H.out.2.2.1; omega) (by have := H.out.2.2.2.1; omega)).mono ?_
  rintro e w2 ⟨v, rfl, hS, hB⟩
  obtain ⟨vb, vd, rfl, hvd, hrd⟩ := Kd.S_reads hS
  replace HB := Aside0.mk (below_step HB.out hB)
  have HV := Aside0.mk (And.intro hrd hvd)
  clear hS hB hrd hvd HRD
  have HLE := Aside0.mk (runL_le xs l 0 (Nat.zero_le _))
  have HLEN := Aside0.mk (runL_len xs l 0)
  have HM := Aside0.mk (fun h4 h10 => runL_more xs ys l 0 (Nat.zero_le _) h4 h10)
  generalize runL xs 0 l = R at *
  obtain ⟨vs, at_, er⟩ := R
  dsimp only at *
  go_wp2_with fail
  go_loop [10] (fun v10 => ∃ i : Nat, i ≤ l.length ∧ v10 = .int .i64 (i : Int) ∧ Aside0 (∀ o ∈ l.take i, o.1 ≠ 4)) (fun v10 => l.length - (intOf v10).toNat)
  case atStart => exact ⟨0, Nat.zero_le _, rfl, ⟨by simp⟩⟩
  case round =>
    obtain ⟨i, hi, rfl, H4⟩ := hrel
    by_cases hlt : i < l.length
    · have hi2 : ((i : Nat) : Int) < ((l.length : Nat) : Int) := by omega
      obtain ⟨ad, rfl, hc0, -⟩ := op_cells (Kd.C_below HO.out.1 HB.out) i hlt
      have HT : Aside0 (∀ o ∈ l.take (i + 1), o.1 ≠ 4 ∨ o = l[i]) := ⟨fun o ho => by
        rw [List.take_succ_eq_append_getElem hlt, List.mem_append] at ho
        rcases ho with ho | ho
        · exact .inl (H4.out o ho)
        · exact .inr (by simpa using ho)⟩
      by_cases h4i : l[i].1 = 4
      · rw [h4i] at hc0
        clear h4i HT H4
        go_wp2_with fail
        refine (known_any _).mono ?_
        rintro e w3 ⟨rfl, hB⟩
        replace HB := Aside0.mk (below_step HB.out hB)
        clear hB hc0
        go_wp2_with fail
        go_ret
        exact ⟨rfl, HB.out⟩
      · have HT2 : Aside0 (∀ o ∈ l.take (i + 1), o.1 ≠ 4) := ⟨fun o ho => (HT.out o ho).elim id (fun e => e ▸ h4i)⟩
        have q : (l[i].1 == 4) = false := by simpa using h4i
        clear h4i HT H4
        generalize l[i].1 = k at *
        go_wp2_with fail
        exact ⟨⟨i + 1, hlt, by first | rfl | go_num, HT2⟩, by simp [intOf]; omega⟩
    · obtain rfl : i = l.length := by omega
      have h4 := H4.out
      rw [List.take_length] at h4
      have HF := Aside0.mk h4
      clear H4 h4 hlt
      by_cases h10 : er = 10
      · subst h10
        have hle : (at_ : Int) ≤ ((xs.length : Nat) : Int) := by have := HLE.out; omega
        clear HM
        go_wp2_with fail
        refine (known_any _).mono ?_
        rintro e w3 ⟨rfl, hB⟩
        replace HB := Aside0.mk (below_step HB.out hB)
        clear hB
        go_wp2_with fail
        go_ret
        exact ⟨rfl, HB.out⟩
      · have q10 : (er == 10) = false := by simpa using h10
        have HM2 := Aside0.mk (HM.out HF.out h10)
        clear HM HF h10
        have hxr := Kd.C_below HR.out.1 HB.out
        obtain ⟨v1, w3, hrun1, hO1, hg1, -⟩ := append_bytes (ty := 22) (c := c) (Owns.nil w2 w2.heap.size) hxr (by have := H.out.2.2.1; simp; omega) (Nat.le_refl _)
        have hB3 := Owns.keeps (Below.refl _ _) (Owns.nil w2 w2.heap.size) hg1
        rw [List.nil_append] at hO1
        have hyr := Kd.C_below (Kd.C_below HR1.out.1 HB.out) hB3
        obtain ⟨v2, w4, hrun2, hO2, hg2, -⟩ := append_bytes (ty := 22) (c := c1) hO1 hyr (by have := H.out.2.2.1; omega) hB3.size
        have hB4 := Owns.keeps hB3 hO1 hg2
        have HRUN1 := Aside0.mk hrun1
        have HRUN2 := Aside0.mk hrun2
        have HBW := Aside0.mk (below_step HB.out hB4)
        have HV4 := Aside0.mk (Kd.C_below HV.out.1 hB4)
        have HO4 := Aside0.mk hO2
        have HOP := Aside0.mk (Kd.C_below HO.out.1 HBW.out)
        clear hxr hrun1 hO1 hg1 hB3 hyr hrun2 hO2 hg2 hB4
        go_wp2_with (first | ((with_reducible refine gate_dst (N := 47) rfl ?_); refine Kd.event_run rfl (exec_append rfl rfl rfl HRUN1.out) ?_) | ((with_reducible refine gate_dst (N := 50) rfl ?_); refine Kd.event_run rfl (exec_append rfl rfl rfl HRUN2.out) ?_))
        refine (ops_any _ A2 c2 l HOP.out HO.out.2 (by have := H.out.2.2.2.1; omega)).mono ?_
        rintro e w5 ⟨vo, rfl, hS, hB⟩
        obtain ⟨vp, vq, rfl, hvq, hrd⟩ := Kd.S_reads hS
        have HRD := Aside0.mk (And.intro hrd hvq)
        replace HBW := Aside0.mk (below_step HBW.out hB)
        replace HV4 := Aside0.mk (Kd.C_below HV4.out hB)
        replace HO4 := Aside0.mk (HO4.out.below hB)
        obtain ⟨A4, c4, rfl, hc4, hr4⟩ := HO4.out.reads (by have := H.out.2.2.1; simp; omega)
        have HR4 := Aside0.mk (And.intro hr4 (And.intro hc4 HO4.out.len63))
        clear hS hB hrd hvq HO4 hc4 hr4 HRUN1 HRUN2 HOP
        have HX : Aside0 (AllB (xs ++ ys)) := ⟨fun x hx => (List.mem_append.1 hx).elim (H.out.1 x) (H.out.2.1 x)⟩
        have HXL : Aside0 ((xs ++ ys).length ≤ 1048576) := ⟨by have := H.out.2.2.1; simp; omega⟩
        generalize xs ++ ys = zs at *
        go_wp2_with fail
        refine (Run_any w5 A4 vp c4 vq zs l HR4.out.1 HR4.out.2.1 HR4.out.2.2 HRD.out.1 HRD.out.2 H.out.2.2.2.2 HX.out (by have := HXL.out; omega) (by have := H.out.2.2.2.1; omega)).mono ?_
        rintro e w6 ⟨v, he, hS, hB⟩
        rw [HM2.out] at he hS
        subst he
        dsimp only at hS
        obtain ⟨vf, vg, rfl, hvg, hrd⟩ := Kd.S_reads hS
        replace HBW := Aside0.mk (below_step HBW.out hB)
        replace HV4 := Aside0.mk (Kd.C_below HV4.out hB)
        have HV6 := Aside0.mk (And.intro hrd hvg)
        clear hS hB hrd hvg HRD HR4 HM2
        go_wp2_with fail
        refine (told_any _ vb vd vs HV4.out HV.out.2 (by have := HLEN.out; have := H.out.2.2.2.1; omega)).mono ?_
        rintro e w7 ⟨vt, rfl, hS, hB⟩
        obtain ⟨vh, vi, rfl, hvi, hrd⟩ := told_reads hS hB
        replace HBW := Aside0.mk (below_step HBW.out hB)
        have HT1 := Aside0.mk hrd
        replace HV6 := Aside0.mk (And.intro (Kd.C_below HV6.out.1 hB) HV6.out.2)
        clear hS hB hrd hvi HV4 HV
        go_wp2_with fail
        refine (told_any _ vf vg vs HV6.out.1 HV6.out.2 (by have := HLEN.out; have := H.out.2.2.2.1; omega)).mono ?_
        rintro e w8 ⟨vt, rfl, hS, hB⟩
        obtain ⟨vj, vk, rfl, hvk, hrd⟩ := told_reads hS hB
        replace HBW := Aside0.mk (below_step HBW.out hB)
        have HT2 := Aside0.mk hrd
        replace HT1 := Aside0.mk (Kd.C_below HT1.out hB)
        clear hS hB hrd hvk HV6
        go_wp2_with fail
        refine (same_any _ vh vj vi vk vs HT1.out HT2.out).mono ?_
        rintro e w9 ⟨rfl, hD⟩
        replace HBW := Aside0.mk (below_step HBW.out hD.below)
        clear hD HT1 HT2
        go_wp2_with fail
        refine (known_any _).mono ?_
        rintro e w10 ⟨rfl, hB⟩
        replace HBW := Aside0.mk (below_step HBW.out hB)
        clear hB
        go_wp2_with fail
        go_ret
        exact ⟨rfl, HBW.out⟩
end Go.Proofs.Ytcmibbhfocfccaa.Cur
