/- CursorRuns. -/
import Derived.Test.YtcmibbhfocfccaaCurW12
import Derived.Test.YtcmibbhfocfccaaRefB
import Derived.Test.YtcmibbhfocfccaaLent
import Derived.Test.YtcmibbhfocfccaaCurM
namespace Go.Proofs.Ytcmibbhfocfccaa.Cur
open Go.RowKit Go.Proofs.Ytcmibbhfocfccaa.A Go.Proofs.Ytcmibbhfocfccaa.Segs Go.Proofs.Ytcmibbhfocfccaa.Own Go.Proofs.Ytcmibbhfocfccaa.CurP Go.Proofs.Ytcmibbhfocfccaa.Mem Go.Proofs.Ytcmibbhfocfccaa.Bits Go.Proofs.Ytcmibbhfocfccaa.Help Go.Proofs.YtcmibbhfocfccaaW.PrintWords Go.Proofs.YtcmibbhfocfccaaW.PrintLast Go.Proofs.YtcmibbhfocfccaaW.PrintMore
set_option linter.unusedVariables false
set_option linter.unusedSimpArgs false
/-- From the i-th on the values' bytes are as they were made, each for itself. -/
def SpI (f : Nat → Nat) (W : World) (base : Nat) (A : Option Addr) (vs : List (Int × List Int)) (i : Nat) : Prop :=
  ∀ j, i ≤ j → j < vs.length → ∃ ad c, A = some ad ∧ dV.M W base (fun k => k ≠ ad.block ∧ f k = j) (vs.getD j (0, [])) c ∧ ∀ q u, c[q]? = some u → W.cell? (ad.add (j * 2 + q)) = some u
theorem add_block (a : Addr) (n : Nat) : (a.add n).block = a.block := by unfold Addr.add; split <;> rfl
theorem spI_start {W : World} {t base n cp : Nat} {A : Option Addr} {ok : Nat → Prop} {vs : List (Int × List Int)} (h : Kd.S dV t W base ok (.slice A n cp) vs) : ∃ f, SpI f W base A vs 0 := by
  have hn := (Kd.S_reads' h).1
  obtain ⟨f, hR⟩ := h
  refine ⟨f, fun j _ hj => ?_⟩
  rcases A with _ | ad
  · obtain ⟨A', c', he, h1⟩ := Kd.R_reads hR
    injection he with e1 e2 e3
    have := h1.2.2.2 (by rw [List.length_zipIdx]; omega)
    obtain ⟨ad, h2, _⟩ := this
    rw [← e1] at h2; cases h2
  · obtain ⟨c, hcl, hM, hc⟩ := Kd.R_getA hR ((0, []), 0) (j : Int) (by omega) (by omega)
    rw [Int.toNat_natCast] at hM hc
    have hg : vs.zipIdx.getD j ((0, []), 0) = (vs.getD j (0, []), j) := by
      rw [List.getD_eq_getElem?_getD, List.getElem?_zipIdx, List.getD_eq_getElem?_getD, List.getElem?_eq_getElem hj]; simp
    rw [hg] at hM
    refine ⟨ad, c, rfl, ?_, hc⟩
    have hM' : dV.M W base (fun k => (ok k ∧ some k ≠ (Value.slice (some ad) n cp).ownBlock) ∧ f k = j) (vs.getD j (0, [])) c := hM
    exact dV.M_mono (fun k hk => ⟨fun e => hk.1.2 (by subst e; rfl), hk.2⟩) hM'
theorem spI_cell {f : Nat → Nat} {W : World} {base i : Nat} {A : Option Addr} {vs : List (Int × List Int)} (h : SpI f W base A vs i) (hi : i < vs.length) :
    ∃ ad u bs, A = some ad ∧ W.cell? ⟨(ad.add (i * 2)).block, (ad.add (i * 2)).off + 1, none⟩ = some u ∧ Owns W base u bs ∧ ∀ k, u.ownBlock = some k → k ≠ ad.block ∧ f k = i := by
  obtain ⟨ad, c, hA, ⟨c0, c1, rfl, h0, h1⟩, hc⟩ := h i (Nat.le_refl _) hi
  obtain ⟨u, rfl, hR⟩ := h1
  have h0' : c0 = [.int .u64 (vs.getD i (0, [])).1] := h0
  subst h0'
  have := hc 1 u rfl
  rw [← Deep.add_add] at this
  exact ⟨ad, u, _, hA, this, Kd.own_of_R hR, hR.1⟩
theorem spI_step {f : Nat → Nat} {W W1 : World} {base i : Nat} {A : Option Addr} {vs : List (Int × List Int)} {ad : Addr} {u : Value} (h : SpI f W base A vs i) (hA : A = some ad) (hg : W.grownBy W1 u.ownBlock) (hu : ∀ k, u.ownBlock = some k → k ≠ ad.block ∧ f k = i) : SpI f W1 base A vs (i + 1) := by
  intro j hj hl
  obtain ⟨ad', c, hA', hM, hc⟩ := h j (by omega) hl
  obtain rfl : ad' = ad := by rw [hA] at hA'; injection hA' with e; exact e.symm
  refine ⟨ad', c, hA', Kd.M_grown hM hg (fun k hk e => ?_), fun q v hv => cell_grown hg (hc q v hv) (fun e => ?_)⟩
  · have := (hu k e.symm).2; have := hk.2; omega
  · exact (hu _ e.symm).1 (add_block _ _)
set_option maxHeartbeats 16000000 in
theorem cursorRuns_any (A : Option Addr) (c : Nat) (xs : List Int) (A2 : Option Addr) (c2 : Nat) (l : List (Int × Int)) (w : World)
    (hr : Kd.C (Kd.int .u8) w A xs.length xs) (hc : xs.length ≤ c) (ho : dO.C w A2 l.length l) (hlc : l.length ≤ c2)
    (hx : AllB xs) (hb : xs.length ≤ 1048576) (hsz : l.length ≤ 1048576) (hlb : ∀ o ∈ l, -9223372036854775808 ≤ o.2 ∧ o.2 ≤ 9223372036854775807) :
    Calls Try.prog 3 #[.slice A xs.length c, .slice A2 l.length c2] w fun e w' => e = .returned (.bool true) ∧ Below w.heap.size w w' := by
  have H := Aside0.mk (And.intro hx (And.intro hb (And.intro hsz hlb)))
  have HR := Aside0.mk (And.intro hr hc)
  have HO := Aside0.mk (And.intro ho hlc)
  have hxl : (xs.length : Int) ≤ 1048576 := by omega
  have hll : (l.length : Int) ≤ 1048576 := by omega
  have HN := Aside0.mk (runL_len xs l 0)
  clear hx hb hsz hlb hr hc ho hlc
  go_enter Try.func3, Try.ntmps3
  go_wp2_with fail
  refine (Lent_calls A c xs w HR.out.1 (by have := H.out.2.1; omega)).mono ?_
  rintro e w1 ⟨g, rfl, hg, hL, hB⟩
  have HB := Aside0.mk hB
  have HL := Aside0.mk hL
  clear hg hL hB
  go_wp2_with fail
  refine (ops_any _ A2 c2 l (Kd.C_below HO.out.1 HB.out) HO.out.2 (by have := H.out.2.2.1; omega)).mono ?_
  rintro e w2 ⟨vo, rfl, hS, hB⟩
  obtain ⟨va, vc, rfl, hvc, hrd⟩ := Kd.S_reads hS
  replace HB := Aside0.mk (below_step HB.out hB)
  replace HL := Aside0.mk (HL.out.below hB)
  have HRD := Aside0.mk (And.intro hrd hvc)
  clear hS hB hrd hvc
  go_wp2_with fail
  refine (Run_any w2 (some ⟨g, 0, none⟩) va (xs.length + 8) vc xs l (HL.out.reads (by have := H.out.2.1; omega)) (by omega) (by have := H.out.2.1; omega) HRD.out.1 HRD.out.2 H.out.2.2.2 H.out.1 (by have := H.out.2.1; omega) (by have := H.out.2.2.1; omega)).mono ?_
  rintro e w3 ⟨v, rfl, hS, hB⟩
  obtain ⟨vb, vd, rfl, hvd, hrd⟩ := Kd.S_reads hS
  have HL2 := Aside0.mk HL.out
  have HB2 := Aside0.mk HB.out
  replace HL := Aside0.mk (HL.out.below hB)
  replace HB := Aside0.mk (below_step HB.out hB)
  have HB3 := Aside0.mk hB
  have HV := Aside0.mk hS
  have hvd' := Aside0.mk hvd
  clear hS hB hrd hvd HRD
  have HRR := Aside0.mk (refRun_any w3 A A2 c c2 xs l (Kd.C_below HR.out.1 HB.out) HR.out.2 (Kd.C_below HO.out.1 HB.out) HO.out.2 H.out.2.2.2 H.out.1 (by have := H.out.2.1; omega) (by have := H.out.2.2.1; omega))
  unfold RefRunPost at HRR
  generalize runL xs 0 l = R at *
  obtain ⟨vs, at_, er⟩ := R
  dsimp only at *
  go_wp2_with fail
  refine HRR.out.mono ?_
  rintro e w4 ⟨v, rfl, hS, hB⟩
  obtain ⟨vf, vg, rfl, hvg, hrd⟩ := Kd.S_reads hS
  replace HB := Aside0.mk (below_step HB.out hB)
  replace HB3 := Aside0.mk (below_step HB3.out hB)
  replace HL := Aside0.mk (HL.out.below hB)
  replace HV := Aside0.mk (Kd.S_below HV.out hB)
  have HV6 := Aside0.mk (And.intro hrd hvg)
  clear hS hB hrd hvg HRR
  go_wp2_with fail
  refine (told_any _ vb vd vs (Kd.S_reads' HV.out).2.2 hvd'.out (by have := HN.out; have := H.out.2.2.1; omega)).mono ?_
  rintro e w5 ⟨vt, rfl, hS, hB⟩
  obtain ⟨vh, vi, rfl, hvi, hrd⟩ := told_reads hS hB
  replace HB := Aside0.mk (below_step HB.out hB)
  replace HB3 := Aside0.mk (below_step HB3.out hB)
  replace HL := Aside0.mk (HL.out.below hB)
  replace HV := Aside0.mk (Kd.S_below HV.out hB)
  replace HV6 := Aside0.mk (And.intro (Kd.C_below HV6.out.1 hB) HV6.out.2)
  have HT1 := Aside0.mk hrd
  clear hS hB hrd hvi
  go_wp2_with fail
  refine (same_any _ vh vf vi vg vs HT1.out HV6.out.1).mono ?_
  rintro e w6 ⟨rfl, hD⟩
  have hB := hD.below
  replace HB := Aside0.mk (below_step HB.out hB)
  replace HB3 := Aside0.mk (below_step HB3.out hB)
  replace HL := Aside0.mk (HL.out.below hB)
  replace HV := Aside0.mk (Kd.S_below HV.out hB)
  clear hD HT1 HV6 hB
  go_wp2_with fail
  refine (Kept_calls g A c xs _ HL.out (Kd.C_below HR.out.1 HB.out) (by have := H.out.2.1; omega)).mono ?_
  rintro e w7 ⟨rfl, hD⟩
  have hB := hD.below
  replace HB := Aside0.mk (below_step HB.out hB)
  replace HB3 := Aside0.mk (below_step HB3.out hB)
  replace HL := Aside0.mk (HL.out.below hB)
  replace HV := Aside0.mk (Kd.S_below HV.out hB)
  clear hD hB
  obtain ⟨f, hsp⟩ := spI_start HV.out
  have HSP := Aside0.mk hsp
  clear hsp
  have hvl : (vs.length : Int) ≤ 1048576 := by have := HN.out; omega
  have hvd2 : ((vs.length : Nat) : Int) ≤ (vd : Int) := by have := hvd'.out; omega
  go_wp2_with fail
  go_loopg [12] vs.length (fun kq v12 w' => ∃ i : Nat, Aside0 (kq + i = vs.length) ∧ v12 = .int .i64 (i : Int) ∧ Aside0 (SpI f w' w2.heap.size vb vs i ∧ Below w2.heap.size w2 w'))
  case atStart => exact ⟨0, ⟨by simp⟩, rfl, ⟨HSP.out, HB3.out⟩⟩
  case round =>
    obtain ⟨i, HK, rfl, HI⟩ := hrel
    cases gk with
    | zero =>
      have HL7 : Aside0 (LentAt wr g xs) := ⟨HL2.out.below HI.out.2⟩
      have HB7 : Aside0 (Below w.heap.size w wr) := ⟨below_step HB2.out HI.out.2⟩
      have hge : i = vs.length := by have := HK.out; omega
      have hi2 : ¬ ((i : Nat) : Int) < ((vs.length : Nat) : Int) := by omega
      clear HI
      go_wp2_with fail
      refine (Kept_calls g A c xs _ HL7.out (Kd.C_below HR.out.1 HB7.out) (by have := H.out.2.1; omega)).mono ?_
      rintro e w8 ⟨rfl, hD⟩
      replace HB7 := Aside0.mk (below_step HB7.out hD.below)
      clear hD
      go_wp2_with fail
      refine (known_any _).mono ?_
      rintro e w9 ⟨rfl, hB⟩
      replace HB7 := Aside0.mk (below_step HB7.out hB)
      clear hB
      go_wp2_with fail
      go_ret
      exact ⟨rfl, HB7.out⟩
    | succ kq =>
      have hi : i < vs.length := by have := HK.out; omega
      have hi2 : ((i : Nat) : Int) < ((vs.length : Nat) : Int) := by omega
      obtain ⟨ad, u, bs, rfl, hc, hO, hu⟩ := spI_cell HI.out.1 hi
      have HSPOIL := Aside0.mk (spoil_any wr w2.heap.size u bs hO)
      have HU := Aside0.mk (And.intro hO hu)
      clear hO hu
      obtain ⟨ua, uc, rfl, -, -⟩ := HU.out.1.reads HU.out.1.len63
      generalize bs.length = bl at *
      go_wp2_with fail
      refine HSPOIL.out.mono ?_
      rintro e w8 ⟨rfl, hG⟩
      have HN : Aside0 (SpI f w8 w2.heap.size (some ad) vs (i + 1) ∧ Below w2.heap.size w2 w8) := ⟨spI_step HI.out.1 rfl hG HU.out.2, HI.out.2.grown hG HI.out.2.size (fun k hk => own_base HU.out.1 k hk)⟩
      clear hG HI HSPOIL hc
      go_wp2_with fail
      go_roundg kq
      case measure => omega
      case rel => exact ⟨i + 1, ⟨by have := HK.out; omega⟩, by first | rfl | go_num, HN⟩
end Go.Proofs.Ytcmibbhfocfccaa.Cur
