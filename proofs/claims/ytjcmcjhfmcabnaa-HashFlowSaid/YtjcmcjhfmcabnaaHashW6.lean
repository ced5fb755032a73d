/- The walk of the reference's Sip. -/
import Derived.Test.YtjcmcjhfmcabnaaHashW5
namespace Go.Proofs.Ytjcmcjhfmcabnaa.Hash
open Go.RowKit Go.Proofs.Ytjcmcjhfmcabnaa.Bits Go.Proofs.Ytjcmcjhfmcabnaa.Help Go.Proofs.YtjcmcjhfmcabnaaW.PrintWords Go.Proofs.YtjcmcjhfmcabnaaW.PrintLast Go.Proofs.YtjcmcjhfmcabnaaW.PrintMore
set_option linter.unusedVariables false
set_option linter.unusedSimpArgs false
theorem or_comm64 (x y : Int) : Go.bits .or .u64 x y = Go.bits .or .u64 y x := by
  simp only [Go.bits, BitVec.or_comm]
theorem in_v (v : S4) (m : Int) (w : World) : Calls Try.prog 24 #[.agg v.vals.toArray, .int .u64 m] w fun e w' => e = .returned (.agg (inn v m).vals.toArray) ∧ Below w.heap.size w w' := in_any v.a v.b v.c v.d m w
/-- What stands of the word that is under way. -/
def part (xs : List Int) (i : Nat) : Int := leW 0 0 ((xs.drop (8 * (i / 8))).take (i % 8))
theorem part_step {xs : List Int} {i : Nat} (h : i < xs.length) : leW 0 0 ((xs.drop (8 * (i / 8))).take (i % 8 + 1)) = Go.bits .or .u64 (part xs i) (IntKind.u64.wrap (IntKind.u64.wrap (xs.getD i 0) * 2 ^ (8 * (i % 8)))) := by
  have h1 : i % 8 < (xs.drop (8 * (i / 8))).length := by rw [List.length_drop]; omega
  rw [take_snoc h1, leW_snoc, List.length_take, Nat.min_eq_left (Nat.le_of_lt h1), Nat.zero_add]
  have e : (xs.drop (8 * (i / 8))).getD (i % 8) 0 = xs.getD i 0 := by
    rw [List.getD_eq_getElem?_getD, List.getElem?_drop, ← List.getD_eq_getElem?_getD, show 8 * (i / 8) + i % 8 = i by omega]
  rw [e]; rfl
set_option maxRecDepth 10000 in
set_option maxHeartbeats 4000000 in
theorem RefSip_any (k0 k1 : Int) (A : Option Addr) (c : Nat) (xs : List Int) (w : World) (hr : Kd.C (Kd.int .u8) w A xs.length xs) (hc : xs.length ≤ c) :
    Calls Try.prog 10 #[.int .u64 k0, .int .u64 k1, .slice A xs.length c] w fun e w' => e = .returned (.int .u64 (sip k0 k1 xs)) ∧ Below w.heap.size w w' := by
  have HR := Aside0.mk hr
  have HC := Aside0.mk hc
  have hlen : xs.length ≤ 9223372036854775807 := (Kd.reads_of_C (d := (0 : Int)) hr).2.1
  have HN := Aside0.mk hlen
  clear hr hc hlen
  go_enter Try.func10, Try.ntmps10
  go_wp2
  have hb : (w.alloc (.cells (start k0 k1).vals.toArray 49)).heap[w.heap.size]? = some _ := blk_new w _
  have hG : w.grownBy (w.alloc (.cells (start k0 k1).vals.toArray 49)) (some w.heap.size) := World.grownBy_alloc w (.cells (start k0 k1).vals.toArray 49) _
  go_loopg [8, 9] xs.length (fun kq v8 v9 w' => ∃ i : Nat, Aside0 (kq + i = xs.length) ∧ v8 = .int .u64 (part xs i) ∧ v9 = .int .i64 (i : Int) ∧ Aside0 (w'.heap[w.heap.size]? = some (.cells (eat (start k0 k1) xs (i / 8)).vals.toArray 49 (0, 0))) ∧ Aside0 (w.grownBy w' (some w.heap.size)))
  case atStart => exact ⟨0, ⟨rfl⟩, rfl, rfl, ⟨hb⟩, ⟨hG⟩⟩
  case round =>
    clear hb hG
    obtain ⟨i, HI, rfl, rfl, HB, HG⟩ := hrel
    have hB := Below.grown (Below.refl w.heap.size w) HG.out (Nat.le_refl _) (fun k hk => by cases hk; exact Nat.le_refl _)
    have HB' := Aside0.mk hB
    clear hB
    cases gk with
    | zero =>
      obtain rfl : i = xs.length := by have := HI.out; omega
      have hlt : decide ((xs.length : Int) < (xs.length : Int)) = false := decide_eq_false (by omega)
      have e1 : ((xs.length : Int)).tmod 256 = ((xs.length % 256 : Nat) : Int) := by rw [Int.tmod_eq_emod_of_nonneg (by omega)]; omega
      have HE : (xs.length : Int) % 256 * 72057594037927936 = shlen xs.length := by
        simp only [shlen, wrap_u64]; omega
      generalize hv : eat (start k0 k1) xs (xs.length / 8) = u at *
      obtain ⟨a, b, c1, d⟩ := u
      obtain ⟨c0, c1', c2, c3, f0, f1, f2, f3⟩ := cells4 HB.out
      have HV := Aside0.mk hv
      replace HE := Aside0.mk HE
      clear hv
      go_upto_region 10 with fail
      go_cut [] from 10 to 71 (fun wx => Aside0 (wx.heap[w.heap.size]? = some (.cells (inn ⟨a, b, c1, d⟩ (bits .or .u64 (part xs xs.length) (shlen xs.length))).vals.toArray 49 (0, 0))) ∧ Aside0 (w.grownBy wx (some w.heap.size)))
      case first =>
        go_wp2_with fail
        refine (in_v ⟨a, b, c1, d⟩ _ _).mono ?_
        rintro e w1 ⟨rfl, hB1⟩
        rw [HE.out]
        have hb := blk_below HB.out hB1
        have hG := HG.out.trans (grown_of_below hB1 (some w.heap.size))
        clear c0 c1' c2 c3 f0 f1 f2 f3 HB HG hB1 HB'
        generalize hu : inn ⟨a, b, c1, d⟩ (bits .or .u64 (part xs xs.length) (shlen xs.length)) = u
        have HU := Aside0.mk hu
        clear hu
        obtain ⟨A1, B1, C1, D1⟩ := u
        obtain ⟨c0, c1', c2, c3, f0, f1, f2, f3⟩ := cells4 hb
        have HG := Aside0.mk hG
        have HB := Aside0.mk hb
        clear hG hb
        have hv4 : (S4.vals ⟨A1, B1, C1, D1⟩).toArray = #[.int .u64 A1, .int .u64 B1, .int .u64 C1, .int .u64 D1] := rfl
        rw [hv4]
        go_wp2_with fail
        go_meet
        rw [HU.out]
        exact ⟨⟨blk_set (blk_set (blk_set (blk_set HB.out 0 _) 1 _) 2 _) 3 _⟩, ⟨HG.out.trans ((((setCells_grown _ w.heap.size [_] 0).trans (setCells_grown _ w.heap.size [_] 1)).trans (setCells_grown _ w.heap.size [_] 2)).trans (setCells_grown _ w.heap.size [_] 3))⟩⟩
      clear c0 c1' c2 c3 f0 f1 f2 f3 HB HG HB'
      obtain ⟨HB, HG⟩ := hcut
      have hs : sip k0 k1 xs = fin ⟨a, b, c1, d⟩ (Go.bits .or .u64 (part xs xs.length) (shlen xs.length)) := by
        unfold sip
        rw [HV.out, or_comm64]
        unfold part
        rw [List.take_of_length_le (by rw [List.length_drop]; omega)]
      unfold fin at hs
      generalize inn ⟨a, b, c1, d⟩ (bits .or .u64 (part xs xs.length) (shlen xs.length)) = u at *
      obtain ⟨A1, B1, C1, D1⟩ := u
      have HS := Aside0.mk hs
      clear hs
      obtain ⟨c0, c1', c2, c3, f0, f1, f2, f3⟩ := cells4 HB.out
      go_upto_region 12 with fail
      refine wp_set HB.out ?_
      intro W2 hb2 hg2
      have hG := HG.out.trans hg2
      clear c0 c1' c2 c3 f0 f1 f2 f3 HB HG hg2
      go_cut [] from 10 to 71 (fun wx => Aside0 (wx.heap[w.heap.size]? = some (.cells (rnds 4 ⟨A1, B1, xor64 C1 255, D1⟩).vals.toArray 49 (0, 0))) ∧ Aside0 (w.grownBy wx (some w.heap.size)))
      case first =>
        obtain ⟨c0, c1', c2, c3, f0, f1, f2, f3⟩ := cells4 hb2
        have HB := Aside0.mk hb2
        have HG := Aside0.mk hG
        clear hb2 hG
        go_wp2_with fail
        clear c0 c1' c2 c3 f0 f1 f2 f3
        refine (round_v ⟨A1, B1, xor64 C1 255, D1⟩ _).mono ?_
        rintro e w1 ⟨rfl, hB1⟩
        go_wp2_with fail
        refine (round_v _ _).mono ?_
        rintro e w2 ⟨rfl, hB2⟩
        go_wp2_with fail
        refine (round_v _ _).mono ?_
        rintro e w3 ⟨rfl, hB3⟩
        go_wp2_with fail
        refine (round_v _ _).mono ?_
        rintro e w4 ⟨rfl, hB4⟩
        have hb := blk_below (blk_below (blk_below (blk_below HB.out hB1) hB2) hB3) hB4
        have hG := (((HG.out.trans (grown_of_below hB1 (some w.heap.size))).trans (grown_of_below hB2 (some w.heap.size))).trans (grown_of_below hB3 (some w.heap.size))).trans (grown_of_below hB4 (some w.heap.size))
        clear hB1 hB2 hB3 hB4
        generalize hu : rnd (rnd (rnd (rnd ⟨A1, B1, xor64 C1 255, D1⟩))) = u at hb ⊢
        have HU := Aside0.mk hu
        clear hu
        obtain ⟨A2, B2, C2, D2⟩ := u
        have hv4 : (S4.vals ⟨A2, B2, C2, D2⟩).toArray = #[.int .u64 A2, .int .u64 B2, .int .u64 C2, .int .u64 D2] := rfl
        rw [hv4]
        clear hv4
        obtain ⟨c0, c1', c2, c3, f0, f1, f2, f3⟩ := cells4 hb
        replace HG := Aside0.mk hG
        replace HB := Aside0.mk hb
        clear hG hb
        go_wp2_with fail
        go_meet
        rw [show rnds 4 ⟨A1, B1, xor64 C1 255, D1⟩ = ⟨A2, B2, C2, D2⟩ from HU.out]
        exact ⟨⟨blk_set (blk_set (blk_set (blk_set HB.out 0 _) 1 _) 2 _) 3 _⟩, ⟨HG.out.trans ((((setCells_grown _ w.heap.size [_] 0).trans (setCells_grown _ w.heap.size [_] 1)).trans (setCells_grown _ w.heap.size [_] 2)).trans (setCells_grown _ w.heap.size [_] 3))⟩⟩
      clear hb2 hG
      obtain ⟨HB, HG⟩ := hcut
      have hs := HS.out
      clear HS
      simp only [] at hs
      generalize rnds 4 ⟨A1, B1, xor64 C1 255, D1⟩ = r at *
      obtain ⟨A2, B2, C2, D2⟩ := r
      obtain ⟨c0, c1', c2, c3, f0, f1, f2, f3⟩ := cells4 HB.out
      have HS := Aside0.mk hs
      clear hs
      go_wp2_with fail
      go_ret
      refine ⟨?_, Below.grown (Below.refl w.heap.size w) HG.out (Nat.le_refl _) (fun k hk => by cases hk; exact Nat.le_refl _)⟩
      rw [HS.out]
      rfl
    | succ kq =>
      have hj : i < xs.length := by have := HI.out; omega
      have hlt : decide ((i : Int) < (xs.length : Int)) = true := decide_eq_true (by omega)
      obtain ⟨ad, rfl, hcl⟩ := (Kd.reads_of_C (d := (0 : Int)) (Kd.C_below HR.out HB'.out)).2.2 (by omega)
      have hcl := hcl i hj
      have e1 : (i : Int).tmod 8 = ((i % 8 : Nat) : Int) := by rw [Int.tmod_eq_emod_of_nonneg (by omega)]; omega
      have e3 : wrap64 ((i : Int) + 1) = (i : Int) + 1 := wrap64_id (by omega) (by have := HN.out; omega)
      generalize hv : eat (start k0 k1) xs (i / 8) = u at *
      obtain ⟨a, b, c1, d⟩ := u
      obtain ⟨c0, c1', c2, c3, f0, f1, f2, f3⟩ := cells4 HB.out
      have HV := Aside0.mk hv
      clear hv
      by_cases h7 : i % 8 = 7
      · have hd : (((i % 8 : Nat) : Int) == 7) = true := by rw [h7]; rfl
        go_wp2_with fail
        refine (in_v ⟨a, b, c1, d⟩ _ _).mono ?_
        rintro e w1 ⟨rfl, hB1⟩
        have hb := blk_below HB.out hB1
        have hG := HG.out.trans (grown_of_below hB1 (some w.heap.size))
        clear c0 c1' c2 c3 f0 f1 f2 f3 HB HG hB1 HB'
        have hm : bits .or .u64 (part xs i) (IntKind.u64.wrap (IntKind.u64.wrap xs[i] * 72057594037927936)) = leW 0 0 ((xs.drop (8 * (i / 8))).take 8) := by
          have h := part_step hj
          rw [h7, List.getD_eq_getElem?_getD, List.getElem?_eq_getElem hj] at h
          exact h.symm
        rw [hm]
        generalize hu : inn ⟨a, b, c1, d⟩ (leW 0 0 ((xs.drop (8 * (i / 8))).take 8)) = u
        obtain ⟨A1, B1, C1, D1⟩ := u
        obtain ⟨c0, c1', c2, c3, f0, f1, f2, f3⟩ := cells4 hb
        have HG := Aside0.mk hG
        have HB := Aside0.mk hb
        have HU := Aside0.mk hu
        clear hG hb hu hm
        have hv4 : (S4.vals ⟨A1, B1, C1, D1⟩).toArray = #[.int .u64 A1, .int .u64 B1, .int .u64 C1, .int .u64 D1] := rfl
        rw [hv4]
        clear hv4
        go_wp2_with fail
        go_roundg kq
        case measure => omega
        case rel =>
          refine ⟨i + 1, ⟨by have := HI.out; omega⟩, ?_, by first | rfl | (congr 1; done) | (congr 1; omega), ⟨?_⟩, ⟨HG.out.trans ((((setCells_grown _ w.heap.size [_] 0).trans (setCells_grown _ w.heap.size [_] 1)).trans (setCells_grown _ w.heap.size [_] 2)).trans (setCells_grown _ w.heap.size [_] 3))⟩⟩
          · have e : part xs (i + 1) = 0 := by
              unfold part; rw [show (i + 1) % 8 = 0 by omega]; rfl
            rw [e]
          · have e : eat (start k0 k1) xs ((i + 1) / 8) = ⟨A1, B1, C1, D1⟩ := by
              rw [show (i + 1) / 8 = i / 8 + 1 by omega]; simp only [eat]; rw [HV.out, HU.out]
            rw [e]
            exact blk_set (blk_set (blk_set (blk_set HB.out 0 _) 1 _) 2 _) 3 _
      · have hd : (((i % 8 : Nat) : Int) == 7) = false := by simpa using (by omega : ¬ ((i % 8 : Nat) : Int) = 7)
        go_wp2_with fail
        go_roundg kq
        case measure => omega
        case rel =>
          refine ⟨i + 1, ⟨by have := HI.out; omega⟩, ?_, by first | rfl | (congr 1; done) | (congr 1; omega), ?_, HG⟩
          · have e : part xs (i + 1) = bits .or .u64 (part xs i) (IntKind.u64.wrap (IntKind.u64.wrap xs[i] * 2 ^ (8 * (i % 8)))) := by
              have h := part_step hj
              rw [List.getD_eq_getElem?_getD, List.getElem?_eq_getElem hj] at h
              unfold part at h ⊢
              rw [show (i + 1) % 8 = i % 8 + 1 by omega, show (i + 1) / 8 = i / 8 by omega]
              exact h
            rw [e]
          · rw [show (i + 1) / 8 = i / 8 by omega, HV.out]; exact HB
end Go.Proofs.Ytjcmcjhfmcabnaa.Hash
