/- CursorOne. -/
import Derived.Test.YtcmibbhfocfccaaCurQ
import Derived.Test.YtcmibbhfocfccaaCurB
import Derived.Test.YtcmibbhfocfccaaCurR2
import Derived.Test.YtcmibbhfocfccaaCurW12
import Derived.Test.YtcmibbhfocfccaaLitC
import Derived.Deep.CutRange
namespace Go.Proofs.Ytcmibbhfocfccaa.Cur
open Go.RowKit Go.Proofs.Ytcmibbhfocfccaa.Segs Go.Proofs.Ytcmibbhfocfccaa.Own Go.Proofs.Ytcmibbhfocfccaa.CurP Go.Proofs.Ytcmibbhfocfccaa.Mem Go.Proofs.Ytcmibbhfocfccaa.Bits Go.Proofs.Ytcmibbhfocfccaa.Help Go.Proofs.YtcmibbhfocfccaaW.PrintWords Go.Proofs.YtcmibbhfocfccaaW.PrintLast Go.Proofs.YtcmibbhfocfccaaW.PrintMore
set_option linter.unusedVariables false
set_option linter.unusedSimpArgs false
theorem layA_one {n : Int} {s : Nat} (h1 : 1 ≤ s) (h8 : s ≤ 8) (h : n < 256 ^ s) : layA [(n, [])] [(0, (s : Int))] = (0, numB s n) := by
  have hf : fitsP 0 (s : Int) n 0 = true := by unfold fitsP; rw [if_pos rfl]; simp; exact ⟨by omega, by omega, h⟩
  have hS : layS [] [(0, (s : Int))] [(n, [])] = (0, numB s n) := by
    rw [layS]
    simp only [List.length_nil, hf]
    rw [if_neg (by decide), if_neg (by simp; omega), layS]
    simp [layB]
  unfold layA
  rw [if_neg (by simp), if_neg (by simp), hS]
  rfl
theorem count8 (k : Int) (w : World) (hk0 : -9223372036854775808 ≤ k) (hk1 : k ≤ 9223372036854775807) :
    Calls Try.prog 19 #[.int .i64 k, .int .i64 8] w fun e w' => ∃ r : Nat, e = .returned (.int .i64 (r : Int)) ∧ r < 8 ∧ w = w' := by
  have hb := Int.tmod_lt_of_pos k (show 0 < (8 : Int) by omega)
  have hb2 : -8 < k.tmod 8 := by have := Int.lt_tmod_of_pos k (show 0 < (8 : Int) by omega); omega
  obtain ⟨m, hm, hm1, hm2⟩ : ∃ m, k.tmod 8 = m ∧ m < 8 ∧ -8 < m := ⟨_, rfl, hb, hb2⟩
  clear hb hb2
  by_cases hs : m < 0
  · go_enter Try.func19, Try.ntmps19
    go_wp2_with fail
    go_ret
    exact ⟨(m + 8).toNat, by rw [show (((m + 8).toNat : Nat) : Int) = m + 8 by omega]; rfl, by omega, rfl⟩
  · go_enter Try.func19, Try.ntmps19
    go_wp2_with fail
    go_ret
    exact ⟨m.toNat, by rw [show ((m.toNat : Nat) : Int) = m by omega]; rfl, by omega, rfl⟩
set_option maxHeartbeats 8000000 in
theorem cursorOne_any (n size : Int) (w : World) (hn : 0 ≤ n ∧ n ≤ 18446744073709551615) (hs : -9223372036854775808 ≤ size ∧ size ≤ 9223372036854775807) :
    Calls Try.prog 7 #[.int .u64 n, .int .i64 size] w fun e w' => e = .returned (.bool true) ∧ Below w.heap.size w w' := by
  have HC := Aside0.mk (count8 size w hs.1 hs.2)
  have HN := Aside0.mk hn
  have hn0 := hn.1
  have hn1 := hn.2
  clear hs hn
  go_enter Try.func7, Try.ntmps7
  go_wp2_with fail
  refine HC.out.mono ?_
  rintro e w' ⟨r, rfl, hr, rfl⟩
  clear HC
  go_upto_if 13 with fail
  go_cut [0] from 14 to 19 (fun s0 wx => s0 = .int .u64 (n % 256 ^ (r + 1)) ∧ w = wx)
  case first =>
    have hr8 : r = 0 ∨ r = 1 ∨ r = 2 ∨ r = 3 ∨ r = 4 ∨ r = 5 ∨ r = 6 ∨ r = 7 := by omega
    clear hr
    rcases hr8 with rfl | rfl | rfl | rfl | rfl | rfl | rfl | rfl
    all_goals
      go_wp2_with fail
      go_meet
      refine ⟨?_, rfl⟩
    all_goals first
      | rfl
      | (rw [show (256 : Int) ^ (7 + 1) = 18446744073709551616 from rfl, Int.emod_eq_of_lt hn0 (by omega)])
  obtain ⟨rfl, rfl⟩ := hcut
  have hm0 : 0 ≤ n % 256 ^ (r + 1) := Int.emod_nonneg _ (by have : (0 : Int) < 256 ^ (r + 1) := Int.pow_pos (by decide); omega)
  have hm1 : n % 256 ^ (r + 1) < 256 ^ (r + 1) := Int.emod_lt_of_pos _ (Int.pow_pos (by decide))
  have hmn : n % 256 ^ (r + 1) ≤ 18446744073709551615 := by
    have : (256 : Int) ^ (r + 1) ≤ 18446744073709551616 := pow_small8 ⟨r + 1, by omega⟩
    omega
  rw [show (1 + (r : Int)) = ((r + 1 : Nat) : Int) by omega]
  have hs1 : 1 ≤ r + 1 := by omega
  have hs8 : r + 1 ≤ 8 := by omega
  clear hr
  generalize n % 256 ^ (r + 1) = m at *
  generalize r + 1 = s at *
  clear hn0 hn1 HN n
  have hsI : (s : Int) ≤ 8 := by omega
  have HA := Aside0.mk (layA_one hs1 hs8 hm1)
  have HL := Aside0.mk (And.intro (numB_len s m) (And.intro (numB_get s m) (And.intro (numB_bytes s m) (numL_numB s m hm0 hm1))))
  clear hm1
  have HP : Aside0 (pieceR (numB s m) 0 0 (s : Int) = (0, m, [], s)) := ⟨by
    unfold pieceR
    rw [if_pos rfl, if_neg (by omega), if_neg (by rw [HL.out.1]; omega), List.drop_zero, Int.toNat_natCast, List.take_of_length_le (by rw [HL.out.1]; exact Nat.le_refl _), HL.out.2.2.2, Nat.zero_add]⟩
  generalize hys : numB s m = ys at *
  clear hys
  go_wp2_with fail
  have hB : Below w.heap.size w ((w.alloc (.cells #[.int .u64 m, .slice none 0 0] 40)).alloc (.cells #[.int .i64 0, .int .i64 (s : Int)] 53)) := below_alloc (below_alloc (Below.refl _ _) _) _
  have b0 : ((w.alloc (.cells #[.int .u64 m, .slice none 0 0] 40)).alloc (.cells #[.int .i64 0, .int .i64 (s : Int)] 53)).heap[w.heap.size]? = some (.cells #[.int .u64 m, .slice none 0 0] 40 (0, 0)) := blk_alloc (blk_new w _) _
  have b1 : ((w.alloc (.cells #[.int .u64 m, .slice none 0 0] 40)).alloc (.cells #[.int .i64 0, .int .i64 (s : Int)] 53)).heap[w.heap.size + 1]? = some (.cells #[.int .i64 0, .int .i64 (s : Int)] 53 (0, 0)) := blk_new_at (by rw [alloc_size])
  generalize (w.alloc (.cells #[.int .u64 m, .slice none 0 0] 40)).alloc (.cells #[.int .i64 0, .int .i64 (s : Int)] 53) = W at *
  have hv : dV.C W (some ⟨w.heap.size, 0, none⟩) 1 [(m, [])] := lit_C [((m, ([] : List Int)), [.int .u64 m, .slice none 0 0])] (fun p hp => by
    obtain rfl := List.mem_singleton.1 hp
    exact ⟨[_], [_], rfl, rfl, none, 0, rfl, Nat.le_refl _, C_zero _ _⟩) b0 (by simp)
  have ho : dO.C W (some ⟨w.heap.size + 1, 0, none⟩) 1 [((0 : Int), (s : Int))] := lit_C [(((0 : Int), (s : Int)), [.int .i64 0, .int .i64 (s : Int)])] (fun p hp => by
    obtain rfl := List.mem_singleton.1 hp
    exact ⟨[_], [_], rfl, rfl, rfl⟩) b1 (by simp)
  have hlay := Lay_any W _ _ 1 1 [(m, [])] [(0, (s : Int))] hv (Nat.le_refl _) ho (Nat.le_refl _) (fun o h => by obtain rfl := List.mem_singleton.1 h; exact ⟨by dsimp only; omega, by dsimp only; omega⟩) (fun v h => by obtain rfl := List.mem_singleton.1 h; exact ⟨hm0, hmn⟩)
  have HB := Aside0.mk hB
  clear hB b0 b1 hv ho
  refine hlay.mono ?_
  rintro e w1 ⟨v, he, hO, hB⟩
  rw [HA.out] at he hO
  subst he
  dsimp only at hO
  obtain ⟨ba, bc, rfl, hbc, hbr⟩ := hO.reads hO.len63
  replace HB := Aside0.mk (below_step HB.out hB)
  rw [HL.out.1] at hbr hbc
  have HX := Aside0.mk hbr
  have hcl := (Kd.reads_of_C (d := (0 : Int)) hbr).2.2 (by omega)
  obtain ⟨ad, rfl, hcl⟩ := hcl
  have HCL := Aside0.mk hcl
  clear hO hB hbr hlay hcl HA
  rw [HL.out.1]
  go_wp2_with fail
  go_loop [7] (fun v7 => ∃ i : Nat, i ≤ s ∧ v7 = .int .i64 (i : Int)) (fun v7 => s - (intOf v7).toNat)
  case atStart => exact ⟨0, Nat.zero_le _, rfl⟩
  case round =>
    obtain ⟨i, hi, rfl⟩ := hrel
    by_cases hlt : i < s
    · have hi2 : ((i : Nat) : Int) < ((s : Nat) : Int) := by omega
      have hc := HCL.out i hlt
      rw [HL.out.2.1 i hlt] at hc
      go_wp2_with fail
      exact ⟨⟨i + 1, hlt, by first | rfl | go_num⟩, by simp [intOf]; omega⟩
    · obtain rfl : i = s := by omega
      clear hlt
      have hN := New_any w1 (some ad) bc ys (by rw [HL.out.1]; exact HX.out) (by rw [HL.out.1]; omega)
      rw [HL.out.1] at hN
      go_wp2_with fail
      refine hN.mono ?_
      rintro e w2 ⟨wB, B, d, rfl, hR, hC, hB1, hB2⟩
      replace HB := Aside0.mk (below_step HB.out hB1)
      have HB2 := Aside0.mk hB2
      have HNUM := rdrNum_any w2 wB.heap.size B d ys 0 (i : Int) hR HL.out.2.2.1
      rw [HP.out] at HNUM
      dsimp only at HNUM
      clear hR hC hB1 hB2 hN
      go_wp2_with fail
      refine HNUM.mono ?_
      rintro e w3 ⟨rfl, hR, hG⟩
      have hB3 : Below wB.heap.size wB w3 := HB2.out.grown hG HB2.out.size (fun k hk => by injection hk with hk; omega)
      replace HB := Aside0.mk (below_step HB.out hB3)
      have HEND := End_any 0 w3 wB.heap.size B d ys i hR
      rw [show endE ys i 0 = 0 by unfold endE; rw [if_neg (by decide), if_pos HL.out.1.symm]] at HEND
      clear hR hG hB3 HNUM
      go_wp2_with fail
      refine HEND.mono ?_
      rintro e w4 ⟨rfl, hD⟩
      replace HB := Aside0.mk (below_step HB.out hD.below)
      clear hD HEND
      go_wp2_with fail
      refine (known_any _).mono ?_
      rintro e w5 ⟨rfl, hB⟩
      replace HB := Aside0.mk (below_step HB.out hB)
      clear hB
      go_wp2_with fail
      go_ret
      exact ⟨rfl, HB.out⟩
end Go.Proofs.Ytcmibbhfocfccaa.Cur
