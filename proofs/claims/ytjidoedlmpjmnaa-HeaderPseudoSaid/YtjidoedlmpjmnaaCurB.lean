/- CurB: CurL1, CurL2, CurL3, CurL4. -/
import Derived.Test.YtjidoedlmpjmnaaCurT
import Derived.Test.YtjidoedlmpjmnaaCurQ
import Derived.Test.YtjidoedlmpjmnaaBase
namespace Go.Proofs.Ytjidoedlmpjmnaa.Cur
open Go.RowKit Go.Proofs.Ytjidoedlmpjmnaa.Segs Go.Proofs.Ytjidoedlmpjmnaa.Own Go.Proofs.Ytjidoedlmpjmnaa.CurP Go.Proofs.Ytjidoedlmpjmnaa.Mem Go.Proofs.Ytjidoedlmpjmnaa.Bits Go.Proofs.Ytjidoedlmpjmnaa.Help Go.Proofs.YtjidoedlmpjmnaaW.PrintWords Go.Proofs.YtjidoedlmpjmnaaW.PrintLast Go.Proofs.YtjidoedlmpjmnaaW.PrintMore
set_option linter.unusedVariables false
set_option linter.unusedSimpArgs false
theorem natb (bn : Nat) : ((bn : Int) == 0) = decide (bn = 0) := by
  rw [Bool.eq_iff_iff, beq_iff_eq, decide_eq_true_iff]; omega
theorem shr_fits {s n : Int} (h1 : 1 ≤ s) (h0 : 0 ≤ n) : (n / 2 ^ ((8 * s).toNat - 1) / 2 == 0) = decide (n < 256 ^ s.toNat) := by
  have e : n / 2 ^ ((8 * s).toNat - 1) / 2 = n / 256 ^ s.toNat := by
    rw [Int.ediv_ediv_of_nonneg (Int.pow_nonneg (by decide)), ← Int.pow_succ]
    show n / 2 ^ ((8 * s).toNat - 1 + 1) = _
    rw [show (8 * s).toNat - 1 + 1 = 8 * s.toNat by omega, Int.pow_mul]
    rfl
  rw [e]
  have hp : (0 : Int) < 256 ^ s.toNat := Int.pow_pos (by decide)
  by_cases h : n < 256 ^ s.toNat
  · rw [Int.ediv_eq_zero_of_lt h0 h]; simp [h]
  · have : 1 ≤ n / 256 ^ s.toNat := (Int.le_ediv_iff_mul_le hp).2 (by omega)
    have hne : n / 256 ^ s.toNat ≠ 0 := by omega
    simp [h, hne]
set_option maxHeartbeats 4000000 in
theorem opfits_0 (s n : Int) (A : Option Addr) (bn c : Nat) (w : World) (hn0 : 0 ≤ n) (hn1 : n ≤ 18446744073709551615) (h1 : 1 ≤ s) (h8 : s ≤ 8) :
    Calls Try.prog 43 #[.agg #[.int .i64 0, .int .i64 s], .agg #[.int .u64 n, .slice A bn c]] w fun e w' => e = .returned (.bool (decide (n < 256 ^ s.toNat) && decide (bn = 0))) ∧ Below w.heap.size w w' := by
  have hs := shr_fits h1 hn0
  cases hq : decide (n < 256 ^ s.toNat) <;> (
    rw [hq] at hs
    have HQ := Aside0.mk hq
    clear hq
    go_enter Try.func43, Try.ntmps43
    go_wp2_with fail
    go_ret
    exact ⟨by simp [natb], below_alloc (below_alloc (Below.refl _ _) _) _⟩)
set_option maxHeartbeats 4000000 in
theorem opfits_0n (s n : Int) (A : Option Addr) (bn c : Nat) (w : World) (h : ¬ (1 ≤ s ∧ s ≤ 8)) :
    Calls Try.prog 43 #[.agg #[.int .i64 0, .int .i64 s], .agg #[.int .u64 n, .slice A bn c]] w fun e w' => e = .returned (.bool false) ∧ Below w.heap.size w w' := by
  by_cases h1 : 1 ≤ s
  · have h8 : decide (s ≤ 8) = false := by simp; omega
    clear h
    go_enter Try.func43, Try.ntmps43
    go_wp2_with fail
    go_ret
    exact ⟨rfl, below_alloc (below_alloc (Below.refl _ _) _) _⟩
  · have h8 : decide (1 ≤ s) = false := by simp; omega
    clear h h1
    go_enter Try.func43, Try.ntmps43
    go_wp2_with fail
    go_ret
    exact ⟨rfl, below_alloc (below_alloc (Below.refl _ _) _) _⟩
set_option maxHeartbeats 4000000 in
theorem opfits_any (k s n : Int) (A : Option Addr) (bn c : Nat) (w : World) (hn0 : 0 ≤ n) (hn1 : n ≤ 18446744073709551615) :
    Calls Try.prog 43 #[.agg #[.int .i64 k, .int .i64 s], .agg #[.int .u64 n, .slice A bn c]] w fun e w' => e = .returned (.bool (fitsP k s n bn)) ∧ Below w.heap.size w w' := by
  by_cases h0 : k = 0
  · subst h0
    by_cases hs : 1 ≤ s ∧ s ≤ 8
    · rw [show fitsP 0 s n bn = (decide (n < 256 ^ s.toNat) && decide (bn = 0)) by unfold fitsP; rw [if_pos rfl]; simp [hs.1, hs.2]]
      exact opfits_0 s n A bn c w hn0 hn1 hs.1 hs.2
    · rw [show fitsP 0 s n bn = false by unfold fitsP; rw [if_pos rfl]; exact decide_eq_false (fun h => hs ⟨h.1, h.2.1⟩)]
      exact opfits_0n s n A bn c w hs
  · have q0 : (k == 0) = false := by simpa using h0
    by_cases hn : n = 0
    · have qn : (n == 0) = true := by simpa using hn
      by_cases h1 : k = 1
      · subst h1
        have HE : Aside0 (fitsP 1 s n bn = ((bn : Int) == s)) := ⟨by unfold fitsP; rw [if_neg (by decide), if_pos rfl]; simp [hn]; rfl⟩
        clear q0 h0
        subst hn
        go_enter Try.func43, Try.ntmps43
        go_wp2_with fail
        go_ret
        rw [HE.out]
        exact ⟨rfl, below_alloc (below_alloc (Below.refl _ _) _) _⟩
      · have q1 : (k == 1) = false := by simpa using h1
        subst hn
        by_cases h2 : k = 2 ∨ k = 3
        · cases hb : ((bn : Int) == 0)
          · have HE : Aside0 (fitsP k s 0 bn = false) := ⟨by
              unfold fitsP; rw [if_neg h0, if_neg h1, if_pos h2]; simp at hb; simp [hb]⟩
            rcases h2 with rfl | rfl <;> (
              clear q0 h0 q1 h1
              go_enter Try.func43, Try.ntmps43
              go_wp2_with fail
              go_ret
              rw [HE.out]
              exact ⟨rfl, below_alloc (below_alloc (Below.refl _ _) _) _⟩)
          · have HE : Aside0 (fitsP k s 0 bn = decide (0 ≤ s)) := ⟨by
              unfold fitsP; rw [if_neg h0, if_neg h1, if_pos h2]; simp at hb; simp [hb]⟩
            rcases h2 with rfl | rfl <;> (
              clear q0 h0 q1 h1
              go_enter Try.func43, Try.ntmps43
              go_wp2_with fail
              go_ret
              rw [HE.out]
              exact ⟨rfl, below_alloc (below_alloc (Below.refl _ _) _) _⟩)
        · have q2 : (k == 2) = false := by simp; omega
          have q3 : (k == 3) = false := by simp; omega
          by_cases h4 : k = 4
          · subst h4
            have HE : Aside0 (fitsP 4 s 0 bn = (s == 0)) := ⟨by unfold fitsP; rw [if_neg (by decide), if_neg (by decide), if_neg (by decide), if_pos rfl]; simp; rfl⟩
            clear q0 h0 q1 h1 q2 q3 h2
            go_enter Try.func43, Try.ntmps43
            go_wp2_with fail
            go_ret
            rw [HE.out]
            exact ⟨rfl, below_alloc (below_alloc (Below.refl _ _) _) _⟩
          · have q4 : (k == 4) = false := by simpa using h4
            have HE : Aside0 (fitsP k s 0 bn = false) := ⟨by unfold fitsP; rw [if_neg h0, if_neg h1, if_neg h2, if_neg h4]⟩
            clear h0 h1 h2 h4
            go_enter Try.func43, Try.ntmps43
            go_wp2_with fail
            go_ret
            rw [HE.out]
            exact ⟨rfl, below_alloc (below_alloc (Below.refl _ _) _) _⟩
    · have qn : (n == 0) = false := by simpa using hn
      have HE : Aside0 (fitsP k s n bn = false) := ⟨by
        unfold fitsP; rw [if_neg h0]
        split
        · simp [hn]
        · split
          · simp [hn]
          · split
            · simp [hn]
            · rfl⟩
      rw [HE.out]
      by_cases h1 : k = 1
      · subst h1
        clear q0 h0 hn
        go_enter Try.func43, Try.ntmps43
        go_wp2_with fail
        go_ret
        exact ⟨rfl, below_alloc (below_alloc (Below.refl _ _) _) _⟩
      · have q1 : (k == 1) = false := by simpa using h1
        by_cases h2 : k = 2 ∨ k = 3
        · rcases h2 with rfl | rfl <;> (
            clear q0 h0 q1 h1 hn
            go_enter Try.func43, Try.ntmps43
            go_wp2_with fail
            go_ret
            exact ⟨rfl, below_alloc (below_alloc (Below.refl _ _) _) _⟩)
        · have q2 : (k == 2) = false := by simp; omega
          have q3 : (k == 3) = false := by simp; omega
          by_cases h4 : k = 4
          · subst h4
            clear q0 h0 q1 h1 q2 q3 h2 hn
            go_enter Try.func43, Try.ntmps43
            go_wp2_with fail
            go_ret
            exact ⟨rfl, below_alloc (below_alloc (Below.refl _ _) _) _⟩
          · have q4 : (k == 4) = false := by simpa using h4
            clear h0 h1 h2 h4 hn
            go_enter Try.func43, Try.ntmps43
            go_wp2_with fail
            go_ret
            exact ⟨rfl, below_alloc (below_alloc (Below.refl _ _) _) _⟩
end Go.Proofs.Ytjidoedlmpjmnaa.Cur
namespace Go.Proofs.Ytjidoedlmpjmnaa.Cur
open Go.RowKit Go.Proofs.Ytjidoedlmpjmnaa.Segs Go.Proofs.Ytjidoedlmpjmnaa.Own Go.Proofs.Ytjidoedlmpjmnaa.CurP Go.Proofs.Ytjidoedlmpjmnaa.Mem Go.Proofs.Ytjidoedlmpjmnaa.Bits Go.Proofs.Ytjidoedlmpjmnaa.Help Go.Proofs.YtjidoedlmpjmnaaW.PrintWords Go.Proofs.YtjidoedlmpjmnaaW.PrintLast Go.Proofs.YtjidoedlmpjmnaaW.PrintMore
set_option linter.unusedVariables false
set_option linter.unusedSimpArgs false
/-- Bytes made in new memory. -/
theorem make_bytes (W : World) (n : Nat) (h : n ≤ 140737488351232) : (Instr.makeSlice 25 (.int .i64 (n : Int)) (.int .i64 (n : Int))).run Try.prog W = .ok (.slice (some ⟨W.heap.size, 0, none⟩) n n) (W.alloc (.cells (nums .u8 (List.replicate n 0)).toArray 5)) := by
  obtain ⟨i0, hi, hz0, hz1, hz2⟩ := info_parts info_u8
  have hm := run_make (P := Try.prog) W 25 5 i0 (.int .u8 0) Try.underlying25 hi hz0 .i64 .i64 (n : Int) (n : Int) (by omega) (by omega) (by rw [hz2]; omega) (by omega)
  rw [Int.toNat_natCast] at hm
  rw [hm, hz1, Nat.mul_one]
  have : madeCells #[Value.int .u8 0] n = (nums .u8 (List.replicate n 0)).toArray := by
    apply Array.toList_inj.1
    apply List.ext_getElem
    · simp [nums, madeCells]
    · intro i h1 h2
      simp [nums, madeCells, Nat.mod_one]
  rw [← this]
  rfl
theorem C_new {W : World} {g : Nat} {xs : List Int} (hb : W.heap[g]? = some (.cells (nums .u8 xs).toArray 5 (0, 0))) (hl : xs.length ≤ 9223372036854775807) : Kd.C (Kd.int .u8) W (some ⟨g, 0, none⟩) xs.length xs :=
  C_of_block0 (more := []) (by simpa using hb) hl
/-- The first i bytes are in. -/
theorem put_byte {ys : List Int} {i n : Nat} (hy : ys.length = n) (hi : i < n) : (nums .u8 (ys.take i ++ List.replicate (n - i) 0)).toArray.setIfInBounds i (.int .u8 (ys.getD i 0)) = (nums .u8 (ys.take (i + 1) ++ List.replicate (n - (i + 1)) 0)).toArray := by
  apply Array.toList_inj.1
  rw [Array.toList_setIfInBounds]
  have e1 : List.replicate (n - i) (0 : Int) = 0 :: List.replicate (n - (i + 1)) 0 := by
    rw [show n - i = (n - (i + 1)) + 1 by omega]; rfl
  have hl : (ys.take i).length = i := by simp; omega
  rw [take_snoc (by omega), e1]
  simp only [nums, List.map_append, List.map_cons]
  rw [List.set_append_right _ _ (by rw [List.length_map, hl]; exact Nat.le_refl _), List.length_map, hl, Nat.sub_self]
  simp
def LayPost (ys : List Int) (w : World) (e : Ending) (w' : World) : Prop := ∃ A c, e = .returned (.slice A ys.length c) ∧ ys.length ≤ c ∧ Kd.C (Kd.int .u8) w' A ys.length ys ∧ Below w.heap.size w w'
set_option maxHeartbeats 8000000 in
theorem lay_0 (s : Nat) (n : Int) (A : Option Addr) (bn c : Nat) (w : World) (hn0 : 0 ≤ n) (hn1 : n ≤ 18446744073709551615) (h8 : s ≤ 8) :
    Calls Try.prog 44 #[.agg #[.int .u64 n, .slice A bn c], .agg #[.int .i64 0, .int .i64 (s : Int)]] w (LayPost (numB s n) w) := by
  have HMK := Aside0.mk (fun W => make_bytes W s (by omega))
  have HLN := Aside0.mk (numB_len s n)
  have HG := Aside0.mk (numB_get s n)
  have hs8 : (s : Int) ≤ 8 := by omega
  generalize hys : numB s n = ys at *
  clear hys
  go_enter Try.func44, Try.ntmps44
  go_wp2_with ((with_reducible refine gate_dst (N := 13) rfl ?_); refine Kd.event_run rfl (exec_make rfl rfl rfl (HMK.out _)) ?_)
  go_loopg [16] s (fun kq v16 w' => ∃ i : Nat, Aside0 (kq + i = s) ∧ v16 = .int .i64 (i : Int) ∧ Aside0 (w'.heap[w.heap.size]? = some (.cells #[.int .u64 n, .slice A bn c] 53 (0, 0)) ∧ w'.heap[w.heap.size + 1]? = some (.cells #[.int .i64 0, .int .i64 (s : Int)] 68 (0, 0)) ∧ w'.heap[w.heap.size + 1 + 1]? = some (.cells (nums .u8 (ys.take i ++ List.replicate (s - i) 0)).toArray 5 (0, 0)) ∧ Below w.heap.size w w'))
  case atStart =>
    refine ⟨0, ⟨by simp⟩, rfl, ⟨blk_alloc (blk_alloc (blk_new w _) _) _, blk_alloc (blk_new_at (alloc_size _ _).symm) _, blk_new_at (by rw [alloc_size, alloc_size]), below_alloc (below_alloc (below_alloc (Below.refl _ _) _) _) _⟩⟩
  case round =>
    obtain ⟨i, HK, rfl, HI⟩ := hrel
    cases gk with
    | zero =>
      obtain rfl : i = s := by have := HK.out; omega
      obtain ⟨b0, b1, b2, hB⟩ := HI.out
      rw [List.take_of_length_le (by rw [HLN.out]; exact Nat.le_refl _), Nat.sub_self, List.replicate_zero, List.append_nil] at b2
      have hC := C_new b2 (by rw [HLN.out]; omega)
      have HF : Aside0 (LayPost ys w (.returned (.slice (some ⟨w.heap.size + 1 + 1, 0, none⟩) i i)) wr) := ⟨⟨some ⟨w.heap.size + 1 + 1, 0, none⟩, i, by rw [HLN.out], by rw [HLN.out]; exact Nat.le_refl _, hC, hB⟩⟩
      clear b0 b1 b2 hB hC HI
      go_wp2_with fail
      go_ret
      exact HF.out
    | succ kq =>
      have hi : i < s := by have := HK.out; omega
      have hi2 : ((i : Nat) : Int) < ((s : Nat) : Int) := by omega
      obtain ⟨b0, b1, b2, hB⟩ := HI.out
      have c0 := blk_cell b0 0
      have c1 := blk_cell b1 1
      have hlt : (nums .u8 (ys.take i ++ List.replicate (s - i) 0)).toArray.size = s := by simp [nums]; have := HLN.out; omega
      obtain ⟨y, c2⟩ : ∃ y, wr.cell? ⟨w.heap.size + 1 + 1, i, none⟩ = some y := ⟨_, by rw [blk_cell b2]; exact Array.getElem?_eq_getElem (by omega)⟩
      have f2 := blk_frozen b2 i
      have HS := Aside0.mk (put_byte HLN.out hi)
      clear b0 b1 b2 hB hlt
      go_wp2_with fail
      go_roundg kq
      case measure => omega
      case rel =>
        refine ⟨i + 1, ⟨by have := HK.out; omega⟩, by first | rfl | go_num, ⟨?_⟩⟩
        obtain ⟨b0, b1, b2, hB⟩ := HI.out
        rw [← HG.out i hi, ← HS.out]
        refine ⟨blk_far b0 (by simp; omega) _, blk_far b1 (by simp) _, ?_, hB.grown (setCells_grown wr (w.heap.size + 1 + 1) [.int .u8 (ys.getD i 0)] i) hB.size (fun k hk => by injection hk with hk; omega)⟩
        rw [blk_set b2]
set_option maxHeartbeats 4000000 in
theorem lay_z (k : Int) (hk : k = 2 ∨ k = 3) (s : Nat) (n : Int) (A : Option Addr) (bn c : Nat) (w : World) (hs : s ≤ 140737488351232) :
    Calls Try.prog 44 #[.agg #[.int .u64 n, .slice A bn c], .agg #[.int .i64 k, .int .i64 (s : Int)]] w (LayPost (List.replicate s 0) w) := by
  have HMK := Aside0.mk (fun W => make_bytes W s hs)
  have HL : Aside0 ((List.replicate s (0 : Int)).length = s) := ⟨by simp⟩
  have HF : Aside0 (∀ W g, g = W.heap.size → Below w.heap.size w W → LayPost (List.replicate s 0) w (.returned (.slice (some ⟨g, 0, none⟩) s s)) (W.alloc (.cells (nums .u8 (List.replicate s 0)).toArray 5))) :=
    ⟨fun W g hg hW => ⟨some ⟨g, 0, none⟩, s, by rw [HL.out], by rw [HL.out]; exact Nat.le_refl _, C_new (blk_new_at hg) (by rw [HL.out]; omega), below_alloc hW _⟩⟩
  rcases hk with rfl | rfl <;> (
    go_enter Try.func44, Try.ntmps44
    go_wp2_with ((with_reducible refine gate_dst (N := 39) rfl ?_); refine Kd.event_run rfl (exec_make rfl rfl rfl (HMK.out _)) ?_)
    go_ret
    exact HF.out _ _ (by rw [alloc_size, alloc_size]) (below_alloc (below_alloc (Below.refl _ _) _) _))
set_option maxHeartbeats 4000000 in
theorem lay_b (k s n : Int) (A : Option Addr) (bs : List Int) (c : Nat) (w : World) (h0 : k ≠ 0) (h2 : k ≠ 2) (h3 : k ≠ 3) (hr : Kd.C (Kd.int .u8) w A bs.length bs) (hc : bs.length ≤ c) :
    Calls Try.prog 44 #[.agg #[.int .u64 n, .slice A bs.length c], .agg #[.int .i64 k, .int .i64 s]] w (LayPost bs w) := by
  have q0 : (k == 0) = false := by simpa using h0
  have q2 : (k == 2) = false := by simpa using h2
  have q3 : (k == 3) = false := by simpa using h3
  have HR := Aside0.mk (And.intro hr hc)
  have HF : Aside0 (∀ W, Below w.heap.size w W → LayPost bs w (.returned (.slice A bs.length c)) W) := ⟨fun W hW => ⟨A, c, rfl, HR.out.2, Kd.C_below HR.out.1 hW, hW⟩⟩
  clear h0 h2 h3 hr hc
  generalize bs.length = bl at *
  go_enter Try.func44, Try.ntmps44
  go_wp2_with fail
  go_ret
  exact HF.out _ (below_alloc (below_alloc (Below.refl _ _) _) _)
theorem lay_any (k s n : Int) (A : Option Addr) (bs : List Int) (c : Nat) (w : World) (hn0 : 0 ≤ n) (hn1 : n ≤ 18446744073709551615) (hf : fitsP k s n bs.length = true) (hs : s ≤ 65535) (hr : Kd.C (Kd.int .u8) w A bs.length bs) (hc : bs.length ≤ c) :
    Calls Try.prog 44 #[.agg #[.int .u64 n, .slice A bs.length c], .agg #[.int .i64 k, .int .i64 s]] w (LayPost (layB k s n bs) w) := by
  have h0 := fits_s hf
  obtain ⟨sn, rfl⟩ : ∃ sn : Nat, s = (sn : Int) := ⟨s.toNat, by omega⟩
  unfold layB
  rw [Int.toNat_natCast]
  by_cases hk : k = 0
  · subst hk
    rw [if_pos rfl]
    have : (sn : Int) ≤ 8 := by unfold fitsP at hf; rw [if_pos rfl] at hf; exact (of_decide_eq_true hf).2.1
    exact lay_0 sn n A bs.length c w hn0 hn1 (by omega)
  · rw [if_neg hk]
    by_cases hz : k = 2 ∨ k = 3
    · rw [if_pos hz]; exact lay_z k hz sn n A bs.length c w (by omega)
    · rw [if_neg hz]; exact lay_b k sn n A bs c w hk (fun h => hz (.inl h)) (fun h => hz (.inr h)) hr hc
end Go.Proofs.Ytjidoedlmpjmnaa.Cur
namespace Go.Proofs.Ytjidoedlmpjmnaa.Cur
open Go.RowKit Go.Proofs.Ytjidoedlmpjmnaa.Segs Go.Proofs.Ytjidoedlmpjmnaa.Own Go.Proofs.Ytjidoedlmpjmnaa.CurP Go.Proofs.Ytjidoedlmpjmnaa.Mem Go.Proofs.Ytjidoedlmpjmnaa.Bits Go.Proofs.Ytjidoedlmpjmnaa.Help Go.Proofs.YtjidoedlmpjmnaaW.PrintWords Go.Proofs.YtjidoedlmpjmnaaW.PrintLast Go.Proofs.YtjidoedlmpjmnaaW.PrintMore
set_option linter.unusedVariables false
set_option linter.unusedSimpArgs false
theorem step_run {P : Program} {ops : Array Oper} {o : Oper} {a : Act} {Kc : Act → World → Prop} {Q : Exit → Act → World → Prop} {W w1 : World} {v : Value} {R : Prop} (hw : Region.wanted o (yielded ops a.tmps) = true) (hrun : (execOp a.eval o).run P W = .ok (.value v) w1) (h : Kc (a.put o.dst v) w1) :
    if Region.wanted o (yielded ops a.tmps) = true then Oper.wp P o a W Kc Q else R := by
  rw [if_pos hw]; unfold Oper.wp; rw [hrun]; exact h
theorem val_load {w : World} {A : Option Addr} {l : List (Int × List Int)} (h : dV.C w A l.length l) (i : Nat) (hi : i < l.length) :
    ∃ ad B c, A = some ad ∧ (loadVar 53 (ad.add (i * 2))).run Try.prog w = .ok (.agg #[.int .u64 l[i].1, .slice B l[i].2.length c]) w ∧ w.cell? ⟨(ad.add (i * 2)).block, (ad.add (i * 2)).off + 1, none⟩ = some (.slice B l[i].2.length c) ∧ l[i].2.length ≤ c ∧ Kd.C (Kd.int .u8) w B l[i].2.length l[i].2 := by
  obtain ⟨ad, c, h1, h2, h3, h4⟩ := Kd.C_get h (0, []) (i : Int) (by omega) (by omega)
  obtain ⟨c0, c1, rfl, h5, h6⟩ := h3
  rw [Int.toNat_natCast] at *
  have hg : l.getD i (0, []) = l[i] := by rw [List.getD_eq_getElem?_getD, List.getElem?_eq_getElem hi]; rfl
  rw [hg] at h5 h6
  have h5' : c0 = [.int .u64 l[i].1] := h5
  obtain ⟨B, c, rfl, h7, h8⟩ := h6
  subst h5'
  exact ⟨ad, B, c, h1, load_at (cs := [_, _]) (fun j v hj => by have := h4 j v hj; rw [Deep.add_add]; exact this) Try.underlying53 rfl infoV rfl, by have := h4 1 _ rfl; rw [← Deep.add_add] at this; exact this, h7, h8⟩
theorem val_load_all {w : World} {A : Option Addr} {l : List (Int × List Int)} (h : dV.C w A l.length l) (i : Nat) (hi : i < l.length) :
    ∃ ad B c, A = some ad ∧ l[i].2.length ≤ c ∧ Kd.C (Kd.int .u8) w B l[i].2.length l[i].2 ∧ ∀ W, Below w.heap.size w W → (loadVar 53 (ad.add (i * 2))).run Try.prog W = .ok (.agg #[.int .u64 l[i].1, .slice B l[i].2.length c]) W ∧ W.cell? (ad.add (i * 2)) = some (.int .u64 l[i].1) ∧ W.cell? ⟨(ad.add (i * 2)).block, (ad.add (i * 2)).off + 1, none⟩ = some (.slice B l[i].2.length c) := by
  obtain ⟨ad, c, h1, h2, h3, h4⟩ := Kd.C_get h (0, []) (i : Int) (by omega) (by omega)
  obtain ⟨c0, c1, rfl, h5, h6⟩ := h3
  rw [Int.toNat_natCast] at *
  have hg : l.getD i (0, []) = l[i] := by rw [List.getD_eq_getElem?_getD, List.getElem?_eq_getElem hi]; rfl
  rw [hg] at h5 h6
  have h5' : c0 = [.int .u64 l[i].1] := h5
  obtain ⟨B, c, rfl, h7, h8⟩ := h6
  subst h5'
  exact ⟨ad, B, c, h1, h7, h8, fun W hW => ⟨load_at (cs := [_, _]) (fun j v hj => by have := pw_cell_below hW (h4 j v hj); rw [Deep.add_add]; exact this) Try.underlying53 rfl infoV rfl, pw_cell_below hW (h4 0 _ rfl), by have := pw_cell_below hW (h4 1 _ rfl); rw [← Deep.add_add] at this; exact this⟩⟩
structure LayF (w0 W : World) (go gv gt ge : Nat) (Al : Option Addr) (cl : Nat) (l : List (Int × Int)) (Av : Option Addr) (cv : Nat) (vs : List (Int × List Int)) (v : Value) (acc : List Int) : Prop where
  o : W.heap[go]? = some (.cells #[.slice Al l.length cl] 58 (0, 0))
  vv : W.heap[gv]? = some (.cells #[.slice Av vs.length cv] 57 (0, 0))
  out : W.heap[gt]? = some (.cells #[v] 25 (0, 0))
  er : W.heap[ge]? = some (.cells #[.int .i64 0] 30 (0, 0))
  own : Owns W w0.heap.size v acc
  b : Below w0.heap.size w0 W
section
variable {w0 W W1 : World} {go gv gt ge : Nat} {Al : Option Addr} {cl : Nat} {l : List (Int × Int)} {Av : Option Addr} {cv : Nat} {vs : List (Int × List Int)} {v : Value} {acc : List Int}
theorem LayF.below (h : LayF w0 W go gv gt ge Al cl l Av cv vs v acc) (hB : Below W.heap.size W W1) : LayF w0 W1 go gv gt ge Al cl l Av cv vs v acc :=
  ⟨blk_below h.o hB, blk_below h.vv hB, blk_below h.out hB, blk_below h.er hB, h.own.below hB, below_step h.b hB⟩
theorem LayF.put {v1 : Value} {acc1 : List Int} (h : LayF w0 W go gv gt ge Al cl l Av cv vs v acc) (hO : Owns W1 w0.heap.size v1 acc1) (hg : W.grownBy W1 v.ownBlock) (hgt : w0.heap.size ≤ gt) : LayF w0 (W1.setCell ⟨gt, 0, none⟩ v1) go gv gt ge Al cl l Av cv vs v1 acc1 := by
  have ho := blk_grown h.o hg (h.own.ne h.o (by decide))
  have hv := blk_grown h.vv hg (h.own.ne h.vv (by decide))
  have ht := blk_grown h.out hg (h.own.ne h.out (by decide))
  have he := blk_grown h.er hg (h.own.ne h.er (by decide))
  have hs := setCells_grown W1 gt [v1] 0
  have hB1 : Below w0.heap.size w0 W1 := h.own.keeps h.b hg
  refine ⟨blk_far ho (by simpa using blk_ne ho ht (by decide)) _, blk_far hv (by simpa using blk_ne hv ht (by decide)) _, ?_, blk_far he (by simpa using blk_ne he ht (by decide)) _, hO.kept hs (hO.apart ht (by decide)), hB1.grown hs hB1.size (fun k hk => by injection hk with hk; omega)⟩
  exact blk_set ht 0 v1
end
def LayE (w0 : World) (go gv gt ge : Nat) (Al : Option Addr) (cl : Nat) (l : List (Int × Int)) (Av : Option Addr) (cv : Nat) (vs : List (Int × List Int)) (k : Int) (W : World) : Prop :=
  ∃ v, LayF w0 W go gv gt ge Al cl l Av cv vs v (layS [] l vs).2 ∧ k = (layS [] l vs).1
def LayG (w0 W : World) (go gv gt ge : Nat) (Al : Option Addr) (cl : Nat) (l : List (Int × Int)) (Av : Option Addr) (cv : Nat) (vs : List (Int × List Int)) (i : Nat) : Prop :=
  ∃ v acc, LayF w0 W go gv gt ge Al cl l Av cv vs v acc ∧ layS [] l vs = layS acc (l.drop i) (vs.drop i) ∧ acc.length ≤ 65535
theorem max_if (a b : Int) : (if a < b then b else a) = max a b := by rw [Int.max_def]; split <;> split <;> omega
theorem dPast9 (j : Nat) (hj : 9 ≤ j) : (j == 7 || j == 8) = false := by simp; omega
set_option maxHeartbeats 16000000 in
theorem lay1_any (w0 W : World) (go gv gt ge : Nat) (Al : Option Addr) (cl : Nat) (l : List (Int × Int)) (Av : Option Addr) (cv : Nat) (vs : List (Int × List Int))
    (hF : LayF w0 W go gv gt ge Al cl l Av cv vs (.slice none 0 0) []) (hgt : w0.heap.size ≤ gt) (ho : dO.C w0 Al l.length l) (hlc : l.length ≤ cl) (hv : dV.C w0 Av vs.length vs) (hvc : vs.length ≤ cv) (hlen : vs.length = l.length) (hl : l.length ≤ 4096)
    (hlb : ∀ o ∈ l, -9223372036854775808 ≤ o.2 ∧ o.2 ≤ 9223372036854775807) (hvb : ∀ v ∈ vs, 0 ≤ v.1 ∧ v.1 ≤ 18446744073709551615) :
    Calls Try.prog 42 #[.pointer (some ⟨go, 0, none⟩), .pointer (some ⟨gv, 0, none⟩), .pointer (some ⟨gt, 0, none⟩)] W fun e W' => (e = .returned (.tuple #[]) ∧ LayE w0 go gv gt ge Al cl l Av cv vs 0 W') ∨ ∃ k, e = stops k ∧ LayE w0 go gv gt ge Al cl l Av cv vs k W' := by
  have H := Aside0.mk (And.intro hgt (And.intro hlb hvb))
  have HO := Aside0.mk (And.intro ho hlc)
  have HV := Aside0.mk (And.intro hv hvc)
  have cl0 := blk_cell hF.o 0
  have HF := Aside0.mk hF
  have hll : (l.length : Int) ≤ 4096 := by omega
  have HLEN := Aside0.mk hlen
  have hlc2 : ((l.length : Nat) : Int) ≤ (cl : Int) := by omega
  have hvl : ((vs.length : Nat) : Int) = ((l.length : Nat) : Int) := by omega
  clear hF hgt hlb hvb ho hlc hv hvc hlen hl
  have HVL := Aside0.mk hvl
  clear hvl
  go_enter Try.func42, Try.ntmps42
  go_wp2_with fail
  go_loopg [7] l.length (fun kq v7 w' => ∃ i : Nat, Aside0 (kq + i = l.length) ∧ v7 = .int .i64 (i : Int) ∧ Aside0 (LayG w0 w' go gv gt ge Al cl l Av cv vs i))
  case atStart => exact ⟨0, ⟨by simp⟩, rfl, ⟨_, _, HF.out, by simp, by simp⟩⟩
  case round =>
    clear HF cl0
    obtain ⟨i, HK, rfl, HS⟩ := hrel
    cases gk with
    | zero =>
      have hi : i = l.length := by have := HK.out; omega
      subst hi
      have HE : Aside0 (LayE w0 go gv gt ge Al cl l Av cv vs 0 wr) := ⟨by
        obtain ⟨v, acc, h1, h2, h3⟩ := HS.out
        rw [List.drop_length] at h2
        have h2' : layS [] l vs = (0, acc) := by rw [h2, layS]
        exact ⟨v, by rw [h2']; exact h1, by rw [h2']⟩⟩
      clear HS
      go_wp2_with fail
      exact bodyPost_end (results_none rfl _ _ _) rfl (.inl ⟨rfl, HE.out⟩)
    | succ kq =>
      have hi : i < l.length := by have := HK.out; omega
      have hiv : i < vs.length := by have := HLEN.out; omega
      have hi2 : ((i : Nat) : Int) < ((l.length : Nat) : Int) := by omega
      have hi3 : ((i : Nat) : Int) < ((vs.length : Nat) : Int) := by omega
      obtain ⟨v, acc, hF, hR, hal⟩ := HS.out
      obtain ⟨ad, rfl, hld⟩ := op_load (Kd.C_below HO.out.1 hF.b) i hi
      have hdrop : layS acc (l.drop i) (vs.drop i) = layS acc ((l[i].1, l[i].2) :: l.drop (i + 1)) ((vs[i].1, vs[i].2) :: vs.drop (i + 1)) := by rw [List.drop_eq_getElem_cons hi, List.drop_eq_getElem_cons hiv]
      have hlg : l.getD i (0, 0) = l[i] := by rw [List.getD_eq_getElem?_getD, List.getElem?_eq_getElem hi]; rfl
      rw [hlg] at hld
      obtain ⟨adv, B, bc, hAv, hbc, hbr0, hvld⟩ := val_load_all HV.out.1 i hiv
      have HBR := Aside0.mk hbr0
      have hsb := H.out.2.1 l[i] (List.getElem_mem hi)
      have hnb := H.out.2.2 vs[i] (List.getElem_mem hiv)
      have HLD := Aside0.mk hld
      have HVLD := Aside0.mk hvld
      have HF := Aside0.mk hF
      have HR := Aside0.mk (hR.trans hdrop)
      clear hld hF hR hdrop hlg HS hvld hbr0
      subst hAv
      generalize l[i].1 = k at *
      generalize l[i].2 = s at *
      generalize vs[i].1 = n at *
      generalize vs[i].2 = bs at *
      go_wp2_with ((with_reducible refine gate_dst (N := 11) rfl ?_); refine Kd.event_run rfl (exec_load rfl rfl HLD.out) ?_)
      clear HLD
      go_wp2_with fail
      have hF4 := HF.out.below (below_alloc (Below.refl wr.heap.size wr) (.cells #[.int .i64 k, .int .i64 s] 68))
      have hb4 := blk_new wr (.cells #[.int .i64 k, .int .i64 s] 68)
      clear HF
      generalize wr.alloc (.cells #[.int .i64 k, .int .i64 s] 68) = W4 at *
      generalize wr.heap.size = g4 at *
      have hF5 := hF4.below (below_drew (Below.refl _ _))
      have hb5 := blk_drew hb4
      clear hF4 hb4
      have hvl1 := (HVLD.out W4.drew hF5.b).1
      have hl4 : (loadVar 68 ⟨g4, 0, none⟩).run Try.prog W4.drew = .ok (.agg #[.int .i64 k, .int .i64 s]) W4.drew := seg_whole (segs := [[.int .i64 k], [.int .i64 s]]) hb5 Try.underlying68 rfl infoO rfl
      have hlv : (loadVar 57 ⟨gv, 0, none⟩).run Try.prog W4.drew = .ok (.slice (some adv) vs.length cv) W4.drew := load_one (blk_cell hF5.vv 0) Try.underlying57 rfl
      refine RegionI.region_I (S := fun X => (loadVar 68 ⟨g4, 0, none⟩).run Try.prog X = .ok (.agg #[.int .i64 k, .int .i64 s]) X ∧ (loadVar 57 ⟨gv, 0, none⟩).run Try.prog X = .ok (.slice (some adv) vs.length cv) X ∧ (loadVar 53 (adv.add (i * 2))).run Try.prog X = .ok (.agg #[.int .u64 n, .slice B bs.length bc]) X) (D := fun j => j == 5 || j == 6) (by kernel_rfl) ⟨hl4, hlv, hvl1⟩ ?_
      intro hS
      have HX := Aside0.mk (And.intro hF5 hb5)
      clear hl4 hlv hvl1 hF5 hb5
      generalize W4.drew = V at *
      refine RegionI.wpAnyI_take (i := 0) (v := .agg #[.int .i64 k, .int .i64 s]) rfl (by kernel_rfl) (by kernel_rfl) (by kernel_rfl) (by kernel_rfl) (by kernel_rfl) dPast (fun _ _ _ h => h) (by rfl) (fun w hw => exec_load rfl rfl hw.1) hS ?_
      refine RegionI.wpAnyI_take (i := 1) (v := .slice (some adv) vs.length cv) rfl (by kernel_rfl) (by kernel_rfl) (by kernel_rfl) (by kernel_rfl) (by kernel_rfl) dPast (fun _ _ _ h => h) (by rfl) (fun w hw => exec_load rfl rfl hw.2.1) hS ?_
      refine RegionI.wpAnyI_take (i := 2) (v := ?_) rfl (by kernel_rfl) (by kernel_rfl) (by kernel_rfl) (by kernel_rfl) (by kernel_rfl) dPast (fun _ _ _ h => h) (by rfl) ?_ hS ?_
      rotate_left
      · (intro X hX; obtain ⟨hx0, hx1⟩ := hX; go_simp; try with_reducible rfl)
      refine RegionI.wpAnyI_take (i := 3) (v := ?_) rfl (by kernel_rfl) (by kernel_rfl) (by kernel_rfl) (by kernel_rfl) (by kernel_rfl) dPast (fun _ _ _ h => h) (by rfl) ?_ hS ?_
      rotate_left
      · (intro X hX; obtain ⟨hx0, hx1⟩ := hX; go_simp; try with_reducible rfl)
      refine RegionI.wpAnyI_take (i := 4) (v := .agg #[.int .u64 n, .slice B bs.length bc]) rfl (by kernel_rfl) (by kernel_rfl) (by kernel_rfl) (by kernel_rfl) (by kernel_rfl) dPast (fun _ _ _ h => h) (by rfl) (fun w hw => exec_load rfl rfl hw.2.2) hS ?_
      clear hS
      have HFIT := Aside0.mk (opfits_any k s n B bs.length bc V hnb.1 hnb.2)
      cases hf : fitsP k s n bs.length with
      | false =>
        rw [hf] at HFIT
        refine RegionI.wpAnyI_one (i := 5) (by kernel_rfl) rfl (fun K hK => ?_)
        go_simp
        refine HFIT.out.mono ?_
        rintro e w1 ⟨rfl, hB⟩
        refine hK _ _ ⟨fun h => absurd h (by decide), ?_⟩
        clear hK K
        refine RegionI.wpAnyI_one (i := 6) (by kernel_rfl) rfl (fun K hK => ?_)
        go_simp
        refine hK _ _ ⟨fun h => absurd h (by decide), ?_⟩
        clear hK K
        refine RegionI.wpAnyI_done (by kernel_rfl) ?_ _
        have HE : Aside0 (LayE w0 go gv gt ge (some ad) cl l (some adv) cv vs 1 w1) := ⟨by
          have h1 : layS [] l vs = (1, acc) := by rw [HR.out, layS, if_pos hf]
          exact ⟨v, by rw [h1]; exact HX.out.1.below hB, by rw [h1]⟩⟩
        clear hB hf HX HFIT
        go_wp2_with fail
        exact ⟨rfl, .inr ⟨_, rfl, HE.out⟩⟩
      | true =>
        have hs0 := fits_s hf
        rw [hf] at HFIT
        refine RegionI.wpAnyI_one (i := 5) (by kernel_rfl) rfl (fun K hK => ?_)
        go_simp
        refine HFIT.out.mono ?_
        rintro e w1 ⟨rfl, hB⟩
        refine hK _ _ ⟨fun h => absurd h (by decide), ?_⟩
        clear hK K
        refine RegionI.wpAnyI_one (i := 6) (by kernel_rfl) rfl (fun K hK => ?_)
        go_simp
        refine hK _ _ ⟨fun h => absurd h (by decide), ?_⟩
        clear hK K
        refine RegionI.wpAnyI_done (by kernel_rfl) ?_ _
        have hF6 := HX.out.1.below hB
        have hb6 := blk_below HX.out.2 hB
        have hvc2 := (HVLD.out w1 hF6.b).2.2
        have HF := Aside0.mk (And.intro hF6 hb6)
        have hf' := Aside0.mk hf
        have e4 := blk_cell hb6 1
        have ev := blk_cell hF6.vv 0
        obtain ⟨oa, oc, hv, hoc, -⟩ := hF6.own.reads (by omega)
        subst hv
        have eo := blk_cell hF6.out 0
        have hal2 : (acc.length : Int) ≤ 65535 := by omega
        have hbl2 : (bs.length : Int) ≤ 9223372036854775807 := by have := Kd.C_max HBR.out; omega
        clear hF6 hb6 HX HFIT hB hf
        obtain ⟨m, hmv, hmd⟩ : ∃ m : Int, (if s < (bs.length : Int) then (bs.length : Int) else s) = m ∧ Aside0 (m = max s (bs.length : Int)) := ⟨_, rfl, ⟨max_if _ _⟩⟩
        by_cases hm : max s (bs.length : Int) > 65535 - (acc.length : Int)
        · have hd : decide (65535 - (acc.length : Int) < m) = true := by rw [hmd.out]; simpa using hm
          have HE : ∀ q, Aside0 (LayE w0 go gv gt ge (some ad) cl l (some adv) cv vs 3 (w1.drewN q)) := fun q => ⟨by
            have h1 : layS [] l vs = (3, acc) := by rw [HR.out, layS, if_neg (by rw [hf'.out]; decide), if_pos hm]
            exact ⟨_, by rw [h1]; exact HF.out.1.below (pw_below_drewN (Below.refl _ _) q), by rw [h1]⟩⟩
          have HE := Aside0.mk HE
          clear hm HF hf'
          go_wp2_with fail
          go_quiet (fail)
          go_wp2_with fail
          exact ⟨rfl, .inr ⟨_, rfl, (HE.out _).out⟩⟩
        · have hd : decide (65535 - (acc.length : Int) < m) = false := by rw [hmd.out]; simpa using hm
          have hbl3 := layB_len hf'.out
          have HR3 : Aside0 (layS [] l vs = layS (acc ++ layB k s n bs) (l.drop (i + 1)) (vs.drop (i + 1)) ∧ (acc ++ layB k s n bs).length ≤ 65535) := ⟨by rw [HR.out, layS, if_neg (by rw [hf'.out]; decide), if_neg hm], by rw [List.length_append]; omega⟩
          have hs5 : s ≤ 65535 := by omega
          have HS5 := Aside0.mk (And.intro hs5 hbl3)
          clear hm hs5 hbl3
          go_wp2_with fail
          go_quiet (fail)
          go_wp2_with fail
          generalize hW7 : World.drewN w1 _ = W7
          have hF7 : LayF w0 W7 go gv gt ge (some ad) cl l (some adv) cv vs (.slice oa acc.length oc) acc := hW7 ▸ HF.out.1.below (pw_below_drewN (Below.refl w1.heap.size w1) _)
          have hb7 : W7.heap[g4]? = some (.cells #[.int .i64 k, .int .i64 s] 68 (0, 0)) := hW7 ▸ blk_drewN HF.out.2 _
          clear HF e4 ev eo hd hvc2 hW7
          have hF8 := hF7.below (below_drew (Below.refl _ _))
          have hb8 := blk_drew hb7
          clear hF7 hb7
          have hS0 : ∀ X, LayF w0 X go gv gt ge (some ad) cl l (some adv) cv vs (.slice oa acc.length oc) acc → X.heap[g4]? = some (.cells #[.int .i64 k, .int .i64 s] 68 (0, 0)) →
              (loadVar 68 ⟨g4, 0, none⟩).run Try.prog X = .ok (.agg #[.int .i64 k, .int .i64 s]) X ∧ (loadVar 57 ⟨gv, 0, none⟩).run Try.prog X = .ok (.slice (some adv) vs.length cv) X ∧ (loadVar 53 (adv.add (i * 2))).run Try.prog X = .ok (.agg #[.int .u64 n, .slice B bs.length bc]) X ∧ (loadVar 25 ⟨gt, 0, none⟩).run Try.prog X = .ok (.slice oa acc.length oc) X :=
            fun X h1 h2 => ⟨seg_whole (segs := [[.int .i64 k], [.int .i64 s]]) h2 Try.underlying68 rfl infoO rfl, load_one (blk_cell h1.vv 0) Try.underlying57 rfl, (HVLD.out X h1.b).1, load_one (blk_cell h1.out 0) Try.underlying25 rfl⟩
          refine RegionI.region_I (S := fun X => (loadVar 68 ⟨g4, 0, none⟩).run Try.prog X = .ok (.agg #[.int .i64 k, .int .i64 s]) X ∧ (loadVar 57 ⟨gv, 0, none⟩).run Try.prog X = .ok (.slice (some adv) vs.length cv) X ∧ (loadVar 53 (adv.add (i * 2))).run Try.prog X = .ok (.agg #[.int .u64 n, .slice B bs.length bc]) X ∧ (loadVar 25 ⟨gt, 0, none⟩).run Try.prog X = .ok (.slice oa acc.length oc) X) (D := fun j => j == 7 || j == 8) (by kernel_rfl) (hS0 _ hF8 hb8) ?_
          intro hS
          have HX := Aside0.mk (And.intro hF8 hb8)
          have HS0 := Aside0.mk hS0
          clear hF8 hb8 hS0
          generalize W7.drew = V2 at *
          refine RegionI.wpAnyI_take (i := 0) (v := .slice oa acc.length oc) rfl (by kernel_rfl) (by kernel_rfl) (by kernel_rfl) (by kernel_rfl) (by kernel_rfl) dPast9 (fun _ _ _ h => h) (by rfl) (fun w hw => exec_load rfl rfl hw.2.2.2) hS ?_
          refine RegionI.wpAnyI_take (i := 1) (v := .slice (some adv) vs.length cv) rfl (by kernel_rfl) (by kernel_rfl) (by kernel_rfl) (by kernel_rfl) (by kernel_rfl) dPast9 (fun _ _ _ h => h) (by rfl) (fun w hw => exec_load rfl rfl hw.2.1) hS ?_
          refine RegionI.wpAnyI_take (i := 2) (v := ?_) rfl (by kernel_rfl) (by kernel_rfl) (by kernel_rfl) (by kernel_rfl) (by kernel_rfl) dPast9 (fun _ _ _ h => h) (by rfl) ?_ hS ?_
          rotate_left
          · (intro X hX; obtain ⟨hx0, hx1⟩ := hX; go_simp; try with_reducible rfl)
          refine RegionI.wpAnyI_take (i := 3) (v := ?_) rfl (by kernel_rfl) (by kernel_rfl) (by kernel_rfl) (by kernel_rfl) (by kernel_rfl) dPast9 (fun _ _ _ h => h) (by rfl) ?_ hS ?_
          rotate_left
          · (intro X hX; obtain ⟨hx0, hx1⟩ := hX; go_simp; try with_reducible rfl)
          refine RegionI.wpAnyI_take (i := 4) (v := .agg #[.int .u64 n, .slice B bs.length bc]) rfl (by kernel_rfl) (by kernel_rfl) (by kernel_rfl) (by kernel_rfl) (by kernel_rfl) dPast9 (fun _ _ _ h => h) (by rfl) (fun w hw => exec_load rfl rfl hw.2.2.1) hS ?_
          refine RegionI.wpAnyI_take (i := 5) (v := .agg #[.int .i64 k, .int .i64 s]) rfl (by kernel_rfl) (by kernel_rfl) (by kernel_rfl) (by kernel_rfl) (by kernel_rfl) dPast9 (fun _ _ _ h => h) (by rfl) (fun w hw => exec_load rfl rfl hw.1) hS ?_
          clear hS
          have HLAY := Aside0.mk (lay_any k s n B bs bc V2 hnb.1 hnb.2 hf'.out HS5.out.1 (Kd.C_below HBR.out HX.out.1.b) hbc)
          generalize hys : layB k s n bs = ys at *
          clear hys
          refine RegionI.wpAnyI_one (i := 6) (by kernel_rfl) rfl (fun K hK => ?_)
          go_simp
          refine HLAY.out.mono ?_
          rintro e w2 ⟨A2, c2, rfl, hac, hrd, hB⟩
          have hF9 := HX.out.1.below hB
          refine hK _ _ ⟨fun _ => HS0.out _ hF9 (blk_below HX.out.2 hB), ?_⟩
          clear hK K
          obtain ⟨v1, w3, hrun, hO1, hg1, -⟩ := append_bytes (ty := 25) (c := c2) hF9.own hrd (by have := HR3.out.2; rw [List.length_append] at this; omega) hF9.b.size
          obtain ⟨oa1, oc1, hv1, -, -⟩ := hO1.reads (by have := HR3.out.2; omega)
          subst hv1
          have co := blk_cell (blk_grown hF9.out hg1 (hF9.own.ne hF9.out (by decide))) 0
          have fo := blk_frozen (blk_grown hF9.out hg1 (hF9.own.ne hF9.out (by decide))) 0
          have HF10 := Aside0.mk (hF9.put hO1 hg1 H.out.1)
          have HRUN := Aside0.mk hrun
          clear hF9 hO1 hg1 hrd hB hrun hac
          generalize (acc ++ ys).length = al1 at HRUN HF10 co fo ⊢
          refine RegionI.wpAnyI_one (i := 7) (by kernel_rfl) rfl (fun K hK => ?_)
          refine step_run (by rfl) (exec_append rfl rfl rfl HRUN.out) ?_
          refine hK _ _ ⟨fun h => absurd h (by decide), ?_⟩
          clear hK K HRUN
          refine RegionI.wpAnyI_one (i := 8) (by kernel_rfl) rfl (fun K hK => ?_)
          go_simp
          refine hK _ _ ⟨fun h => absurd h (by decide), ?_⟩
          clear hK K
          refine RegionI.wpAnyI_done (by kernel_rfl) ?_ _
          clear co fo
          generalize World.setCell _ _ _ = Z at *
          go_wp2_with fail
          go_roundg kq
          case measure => omega
          case rel => exact ⟨i + 1, ⟨by have := HK.out; omega⟩, by first | rfl | go_num, ⟨_, _, HF10.out, HR3.out.1, HR3.out.2⟩⟩
end Go.Proofs.Ytjidoedlmpjmnaa.Cur
namespace Go.Proofs.Ytjidoedlmpjmnaa.Cur
open Go.RowKit Go.Proofs.Ytjidoedlmpjmnaa.Segs Go.Proofs.Ytjidoedlmpjmnaa.Own Go.Proofs.Ytjidoedlmpjmnaa.CurP Go.Proofs.Ytjidoedlmpjmnaa.Mem Go.Proofs.Ytjidoedlmpjmnaa.Bits Go.Proofs.Ytjidoedlmpjmnaa.Help Go.Proofs.YtjidoedlmpjmnaaW.PrintWords Go.Proofs.YtjidoedlmpjmnaaW.PrintLast Go.Proofs.YtjidoedlmpjmnaaW.PrintMore
set_option linter.unusedVariables false
set_option linter.unusedSimpArgs false
def LayR (w : World) (vs : List (Int × List Int)) (l : List (Int × Int)) (e : Ending) (w' : World) : Prop :=
  ∃ v, e = .returned (.tuple #[v, .int .i64 (layA vs l).1]) ∧ Owns w' w.heap.size v (layA vs l).2 ∧ Below w.heap.size w w'
set_option maxHeartbeats 8000000 in
theorem lay_many (w : World) (Av Al : Option Addr) (cv cl n m : Nat) (h : 4096 < n) (hn : n ≤ 9223372036854775807) :
    Calls Try.prog 25 #[.slice Av m cv, .slice Al n cl] w fun e w' => e = .returned (.tuple #[.slice none 0 0, .int .i64 3]) ∧ Below w.heap.size w w' := by
  have d : decide (4096 < (n : Int)) = true := by simp; omega
  clear h hn
  go_enter Try.func25, Try.ntmps25
  go_wp2_with fail
  go_ret2
  exact ⟨rfl, below_alloc (below_alloc (Below.refl _ _) _) _⟩
set_option maxHeartbeats 8000000 in
theorem lay_other (w : World) (Av Al : Option Addr) (cv cl n m : Nat) (h : n ≤ 4096) (hn : m ≠ n) :
    Calls Try.prog 25 #[.slice Av m cv, .slice Al n cl] w fun e w' => e = .returned (.tuple #[.slice none 0 0, .int .i64 1]) ∧ Below w.heap.size w w' := by
  have d : decide (4096 < (n : Int)) = false := by simp; omega
  have q : ((m : Int) != (n : Int)) = true := by simp; omega
  clear h hn
  go_enter Try.func25, Try.ntmps25
  go_wp2_with fail
  go_ret2
  exact ⟨rfl, below_alloc (below_alloc (Below.refl _ _) _) _⟩
set_option maxHeartbeats 8000000 in
theorem Lay_any (w : World) (Av Al : Option Addr) (cv cl : Nat) (vs : List (Int × List Int)) (l : List (Int × Int)) (hv : dV.C w Av vs.length vs) (hvc : vs.length ≤ cv) (ho : dO.C w Al l.length l) (hlc : l.length ≤ cl)
    (hlb : ∀ o ∈ l, -9223372036854775808 ≤ o.2 ∧ o.2 ≤ 9223372036854775807) (hvb : ∀ v ∈ vs, 0 ≤ v.1 ∧ v.1 ≤ 18446744073709551615) :
    Calls Try.prog 25 #[.slice Av vs.length cv, .slice Al l.length cl] w (LayR w vs l) := by
  by_cases hm : l.length > 4096
  · refine (lay_many w Av Al cv cl l.length vs.length hm (Kd.C_max ho)).mono ?_
    rintro e w' ⟨rfl, hB⟩
    unfold LayR layA
    rw [if_pos hm]
    exact ⟨_, rfl, Owns.nil _ _, hB⟩
  · by_cases hn : vs.length = l.length
    case neg =>
      refine (lay_other w Av Al cv cl l.length vs.length (by omega) hn).mono ?_
      rintro e w' ⟨rfl, hB⟩
      unfold LayR layA
      rw [if_neg hm, if_pos hn]
      exact ⟨_, rfl, Owns.nil _ _, hB⟩
    have HE : Aside0 (layA vs l = if (layS [] l vs).1 = 0 then (0, (layS [] l vs).2) else ((layS [] l vs).1, [])) := ⟨by unfold layA; rw [if_neg hm, if_neg (by simp [hn])]⟩
    have HLN := Aside0.mk (layS_len l vs [] (by simp))
    have d : decide (4096 < (l.length : Int)) = false := by simp; omega
    have q : ((vs.length : Int) != (l.length : Int)) = false := by rw [hn]; simp
    have H := Aside0.mk (And.intro hv (And.intro hvc (And.intro ho (And.intro hlc (And.intro hlb (And.intro hvb (And.intro hn (show l.length ≤ 4096 by omega))))))))
    clear hv hvc ho hlc hlb hvb hm hn
    go_enter Try.func25, Try.ntmps25
    go_wp2_with fail
    have hB : Below w.heap.size w (((w.alloc (.cells #[.slice Av vs.length cv] 57)).alloc (.cells #[.slice Al l.length cl] 58)).alloc (.cells #[.slice none 0 0] 25)) := below_alloc (below_alloc (below_alloc (Below.refl _ _) _) _) _
    have b0 : (((w.alloc (.cells #[.slice Av vs.length cv] 57)).alloc (.cells #[.slice Al l.length cl] 58)).alloc (.cells #[.slice none 0 0] 25)).heap[w.heap.size]? = some (.cells #[.slice Av vs.length cv] 57 (0, 0)) := blk_alloc (blk_alloc (blk_new w _) _) _
    have b1 : (((w.alloc (.cells #[.slice Av vs.length cv] 57)).alloc (.cells #[.slice Al l.length cl] 58)).alloc (.cells #[.slice none 0 0] 25)).heap[w.heap.size + 1]? = some (.cells #[.slice Al l.length cl] 58 (0, 0)) := blk_alloc (blk_new_at (by rw [alloc_size])) _
    have b2 : (((w.alloc (.cells #[.slice Av vs.length cv] 57)).alloc (.cells #[.slice Al l.length cl] 58)).alloc (.cells #[.slice none 0 0] 25)).heap[w.heap.size + 1 + 1]? = some (.cells #[.slice none 0 0] 25 (0, 0)) := blk_new_at (by rw [alloc_size, alloc_size])
    generalize (((w.alloc (.cells #[.slice Av vs.length cv] 57)).alloc (.cells #[.slice Al l.length cl] 58)).alloc (.cells #[.slice none 0 0] 25)) = W at *
    have hF : LayF w (W.alloc (.cells #[.int .i64 0] 30)) (w.heap.size + 1) w.heap.size (w.heap.size + 1 + 1) W.heap.size Al cl l Av cv vs (.slice none 0 0) [] :=
      ⟨blk_alloc b1 _, blk_alloc b0 _, blk_alloc b2 _, blk_new W _, Owns.nil _ _, below_alloc hB _⟩
    have hrun := lay1_any w (W.alloc (.cells #[.int .i64 0] 30)) (w.heap.size + 1) w.heap.size (w.heap.size + 1 + 1) W.heap.size Al cl l Av cv vs hF (by omega) H.out.2.2.1 H.out.2.2.2.1 H.out.1 H.out.2.1 H.out.2.2.2.2.2.2.1 H.out.2.2.2.2.2.2.2 H.out.2.2.2.2.1 H.out.2.2.2.2.2.1
    have htry := try_any 42 _ W (LayE w (w.heap.size + 1) w.heap.size (w.heap.size + 1 + 1) W.heap.size Al cl l Av cv vs) (fun w => by kernel_rfl) (fun k W ⟨v, h, _⟩ => h.er) hrun
    have hWs := hB.size
    clear hrun hF b0 b1 b2 hB d q
    refine htry.mono ?_
    rintro e w1 ⟨k, W1, rfl, ⟨v, hF, rfl⟩, hg⟩
    have hB := hF.b.grown hg hF.b.size (fun k hk => by injection hk with hk; omega)
    have hO : Owns w1 w.heap.size v (layS [] l vs).2 := hF.own.kept hg (hF.own.apart hF.er (by decide))
    have co := blk_cell (blk_grown hF.out hg (by simpa using blk_ne hF.out hF.er (by decide))) 0
    obtain ⟨oa, oc, rfl, -, -⟩ := hO.reads (by have := HLN.out; omega)
    by_cases hk : (layS [] l vs).1 = 0
    · have hf : Aside0 (LayR w vs l (.returned (.tuple #[.slice oa (layS [] l vs).2.length oc, .int .i64 0])) w1) := ⟨_, by rw [HE.out, if_pos hk], by rw [HE.out, if_pos hk]; exact hO, hB⟩
      rw [hk]
      clear hk hB hO hF hg htry
      generalize (layS [] l vs).2.length = al at *
      go_wp2_with fail
      go_ret2
      exact hf.out
    · have hf : Aside0 (LayR w vs l (.returned (.tuple #[.slice none 0 0, .int .i64 (layS [] l vs).1])) w1) := ⟨_, by rw [HE.out, if_neg hk], by rw [HE.out, if_neg hk]; exact Owns.nil _ _, hB⟩
      have qk : ((layS [] l vs).1 != 0) = true := by simpa using hk
      clear hk hB hO hF hg htry co
      generalize (layS [] l vs).1 = k at *
      go_wp2_with fail
      go_ret2
      exact hf.out
end Go.Proofs.Ytjidoedlmpjmnaa.Cur
