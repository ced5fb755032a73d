/- The walk of Sip. -/
import Derived.Test.YtjcmcjhfmcabnaaHashW4
namespace Go.Proofs.Ytjcmcjhfmcabnaa.Hash
open Go.RowKit Go.Proofs.Ytjcmcjhfmcabnaa.Bits Go.Proofs.Ytjcmcjhfmcabnaa.Help Go.Proofs.YtjcmcjhfmcabnaaW.PrintWords Go.Proofs.YtjcmcjhfmcabnaaW.PrintLast Go.Proofs.YtjcmcjhfmcabnaaW.PrintMore
set_option linter.unusedVariables false
set_option linter.unusedSimpArgs false
def start (k0 k1 : Int) : S4 := ⟨xor64 8317987319222330741 k0, xor64 7237128888997146477 k1, xor64 7816392313619706465 k0, xor64 8387220255154660723 k1⟩
/-- The first j words are gone in. -/
def eat (v : S4) (xs : List Int) : Nat → S4
  | 0 => v
  | j + 1 => inn (eat v xs j) (leW 0 0 ((xs.drop (8 * j)).take 8))
def shlen (n : Nat) : Int := IntKind.u64.wrap (IntKind.u64.wrap n * 2 ^ 56)
def fin (v : S4) (m : Int) : Int :=
  let u := inn v m
  let r := rnds 4 { u with c := xor64 u.c 255 }
  xor64 (xor64 (xor64 r.a r.b) r.c) r.d
def sip (k0 k1 : Int) (xs : List Int) : Int :=
  fin (eat (start k0 k1) xs (xs.length / 8)) (Go.bits .or .u64 (shlen xs.length) (leW 0 0 (xs.drop (8 * (xs.length / 8)))))
set_option maxRecDepth 10000 in
set_option maxHeartbeats 4000000 in
theorem Sip_any (k0 k1 : Int) (A : Option Addr) (c : Nat) (xs : List Int) (w : World) (hr : Kd.C (Kd.int .u8) w A xs.length xs) (hc : xs.length ≤ c) :
    Calls Try.prog 9 #[.int .u64 k0, .int .u64 k1, .slice A xs.length c] w fun e w' => e = .returned (.int .u64 (sip k0 k1 xs)) ∧ Below w.heap.size w w' := by
  have HR := Aside0.mk hr
  have HC := Aside0.mk hc
  have hlen : xs.length ≤ 9223372036854775807 := (Kd.reads_of_C (d := (0 : Int)) hr).2.1
  have HN := Aside0.mk hlen
  clear hr hc hlen
  go_enter Try.func9, Try.ntmps9
  go_wp2
  have hb : (w.alloc (.cells (start k0 k1).vals.toArray 43)).heap[w.heap.size]? = some _ := blk_new w _
  have hG : w.grownBy (w.alloc (.cells (start k0 k1).vals.toArray 43)) (some w.heap.size) := World.grownBy_alloc w (.cells (start k0 k1).vals.toArray 43) _
  go_loopg [8] (xs.length / 8) (fun kq v8 w' => ∃ (j : Nat) (A' : Option Addr) (c' : Nat), Aside0 (kq + j = xs.length / 8) ∧ v8 = .slice A' (xs.drop (8 * j)).length c' ∧ Aside0 ((xs.drop (8 * j)).length ≤ c') ∧ Aside0 (Kd.C (Kd.int .u8) w A' (xs.drop (8 * j)).length (xs.drop (8 * j))) ∧ Aside0 (w'.heap[w.heap.size]? = some (.cells (eat (start k0 k1) xs j).vals.toArray 43 (0, 0))) ∧ Aside0 (w.grownBy w' (some w.heap.size)))
  case atStart => exact ⟨0, A, c, ⟨rfl⟩, rfl, HC, HR, ⟨hb⟩, ⟨hG⟩⟩
  case round =>
    clear hb hG
    obtain ⟨j, A', c', HI, rfl, HC', HR', HB, HG⟩ := hrel
    have hB := Below.grown (Below.refl w.heap.size w) HG.out (Nat.le_refl _) (fun k hk => by cases hk; exact Nat.le_refl _)
    have HB' := Aside0.mk hB
    clear hB
    generalize hxs : xs.drop (8 * j) = ys at *
    have HX := Aside0.mk hxs
    clear hxs
    cases gk with
    | zero =>
      have hj : j = xs.length / 8 := by have := HI.out; omega
      have hys : ys.length < 8 := by rw [← HX.out, List.length_drop]; omega
      have hlt : decide ((ys.length : Int) ≥ 8) = false := decide_eq_false (by omega)
      go_wp2_with fail
      refine (little_any A' c' ys _ (Kd.C_below HR'.out HB'.out) (Nat.le_of_lt hys)).mono ?_
      rintro e w' ⟨rfl, rfl⟩
      go_wp2_with fail
      refine (take_any _ _ _ _ HB.out).mono ?_
      rintro e w1 ⟨rfl, hb1, hg1⟩
      have hG := HG.out.trans hg1
      clear HB HB' HG hg1
      generalize hv : inn (eat (start k0 k1) xs j) _ = u at *
      obtain ⟨a, b, c1, d⟩ := u
      obtain ⟨c0, c1', c2, c3, f0, f1, f2, f3⟩ := cells4 hb1
      have HB := Aside0.mk hb1
      have HV := Aside0.mk hv
      have HG := Aside0.mk hG
      clear hb1 hG hv
      go_wp2_with fail
      refine (rounds_v w.heap.size 4 ⟨a, b, xor64 c1 255, d⟩ _ (by decide) 4 rfl _ rfl (blk_set HB.out 2 _)).mono ?_
      rintro e w2 ⟨rfl, hb2, hg2⟩
      have hG := (HG.out.trans (setCells_grown _ w.heap.size [_] 2)).trans hg2
      clear HB HG hg2 c0 c1' c2 c3 f0 f1 f2 f3
      have hf : fin (eat (start k0 k1) xs j) (Go.bits .or .u64 (shlen xs.length) (leW 0 0 ys)) = xor64 (xor64 (xor64 (rnds 4 ⟨a, b, xor64 c1 255, d⟩).a (rnds 4 ⟨a, b, xor64 c1 255, d⟩).b) (rnds 4 ⟨a, b, xor64 c1 255, d⟩).c) (rnds 4 ⟨a, b, xor64 c1 255, d⟩).d := by
        have := HV.out
        simp only [fin]
        rw [show inn (eat (start k0 k1) xs j) (Go.bits .or .u64 (shlen xs.length) (leW 0 0 ys)) = ⟨a, b, c1, d⟩ from this]
      have HF := Aside0.mk hf
      clear hf
      generalize rnds 4 ⟨a, b, xor64 c1 255, d⟩ = r at *
      obtain ⟨A1, B1, C1, D1⟩ := r
      obtain ⟨c0, c1', c2, c3, f0, f1, f2, f3⟩ := cells4 hb2
      have HG := Aside0.mk hG
      clear hb2 hG
      go_wp2_with fail
      go_ret
      refine ⟨?_, Below.grown (Below.refl w.heap.size w) HG.out (Nat.le_refl _) (fun k hk => by cases hk; exact Nat.le_refl _)⟩
      have e1 : sip k0 k1 xs = fin (eat (start k0 k1) xs j) (Go.bits .or .u64 (shlen xs.length) (leW 0 0 ys)) := by unfold sip; rw [← hj, HX.out]
      rw [e1, HF.out]
      rfl
    | succ kq =>
      have hys : 8 ≤ ys.length := by rw [← HX.out, List.length_drop]; have := HI.out; omega
      have hcc : 8 ≤ c' := Nat.le_trans hys HC'.out
      go_wp2_with fail
      have h8 : (ys.take 8).length = 8 := by rw [List.length_take]; omega
      have hr8 := Kd.C_take (Kd.C_below HR'.out HB'.out) hys
      refine (by rw [h8] at hr8; exact (by have h := little_any A' c' (ys.take 8) wr (by rw [h8]; exact hr8) (by omega); rw [h8] at h; exact h) : Calls Try.prog 22 #[.slice A' 8 c'] wr fun e w' => e = .returned (.int .u64 (leW 0 0 (ys.take 8))) ∧ w' = wr).mono ?_
      rintro e w' ⟨rfl, rfl⟩
      clear h8 hr8
      go_wp2_with fail
      refine (take_any _ _ _ _ HB.out).mono ?_
      rintro e w1 ⟨rfl, hb1, hg1⟩
      have HB1 := Aside0.mk hb1
      have HG1 := Aside0.mk (HG.out.trans hg1)
      clear HB HG hb1 hg1
      go_wp2_with fail
      all_goals
        go_roundg kq
        case measure => omega
        case rel =>
          have hd : xs.drop (8 * (j + 1)) = ys.drop 8 := by rw [← HX.out, List.drop_drop, show 8 * j + 8 = 8 * (j + 1) by omega]
          have hD := Kd.C_drop HR'.out hys HC'.out
          have hl8 : (ys.drop 8).length = ys.length - 8 := List.length_drop
          refine ⟨j + 1, (if c' = 8 then A' else A'.map (·.add 8)), c' - 8, ⟨by have := HI.out; omega⟩, ?_, ?_, ?_, ?_, HG1⟩
          · rw [hd, hl8]
            first
            | (rw [if_pos ‹c' = 8›, show c' - 8 = 0 by have := ‹c' = 8›; omega])
            | (rw [if_neg ‹¬ c' = 8›]; rfl)
          · rw [hd, hl8]; exact ⟨by have := HC'.out; omega⟩
          · rw [hd]; exact ⟨hD⟩
          · have e : eat (start k0 k1) xs (j + 1) = inn (eat (start k0 k1) xs j) (leW 0 0 (ys.take 8)) := by simp only [eat]; rw [HX.out]
            rw [e]; exact HB1
end Go.Proofs.Ytjcmcjhfmcabnaa.Hash
