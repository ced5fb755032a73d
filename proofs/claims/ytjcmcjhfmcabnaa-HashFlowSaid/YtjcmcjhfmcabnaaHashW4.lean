/- The walks of take and little. -/
import Derived.Test.YtjcmcjhfmcabnaaHashW3
namespace Go.Proofs.Ytjcmcjhfmcabnaa.Hash
open Go.RowKit Go.Proofs.Ytjcmcjhfmcabnaa.Bits Go.Proofs.Ytjcmcjhfmcabnaa.Help Go.Proofs.YtjcmcjhfmcabnaaW.PrintWords Go.Proofs.YtjcmcjhfmcabnaaW.PrintLast Go.Proofs.YtjcmcjhfmcabnaaW.PrintMore
set_option linter.unusedVariables false
set_option linter.unusedSimpArgs false
theorem rounds_v {t : TypeId} (g n : Nat) (v : S4) (w : World) (hn : n ≤ 1000) (k : Int) (hk : k = n) (cs : Array Value) (hc : cs = v.vals.toArray) (hb0 : w.heap[g]? = some (.cells cs t (0, 0))) :
    Calls Try.prog 23 #[.pointer (some ⟨g, 0, none⟩), .int .i64 k] w fun e w' => e = .returned (.tuple #[]) ∧ w'.heap[g]? = some (.cells (rnds n v).vals.toArray t (0, 0)) ∧ w.grownBy w' (some g) := by
  subst hk; subst hc; exact rounds_any g n v w hn hb0
set_option maxRecDepth 10000 in
set_option maxHeartbeats 4000000 in
theorem take_any {t : TypeId} (g : Nat) (v : S4) (m : Int) (w : World) (hb0 : w.heap[g]? = some (.cells v.vals.toArray t (0, 0))) :
    Calls Try.prog 21 #[.pointer (some ⟨g, 0, none⟩), .int .u64 m] w fun e w' => e = .returned (.tuple #[]) ∧ w'.heap[g]? = some (.cells (inn v m).vals.toArray t (0, 0)) ∧ w.grownBy w' (some g) := by
  obtain ⟨a, b, c, d⟩ := v
  have hb : w.heap[g]? = some (.cells #[.int .u64 a, .int .u64 b, .int .u64 c, .int .u64 d] t (0, 0)) := hb0
  have hG : w.grownBy w (some g) := World.grownBy.refl _ _
  clear hb0
  go_enter Try.func21, Try.ntmps21
  go_upto_region 0 with fail
  go_cut [] from 4 to 21 (fun wx => Aside0 (wx.heap[g]? = some (.cells #[.int .u64 a, .int .u64 b, .int .u64 c, .int .u64 (xor64 d m)] t (0, 0))) ∧ Aside0 (w.grownBy wx (some g)))
  case first =>
    refine region4 8 (by kernel_rfl) (by kernel_rfl) hb ?_
    intro wq hb1 hg1
    replace hG := Aside0.mk (hG.trans hg1)
    try replace hr := Aside0.mk (blk_grown hr.out hg1 (by simp))
    clear hb hg1
    obtain ⟨c0, c1, c2, c3, f0, f1, f2, f3⟩ := cells4 hb1
    have hb := Aside0.mk hb1
    clear hb1
    simp only [List.take_succ_cons, List.take_zero, List.drop_succ_cons, List.drop_zero]
    repeat still_step
    repeat still_step
    refine wpStill_nil ?_
    go_wp2_with fail
    go_meet
    exact ⟨⟨blk_set hb.out 3 _⟩, ⟨hG.out.trans (setCells_grown _ g [_] 3)⟩⟩
  clear hb hG
  obtain ⟨hb, hG⟩ := hcut
  go_wp2_with fail
  refine (rounds_v g 2 ⟨a, b, c, xor64 d m⟩ _ (by decide) 2 rfl _ rfl hb.out).mono ?_
  rintro e w1 ⟨rfl, hb1, hg1⟩
  replace hG := hG.out.trans hg1
  clear hb hg1
  generalize hv : rnds 2 ⟨a, b, c, xor64 d m⟩ = u at *
  obtain ⟨A, B, C, D⟩ := u
  have hb : w1.heap[g]? = some (.cells #[.int .u64 A, .int .u64 B, .int .u64 C, .int .u64 D] t (0, 0)) := hb1
  clear hb1
  have HV := Aside0.mk hv
  clear hv
  go_upto_region 2 with fail
  refine region4 8 (by kernel_rfl) (by kernel_rfl) hb ?_
  intro wq hb1 hg1
  replace hG := Aside0.mk (hG.trans hg1)
  try replace hr := Aside0.mk (blk_grown hr.out hg1 (by simp))
  clear hb hg1
  obtain ⟨c0, c1, c2, c3, f0, f1, f2, f3⟩ := cells4 hb1
  have hb := Aside0.mk hb1
  clear hb1
  simp only [List.take_succ_cons, List.take_zero, List.drop_succ_cons, List.drop_zero]
  repeat still_step
  repeat still_step
  refine wpStill_nil ?_
  go_wp2_with fail
  refine bodyPost_end (results_none rfl _ _ _) rfl ⟨rfl, ?_, hG.out.trans (setCells_grown _ g [_] 0)⟩
  have e : inn ⟨a, b, c, d⟩ m = { rnds 2 ⟨a, b, c, xor64 d m⟩ with a := xor64 (rnds 2 ⟨a, b, c, xor64 d m⟩).a m } := rfl
  rw [e, HV.out]
  exact blk_set hb.out 0 _
/-- A number of bytes, the lowest first. -/
def leW : Nat → Int → List Int → Int
  | _, acc, [] => acc
  | i, acc, c :: cs => leW (i + 1) (Go.bits .or .u64 acc (IntKind.u64.wrap (IntKind.u64.wrap c * 2 ^ (8 * i)))) cs
theorem leW_snoc (xs : List Int) (c : Int) : ∀ (i : Nat) (acc : Int), leW i acc (xs ++ [c]) = Go.bits .or .u64 (leW i acc xs) (IntKind.u64.wrap (IntKind.u64.wrap c * 2 ^ (8 * (i + xs.length)))) := by
  induction xs with
  | nil => intro i acc; rfl
  | cons x xs ih => intro i acc; rw [List.cons_append]; simp only [leW]; rw [ih, List.length_cons, show i + 1 + xs.length = i + (xs.length + 1) by omega]
theorem take_snoc {xs : List Int} {i : Nat} (h : i < xs.length) : xs.take (i + 1) = xs.take i ++ [xs.getD i 0] := by
  rw [List.take_add_one, List.getD_eq_getElem?_getD, List.getElem?_eq_getElem h]; rfl
theorem little_any (A : Option Addr) (c : Nat) (xs : List Int) (w : World) (hr : Kd.C (Kd.int .u8) w A xs.length xs) (hl : xs.length ≤ 8) :
    Calls Try.prog 22 #[.slice A xs.length c] w fun e w' => e = .returned (.int .u64 (leW 0 0 xs)) ∧ w' = w := by
  have HR := Aside0.mk hr
  have HL := Aside0.mk hl
  clear hr hl
  go_enter Try.func22, Try.ntmps22
  go_wp2
  go_loop [3, 8] (fun v3 v8 => ∃ i : Nat, i ≤ xs.length ∧ v8 = .int .i64 (i : Int) ∧ v3 = .int .u64 (leW 0 0 (xs.take i))) (fun _ v8 => xs.length - (intOf v8).toNat)
  case atStart => exact ⟨0, Nat.zero_le _, rfl, rfl⟩
  case round =>
    obtain ⟨i, hi, rfl, rfl⟩ := hrel
    by_cases hlt : i < xs.length
    · obtain ⟨ad, rfl, hc⟩ := (Kd.reads_of_C (d := (0 : Int)) HR.out).2.2 (by omega)
      have hc := hc i hlt
      have h8 := HL.out
      have e1 : (8 * (i : Int)).toNat = 8 * i := by omega
      have e2 : xs.take (i + 1) = xs.take i ++ [xs.getD i 0] := take_snoc hlt
      go_wp2
      go_round
      case rel =>
        refine ⟨i + 1, hlt, rfl, ?_⟩
        rw [e2, leW_snoc, List.length_take, Nat.min_eq_left (Nat.le_of_lt hlt), Nat.zero_add, List.getD_eq_getElem?_getD, List.getElem?_eq_getElem hlt]
        rfl
      case measure => simp [intOf]; omega
    · obtain rfl : i = xs.length := by omega
      go_wp2
      go_ret
      exact ⟨rfl, rfl⟩
end Go.Proofs.Ytjcmcjhfmcabnaa.Hash
