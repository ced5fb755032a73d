/- Addresses: the reference's Cmp . -/
import Derived.Test.YtfnpjfcfgilchaaAddrW5
import Derived.Deep.QuietTactic
import Derived.BigQuiet
namespace Go.Proofs.Ytfnpjfcfgilchaa.AddrW
open Go.RowKit Go.Proofs.Ytfnpjfcfgilchaa.AddrCmp Go.Proofs.Ytfnpjfcfgilchaa.AddrEq Go.Proofs.Ytfnpjfcfgilchaa.Bits Go.Proofs.Ytfnpjfcfgilchaa.Help Go.Proofs.YtfnpjfcfgilchaaW.PrintWords Go.Proofs.YtfnpjfcfgilchaaW.PrintLast Go.Proofs.YtfnpjfcfgilchaaW.PrintMore
set_option linter.unusedVariables false
set_option linter.unusedSimpArgs false
def cmpL : List Int → List Int → Int
  | x :: xs, y :: ys => if x = y then cmpL xs ys else x - y
  | _, _ => 0
def refCmpS (v : Bool) (bs : List Int) (u : Bool) (cs : List Int) : Int := if v = u then cmpL bs cs else if v then 1 else -1
theorem refCmp_any (v : Bool) (bs : List Int) (u : Bool) (cs : List Int) (w : World) (hl : bs.length = 16) (hm : cs.length = 16) (hbb : ∀ x ∈ bs, 0 ≤ x ∧ x ≤ 255) (hcb : ∀ x ∈ cs, 0 ≤ x ∧ x ≤ 255) :
    Calls Try.prog 19 #[.agg (av v bs), .agg (av u cs)] w fun e w' => e = .returned (.int .i64 (refCmpS v bs u cs)) ∧ Below w.heap.size w w' := by
  have hb : ((w.alloc (.cells (av v bs) 25)).alloc (.cells (av u cs) 25)).heap[w.heap.size]? = some (.cells (av v bs) 25 (0, 0)) := blk_alloc (blk_new w _) _
  have hz : ((w.alloc (.cells (av v bs) 25)).alloc (.cells (av u cs) 25)).heap[w.heap.size + 1]? = some (.cells (av u cs) 25 (0, 0)) := blk_new_at (Array.size_push _).symm
  have hW : Below w.heap.size w ((w.alloc (.cells (av v bs) 25)).alloc (.cells (av u cs) 25)) := below_alloc (below_alloc (Below.refl _ _) _) _
  have c0 := (blk_cell hb 0).trans (av_at0 v bs)
  have c1 := (blk_cell hz 0).trans (av_at0 u cs)
  have HX := Aside0.mk hb
  have HY := Aside0.mk hz
  have HL := Aside0.mk (And.intro hl hm)
  have HBB := Aside0.mk (And.intro hbb hcb)
  have HW := Aside0.mk hW
  clear hb hz hW hl hm hbb hcb
  go_enter Try.func19, Try.ntmps19
  by_cases h : v = u
  · subst h
    have e : refCmpS v bs v cs = cmpL bs cs := if_pos rfl
    rw [e]
    have hvv : (v != v) = false := by simp
    go_wp2_with fail
    clear c0 c1
    generalize (w.alloc _).alloc _ = W at HX HY HW ⊢
    have HQ : Aside0 (cmpL bs cs = cmpL (bs.drop 0) (cs.drop 0)) := ⟨rfl⟩
    go_loopg [5] 16 (fun kq v5 w' => ∃ i : Nat, Aside0 (kq + i = 16) ∧ v5 = .int .i64 (i : Int) ∧ Aside0 (cmpL bs cs = cmpL (bs.drop i) (cs.drop i)) ∧ Aside0 (w'.heap[w.heap.size]? = some (.cells (av v bs) 25 (0, 0))) ∧ Aside0 (w'.heap[w.heap.size + 1]? = some (.cells (av v cs) 25 (0, 0))) ∧ Aside0 (Below w.heap.size w w'))
    case atStart => exact ⟨0, ⟨rfl⟩, rfl, HQ, HX, HY, HW⟩
    case round =>
      clear HQ HX HY HW
      obtain ⟨i, HI, rfl, HQ, HX, HY, HW⟩ := hrel
      have hi : i ≤ 16 := by have := HI.out; omega
      cases gk with
      | zero =>
        obtain rfl : i = 16 := by have := HI.out; omega
        go_wp2_with fail
        go_ret
        refine ⟨?_, HW.out⟩
        rw [HQ.out, List.drop_of_length_le (by rw [HL.out.1]; exact Nat.le_refl _)]
        rfl
      | succ kq =>
        have hlt : i < 16 := by have := HI.out; omega
        have hlx : i < bs.length := by rw [HL.out.1]; exact hlt
        have hly : i < cs.length := by rw [HL.out.2]; exact hlt
        have hx : wr.cell? ⟨w.heap.size, 1 + i, none⟩ = some (.int .u8 (bs.getD i 0)) := (blk_cell HX.out _).trans (av_at v hlx)
        have hy : wr.cell? ⟨w.heap.size + 1, 1 + i, none⟩ = some (.int .u8 (cs.getD i 0)) := (blk_cell HY.out _).trans (av_at v hly)
        have hbx : 0 ≤ bs.getD i 0 ∧ bs.getD i 0 ≤ 255 := by
          rw [List.getD_eq_getElem?_getD, List.getElem?_eq_getElem hlx]; exact HBB.out.1 _ (List.getElem_mem _)
        have hby : 0 ≤ cs.getD i 0 ∧ cs.getD i 0 ≤ 255 := by
          rw [List.getD_eq_getElem?_getD, List.getElem?_eq_getElem hly]; exact HBB.out.2 _ (List.getElem_mem _)
        have hd : cmpL (bs.drop i) (cs.drop i) = if bs.getD i 0 = cs.getD i 0 then cmpL (bs.drop (i + 1)) (cs.drop (i + 1)) else bs.getD i 0 - cs.getD i 0 := by
          rw [List.drop_eq_getElem_cons hlx, List.drop_eq_getElem_cons hly, cmpL, List.getD_eq_getElem?_getD, List.getElem?_eq_getElem hlx, List.getD_eq_getElem?_getD, List.getElem?_eq_getElem hly]; rfl
        have HD := Aside0.mk hd
        clear hd hlx hly
        generalize bs.getD i 0 = x at *
        generalize cs.getD i 0 = y at *
        by_cases hxy : x = y
        · subst hxy
          have HB2 := Aside0.mk hbx
          clear hbx hby
          go_wp2_with fail
          go_quiet (fail)
          go_wp2_with fail
          go_roundg kq
          case measure => omega
          case rel =>
            refine ⟨i + 1, ⟨by have := HI.out; omega⟩, rfl, ⟨?_⟩, ⟨blk_drewN HX.out _⟩, ⟨blk_drewN HY.out _⟩, ⟨pw_below_drewN HW.out _⟩⟩
            rw [HQ.out, HD.out]; simp
        · have hne : (x != y) = true := by simpa using hxy
          have HS := Aside0.mk (wrap64_id (n := x - y) (by omega) (by omega))
          have HB2 := Aside0.mk (And.intro hbx hby)
          clear hbx hby
          go_wp2_with fail
          go_quiet (fail)
          go_wp2_with fail
          go_quiet (fail)
          go_wp2_with fail
          go_ret
          refine ⟨?_, pw_below_drewN (pw_below_drewN HW.out _) _⟩
          rw [HQ.out, HD.out, if_neg hxy]
          show Ending.returned (.int .i64 (wrap64 (wrap64 x - wrap64 y))) = Ending.returned (.int .i64 (x - y))
          have hb2 := HB2.out
          rw [wrap64_id (n := x) (by omega) (by omega), wrap64_id (n := y) (by omega) (by omega), HS.out]
  · cases v with
    | true =>
      cases u with
      | true => exact absurd rfl h
      | false =>
        have e : refCmpS true bs false cs = 1 := rfl
        rw [e]
        go_wp2_with fail
        go_ret
        exact ⟨rfl, HW.out⟩
    | false =>
      cases u with
      | false => exact absurd rfl h
      | true =>
        have e : refCmpS false bs true cs = -1 := rfl
        rw [e]
        go_wp2_with fail
        go_ret
        exact ⟨rfl, HW.out⟩
end Go.Proofs.Ytfnpjfcfgilchaa.AddrW
