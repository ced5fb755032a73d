/- Addresses: the order. -/
import Derived.Test.YtfnpjfcfgilchaaAddrW3
import Derived.Test.YtfnpjfcfgilchaaAddrCmp
namespace Go.Proofs.Ytfnpjfcfgilchaa.AddrW
open Go.RowKit Go.Proofs.Ytfnpjfcfgilchaa.AddrCmp Go.Proofs.Ytfnpjfcfgilchaa.AddrEq Go.Proofs.Ytfnpjfcfgilchaa.Bits Go.Proofs.Ytfnpjfcfgilchaa.Help Go.Proofs.YtfnpjfcfgilchaaW.PrintWords Go.Proofs.YtfnpjfcfgilchaaW.PrintLast Go.Proofs.YtfnpjfcfgilchaaW.PrintMore
set_option linter.unusedVariables false
set_option linter.unusedSimpArgs false
def ordS (v : Bool) (bs : List Int) (u : Bool) (cs : List Int) : Int := if v = u then Lib.compareBytes (Lib.bytesOf bs) (Lib.bytesOf cs) else if v then 1 else -1
/-- The sixteen bytes behind the first cell. -/
theorem reads16 {w : World} {g : Nat} {v : Bool} {bs : List Int} {t : TypeId} (hl : bs.length = 16) (hb : w.heap[g]? = some (.cells (av v bs) t (0, 0))) : Kd.C (Kd.int .u8) w (some ⟨g, 1, none⟩) bs.length bs :=
  C_of_block hb (by omega) fun j hj => av_at v hj
theorem order_any (v : Bool) (bs : List Int) (u : Bool) (cs : List Int) (w : World) (hl : bs.length = 16) (hm : cs.length = 16) :
    Calls Try.prog 38 #[.agg (av v bs), .agg (av u cs)] w fun e w' => e = .returned (.int .i64 (ordS v bs u cs)) ∧ Below w.heap.size w w' := by
  have hb : ((w.alloc (.cells (av v bs) 25)).alloc (.cells (av u cs) 25)).heap[w.heap.size]? = some (.cells (av v bs) 25 (0, 0)) := blk_alloc (blk_new w _) _
  have hz : ((w.alloc (.cells (av v bs) 25)).alloc (.cells (av u cs) 25)).heap[w.heap.size + 1]? = some (.cells (av u cs) 25 (0, 0)) := blk_new_at (Array.size_push _).symm
  have hW : Below w.heap.size w ((w.alloc (.cells (av v bs) 25)).alloc (.cells (av u cs) 25)) := below_alloc (below_alloc (Below.refl _ _) _) _
  have c0 := (blk_cell hb 0).trans (av_at0 v bs)
  have c1 := (blk_cell hz 0).trans (av_at0 u cs)
  have HX := Aside0.mk (reads16 hl hb)
  have HY := Aside0.mk (reads16 hm hz)
  have HL := Aside0.mk hl
  have HM := Aside0.mk hm
  have HW := Aside0.mk hW
  clear hb hz hW hl hm
  go_enter Try.func38, Try.ntmps38
  by_cases h : v = u
  · subst h
    have e : ordS v bs v cs = Lib.compareBytes (Lib.bytesOf bs) (Lib.bytesOf cs) := if_pos rfl
    rw [e]
    have hvv : (v == v) = true := by simp
    go_wp2_with fail
    refine wp_region_any (by kernel_rfl) ?_
    change wpAny _ _ _ _ _ _ _ (World.drew _)
    refine wpAny_take (i := 0) (v := ?_) rfl (by kernel_rfl) (by kernel_rfl) (by kernel_rfl) (fun _ _ _ h => h) (Or.inl ⟨by rfl, ?_⟩) ?_
    rotate_left
    · (intro w; go_simp; try with_reducible rfl)
    refine wpAny_take (i := 1) (v := ?_) rfl (by kernel_rfl) (by kernel_rfl) (by kernel_rfl) (fun _ _ _ h => h) (Or.inl ⟨by rfl, ?_⟩) ?_
    rotate_left
    · (intro w; go_simp; try with_reducible rfl)
    refine wpAny_take (i := 2) (v := ?_) rfl (by kernel_rfl) (by kernel_rfl) (by kernel_rfl) (fun _ _ _ h => h) (Or.inl ⟨by rfl, ?_⟩) ?_
    rotate_left
    · (intro w; go_simp; try with_reducible rfl)
    refine wpAny_take (i := 3) (v := ?_) rfl (by kernel_rfl) (by kernel_rfl) (by kernel_rfl) (fun _ _ _ h => h) (Or.inl ⟨by rfl, ?_⟩) ?_
    rotate_left
    · (intro w; go_simp; try with_reducible rfl)
    refine wpAny_ready (rs := [4]) (by kernel_rfl) (by simp) (AllReady.cons rfl (fun K hK => ?_) AllReady.nil)
    go_simp
    refine (cmp_any _ HL.out.symm HM.out.symm (Kd.C_drew HX.out) (Kd.C_drew HY.out)).mono ?_
    rintro e w' ⟨rfl, rfl⟩
    refine hK _ _ ?_
    clear hK K
    refine wpAny_ready (rs := [5]) (by kernel_rfl) (by simp) (AllReady.cons rfl (fun K hK => ?_) AllReady.nil)
    go_simp
    refine hK _ _ ?_
    clear hK K
    refine wpAny_done (by kernel_rfl) ?_ _
    go_wp2
    go_ret
    exact ⟨rfl, Below.drew HW.out⟩
  · have hvu : (v == u) = false := by simpa using h
    cases v with
    | true =>
      have e : ordS true bs u cs = 1 := by rw [ordS, if_neg h]; rfl
      rw [e]
      go_wp2_with fail
      go_ret
      exact ⟨rfl, HW.out⟩
    | false =>
      have e : ordS false bs u cs = -1 := by rw [ordS, if_neg h]; rfl
      rw [e]
      go_wp2_with fail
      go_ret
      exact ⟨rfl, HW.out⟩
end Go.Proofs.Ytfnpjfcfgilchaa.AddrW
