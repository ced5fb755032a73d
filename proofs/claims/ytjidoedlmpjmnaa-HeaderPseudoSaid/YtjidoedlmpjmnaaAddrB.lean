/- AddrB: AddrW9, AddrW10, AddrW11, AddrW12, AddrW13, AddrW14, AddrW15. -/
import Derived.Test.YtjidoedlmpjmnaaAddrL
import Derived.Test.YtjidoedlmpjmnaaBase
import Derived.Lib.SliceRun
import Derived.Test.YtjidoedlmpjmnaaAddrA
import Derived.Test.YtjidoedlmpjmnaaWGuard
import Derived.StillTailTactics
import Derived.IntWalk
import Derived.Deep.MidRow
namespace Go.Proofs.Ytjidoedlmpjmnaa.AddrW
open Go.RowKit Go.Proofs.Ytjidoedlmpjmnaa.Own Go.Proofs.Ytjidoedlmpjmnaa.Bits Go.Proofs.Ytjidoedlmpjmnaa.Help Go.Proofs.YtjidoedlmpjmnaaW.PrintWords Go.Proofs.YtjidoedlmpjmnaaW.PrintLast Go.Proofs.YtjidoedlmpjmnaaW.PrintMore
set_option linter.unusedVariables false
set_option linter.unusedSimpArgs false
set_option maxHeartbeats 1000000 in
theorem Clone_any (A : Option Addr) (c : Nat) (xs : List Int) (w : World) (hr : Kd.C (Kd.int .u8) w A xs.length xs) (hl : xs.length ≤ 140737488351232) :
    Calls Try.prog 39 #[.slice A xs.length c] w fun e w' => ∃ v, e = .returned v ∧ Owns w' w.heap.size v xs ∧ Below w.heap.size w w' := by
  have hq : ∀ w : World, (binOp .eql 25 (.slice A xs.length c) (.slice none 0 0)).run Try.prog w = .ok (.bool A.isNone) w := fun w => Lib.run_eql_slice_nil w _ _ _ _ _ _ _ Try.underlying25
  rcases A with _ | ad
  · have h0 : xs = [] := by
      rcases xs with _ | ⟨x, r⟩
      · rfl
      · obtain ⟨ad, h, _⟩ := (Kd.reads_of_C (d := (0 : Int)) hr).2.2 (by simp)
        cases h
    subst h0
    have hq0 : ∀ w : World, (binOp .eql 25 (.slice none 0 c) (.slice none 0 0)).run Try.prog w = .ok (.bool true) w := fun w => hq w
    clear hr hq
    go_enter Try.func39, Try.ntmps39
    go_wp2_with fail
    go_ret
    exact ⟨.slice none 0 0, rfl, Owns.nil _ _, Below.refl _ _⟩
  · have HO : Owns (w.alloc (.cells #[] 5)) w.heap.size (.slice (some ⟨w.heap.size, 0, none⟩) 0 0) [] := World.ownsRow_made w #[] 0 (Nat.le_refl _) (Nat.zero_le _) rfl
    obtain ⟨v1, w1, hrun, hO, hg, _⟩ := append_bytes (ty := 25) (c := c) HO (Kd.C_alloc hr _) (by simp; omega) (by simp)
    have HB := Aside0.mk (Owns.keeps (below_alloc (Below.refl w.heap.size w) _) HO hg)
    rw [List.nil_append] at hO
    have HRUN := Aside0.mk hrun
    have HO1 := Aside0.mk hO
    clear hr HO hrun hO hg
    go_enter Try.func39, Try.ntmps39
    go_wp2_with ((with_reducible refine gate_dst (N := 7) rfl ?_); refine Kd.event_run rfl (exec_append rfl rfl rfl HRUN.out) ?_)
    go_ret
    exact ⟨v1, rfl, HO1.out, HB.out⟩
def byR (v : Bool) (bs : List Int) : List Int := if rightB v bs then bs.take (sz v) else []
def byE (v : Bool) (bs : List Int) : Int := if rightB v bs then 0 else 1
/-- The first bytes of an address, as a slice of it. -/
theorem reads_head {w : World} {g : Nat} {v : Bool} {bs : List Int} {t : TypeId} (hl : bs.length = 16) (hb : w.heap[g]? = some (.cells (av v bs) t (0, 0))) (n : Nat) (hn : n ≤ 16) : Kd.C (Kd.int .u8) w (some ⟨g, 1, none⟩) (bs.take n).length (bs.take n) :=
  C_of_block hb (by simp; omega) fun j hj => by
    have h1 : j < n := by simp at hj; omega
    rw [av_at v (by omega)]
    simp [List.getD_eq_getElem?_getD, List.getElem?_take, h1]
theorem Bytes_any (v : Bool) (bs : List Int) (w : World) (hl : bs.length = 16) :
    Calls Try.prog 23 #[.agg (av v bs)] w fun e w' => ∃ r, e = .returned (.tuple #[r, .int .i64 (byE v bs)]) ∧ Owns w' w.heap.size r (byR v bs) ∧ Below w.heap.size w w' := by
  have hb := blk_new w (.cells (av v bs) 24)
  have HB := Aside0.mk hb
  have HL := Aside0.mk hl
  have HLD := Aside0.mk (load_addr hl hb)
  clear hl hb
  go_enter Try.func23, Try.ntmps23
  go_wp2_with ((with_reducible refine gate_dst (N := 4) rfl ?_); refine Kd.event_run rfl (exec_load rfl rfl HLD.out) ?_)
  refine (Right_any v bs _ HL.out).mono ?_
  rintro e w1 ⟨rfl, hB⟩
  have HB1 := Aside0.mk (blk_below HB.out hB)
  have HW := Aside0.mk (below_step (below_alloc (Below.refl w.heap.size w) _) hB)
  clear HB HLD hB
  by_cases hr : rightB v bs = true
  · have E1 : Aside0 (byR v bs = bs.take (sz v)) := ⟨if_pos hr⟩
    have E2 : Aside0 (byE v bs = 0) := ⟨if_pos hr⟩
    rw [hr]
    have HLD := Aside0.mk (load_addr HL.out HB1.out)
    go_wp2_with ((with_reducible refine gate_dst (N := 8) rfl ?_); refine Kd.event_run rfl (exec_load rfl rfl HLD.out) ?_)
    refine (size_any v bs _).mono ?_
    rintro e w2 ⟨rfl, hB⟩
    replace HB1 := Aside0.mk (blk_below HB1.out hB)
    replace HW := Aside0.mk (below_step HW.out hB)
    clear HLD hB
    have hs := sz_le v
    have hlt : (bs.take (sz v)).length = sz v := by rw [List.length_take, HL.out]; exact Nat.min_eq_left hs
    have HC := Clone_any (some ⟨w.heap.size, 1, none⟩) 16 (bs.take (sz v)) w2 (reads_head HL.out HB1.out _ hs) (by omega)
    rw [hlt] at HC
    have HC2 := Aside0.mk HC
    have hs2 : ((sz v : Nat) : Int) ≤ 16 := by omega
    clear HC hlt hr
    generalize bs.take (sz v) = ys at *
    generalize sz v = n at *
    go_wp2_with fail
    refine HC2.out.mono ?_
    rintro e w3 ⟨r, rfl, hO, hB⟩
    have HO := Aside0.mk (hO.lower HW.out.size)
    replace HW := Aside0.mk (below_step HW.out hB)
    clear hO hB HC2
    go_wp2_with fail
    go_ret2
    exact ⟨r, by rw [E2.out]; rfl, by rw [E1.out]; exact HO.out, HW.out⟩
  · have hr' : rightB v bs = false := by simpa using hr
    have E1 : Aside0 (byR v bs = []) := ⟨if_neg hr⟩
    have E2 : Aside0 (byE v bs = 1) := ⟨if_neg hr⟩
    rw [hr']
    clear hr hr'
    go_wp2_with fail
    go_ret2
    exact ⟨_, by rw [E2.out]; rfl, by rw [E1.out]; exact Owns.nil _ _, HW.out⟩
theorem RefBytes_any (v : Bool) (bs : List Int) (w : World) (hl : bs.length = 16) :
    Calls Try.prog 30 #[.agg (av v bs)] w fun e w' => ∃ r, e = .returned (.tuple #[r, .int .i64 (byE v bs)]) ∧ Owns w' w.heap.size r (byR v bs) ∧ Below w.heap.size w w' := by
  have hb := blk_new w (.cells (av v bs) 24)
  have HB := Aside0.mk hb
  have HL := Aside0.mk hl
  have HLD := Aside0.mk (load_addr hl hb)
  clear hl hb
  go_enter Try.func30, Try.ntmps30
  go_wp2_with ((with_reducible refine gate_dst (N := 6) rfl ?_); refine Kd.event_run rfl (exec_load rfl rfl HLD.out) ?_)
  refine (refRight_any v bs _ HL.out).mono ?_
  rintro e w1 ⟨rfl, hB⟩
  have HB1 := Aside0.mk (blk_below HB.out hB)
  have HW := Aside0.mk (below_step (below_alloc (Below.refl w.heap.size w) _) hB)
  clear HB HLD hB
  by_cases hr : rightB v bs = true
  · have E1 : Aside0 (byR v bs = bs.take (sz v)) := ⟨if_pos hr⟩
    have E2 : Aside0 (byE v bs = 0) := ⟨if_pos hr⟩
    rw [hr]
    clear hr
    go_wp2_with fail
    go_loopg [4, 5] (sz v) (fun kq v4 v5 w' => ∃ i : Nat, Aside0 (kq + i = sz v) ∧ v5 = .int .i64 (i : Int) ∧ Aside0 (w'.heap[w.heap.size]? = some (.cells (av v bs) 24 (0, 0))) ∧ Aside0 (Owns w' w.heap.size v4 (bs.take i)) ∧ Aside0 (Below w.heap.size w w'))
    case atStart => exact ⟨0, ⟨by simp⟩, rfl, HB1, ⟨Owns.nil _ _⟩, HW⟩
    case round =>
      clear HB1 HW
      obtain ⟨i, HK, rfl, HB1, HO, HW⟩ := hrel
      have HLD := Aside0.mk (load_addr HL.out HB1.out)
      go_wp2_with ((with_reducible refine gate_dst (N := 10) rfl ?_); refine Kd.event_run rfl (exec_load rfl rfl HLD.out) ?_)
      refine (refsize_any v bs _).mono ?_
      rintro e w2 ⟨rfl, hB⟩
      have hb := blk_below HB1.out hB
      replace HO := Aside0.mk (HO.out.below hB)
      replace HW := Aside0.mk (below_step HW.out hB)
      clear HB1 HLD hB
      have HB1 := Aside0.mk hb
      clear hb
      have hs := sz_le v
      cases gk with
      | zero =>
        have hi : i = sz v := by have := HK.out; omega
        subst hi
        go_wp2_with fail
        go_ret2
        exact ⟨_, by rw [E2.out]; rfl, by rw [E1.out]; exact HO.out, HW.out⟩
      | succ kq =>
        have hi : i < sz v := by have := HK.out; omega
        have hi2 : ((i : Nat) : Int) < ((sz v : Nat) : Int) := by omega
        have hi3 : ((i : Nat) : Int) < 16 := by omega
        have hc : w2.cell? ⟨w.heap.size, 1 + i, none⟩ = some (.int .u8 (bs.getD i 0)) := (blk_cell HB1.out _).trans (av_at v (by rw [HL.out]; omega))
        have hw := blk_lt HB1.out
        generalize hx : bs.getD i 0 = x at *
        have hone : Kd.C (Kd.int .u8) (w2.alloc (.cells #[.int .u8 x] 5)) (some ⟨w2.heap.size, 0, none⟩) [x].length [x] := C_of_block0 (more := []) (blk_new w2 _) (by simp)
        obtain ⟨v1, w3, hrun, hO, hg, _⟩ := append_bytes (ty := 25) (c := 1) (HO.out.below (below_alloc (Below.refl _ _) _)) hone (by simp; omega) (by have := HW.out.size; simp; omega)
        have hB3 := Owns.keeps (below_alloc HW.out _) (HO.out.below (below_alloc (Below.refl _ _) _)) hg
        have HRUN := Aside0.mk hrun
        have hb3 := blk_grown (blk_alloc HB1.out (.cells #[.int .u8 x] 5)) hg (HO.out.ne HB1.out (by decide))
        have HO3 := Aside0.mk hO
        have HW3 := Aside0.mk hB3
        have HB3 := Aside0.mk hb3
        have HTS : Aside0 (bs.take i ++ [x] = bs.take (i + 1)) := ⟨by rw [List.take_succ_eq_append_getElem (by rw [HL.out]; omega), ← hx, List.getD_eq_getElem?_getD, List.getElem?_eq_getElem (by rw [HL.out]; omega)]; rfl⟩
        clear hone hrun hO hg hB3 hb3 HB1 HO HW hx
        go_wp2_with ((with_reducible refine gate_dst (N := 21) rfl ?_); refine Kd.event_run rfl (exec_append rfl rfl rfl HRUN.out) ?_)
        go_roundg kq
        case measure => omega
        case rel => exact ⟨i + 1, ⟨by have := HK.out; omega⟩, rfl, HB3, ⟨by rw [← HTS.out]; exact HO3.out⟩, HW3⟩
  · have hr' : rightB v bs = false := by simpa using hr
    have E1 : Aside0 (byR v bs = []) := ⟨if_neg hr⟩
    have E2 : Aside0 (byE v bs = 1) := ⟨if_neg hr⟩
    rw [hr']
    clear hr hr'
    go_wp2_with fail
    go_ret2
    exact ⟨_, by rw [E2.out]; rfl, by rw [E1.out]; exact Owns.nil _ _, HW.out⟩
end Go.Proofs.Ytjidoedlmpjmnaa.AddrW
namespace Go.Proofs.Ytjidoedlmpjmnaa.AddrW
open Go.RowKit Go.Proofs.Ytjidoedlmpjmnaa.Bits Go.Proofs.Ytjidoedlmpjmnaa.Help Go.Proofs.YtjidoedlmpjmnaaW.PrintWords Go.Proofs.YtjidoedlmpjmnaaW.PrintLast Go.Proofs.YtjidoedlmpjmnaaW.PrintMore
set_option linter.unusedVariables false
set_option linter.unusedSimpArgs false
theorem av_set (v : Bool) (bs : List Int) (i : Nat) (x : Int) : (av v bs).setIfInBounds (1 + i) (.int .u8 x) = av v (bs.set i x) := by
  apply Array.ext'
  rw [Array.toList_setIfInBounds]
  simp only [av, nums]
  rw [Nat.add_comm, List.set_cons_succ, ← List.map_set]
theorem fill_set (xs : List Int) (i n : Nat) (hi : i < n) (hx : i < xs.length) : (xs.take i ++ zs (n - i)).set i (xs.getD i 0) = xs.take (i + 1) ++ zs (n - (i + 1)) := by
  have hl : (xs.take i).length = i := by simp; omega
  rw [List.set_append_right _ _ (by omega), hl, Nat.sub_self, show n - i = (n - (i + 1)) + 1 by omega]
  simp only [zs, List.replicate_succ, List.set_cons_zero]
  rw [List.take_succ_eq_append_getElem hx, List.getD_eq_getElem?_getD, List.getElem?_eq_getElem hx, List.append_assoc]
  rfl
theorem ofV_eq (xs : List Int) : ((xs.length : Int) == 16) = ofV xs := by
  rw [ofV, Bool.eq_iff_iff]; simp; omega
end Go.Proofs.Ytjidoedlmpjmnaa.AddrW
namespace Go.Proofs.Ytjidoedlmpjmnaa.AddrW
open Go.RowKit Go.Proofs.Ytjidoedlmpjmnaa.AddrM Go.Proofs.Ytjidoedlmpjmnaa.Bits Go.Proofs.Ytjidoedlmpjmnaa.Help Go.Proofs.YtjidoedlmpjmnaaW.PrintWords Go.Proofs.YtjidoedlmpjmnaaW.PrintLast Go.Proofs.YtjidoedlmpjmnaaW.PrintMore
set_option linter.unusedVariables false
set_option linter.unusedSimpArgs false
end Go.Proofs.Ytjidoedlmpjmnaa.AddrW
namespace Go.Proofs.Ytjidoedlmpjmnaa.AddrW
open Go.RowKit Go.Proofs.Ytjidoedlmpjmnaa.AddrM Go.Proofs.Ytjidoedlmpjmnaa.Bits Go.Proofs.Ytjidoedlmpjmnaa.Help Go.Proofs.YtjidoedlmpjmnaaW.PrintWords Go.Proofs.YtjidoedlmpjmnaaW.PrintLast Go.Proofs.YtjidoedlmpjmnaaW.PrintMore
set_option linter.unusedVariables false
set_option linter.unusedSimpArgs false
def okM (v : Bool) (bs : List Int) (n : Int) : Prop := rightB v bs = true ∧ 0 ≤ n ∧ n ≤ 8 * (sz v : Int)
instance (v : Bool) (bs : List Int) (n : Int) : Decidable (okM v bs n) := by unfold okM; infer_instance
def mV (v : Bool) (bs : List Int) (n : Int) : Bool := if okM v bs n then v else false
def mB (v : Bool) (bs : List Int) (n : Int) : List Int := if okM v bs n then maskL bs n.toNat else zs 16
def mE (v : Bool) (bs : List Int) (n : Int) : Int := if okM v bs n then 0 else 1
theorem sz_int (v : Bool) : 8 * (sz v : Int) ≤ 128 := by cases v <;> decide
theorem mB_len (v : Bool) (bs : List Int) (n : Int) : (mB v bs n).length = 16 := by unfold mB; split; exact mask_len _ _; exact zs16
theorem mB_all (v : Bool) {bs : List Int} (h : AllB bs) (n : Int) : AllB (mB v bs n) := by
  unfold mB; split
  · exact mask_all h _
  · intro x hx; simp [zs] at hx; omega
/-- An address stored over another one: the block, and what else stays. -/
theorem stored {w W : World} {g : Nat} {v u : Bool} {bs cs : List Int} (hl : bs.length = 16) (hm : cs.length = 16) (hg : w.heap.size ≤ g) (hB : Below w.heap.size w W) (hb : W.heap[g]? = some (.cells (av u cs) 24 (0, 0))) :
    ∃ W1, (storeVar 24 ⟨g, 0, none⟩ (.agg (av v bs))).run Try.prog W = .ok () W1 ∧ W1.heap[g]? = some (.cells (av v bs) 24 (0, 0)) ∧ Below w.heap.size w W1 ∧ W.grownBy W1 (some g) :=
  ⟨_, store_addr hl hm hb, setRow_heap _ _ _ _ _ _ hb, hB.grown (World.grownBy_setRow' _ _ _) hB.size (fun k hk => by cases hk; exact hg), World.grownBy_setRow' _ _ _⟩
section
variable {P : Program} {Q : Exit → Act → World → Prop} {a : Act} {w : World} {l : List Oper}
/-- A drawn region whose last operations wait for all the others: in a world of which F is known. -/
theorem region_tail {id : Nat} (F : World → Prop) (n : Nat) (hm : P.follows .mixedOrders = true) (hB : Region.lexTailB .any l.toArray n = true) (hF : F w.drew)
    (h : ∀ W, F W → wpStill P l.toArray W (fun a' => wpList P l.toArray Q (l.drop n) a' W) (l.take n) a) : (Code.region id l.toArray true).wp P Q a w :=
  wp_region_still_tail n hm hB (h _ hF)
end
/-- What Mask has in memory. -/
structure MF (w W : World) (g : Nat) (v : Bool) (bs ms : List Int) : Prop where
  a : W.heap[w.heap.size]? = some (.cells (av v bs) 24 (0, 0))
  z : W.heap[w.heap.size + 1]? = some (.cells (av false (zs 16)) 24 (0, 0))
  m : W.heap[g]? = some (.cells (av v ms) 24 (0, 0))
  b : Below w.heap.size w W
  g : w.heap.size + 2 ≤ g
theorem MF.drew {w W : World} {g : Nat} {v : Bool} {bs ms : List Int} (h : MF w W g v bs ms) : MF w W.drew g v bs ms := ⟨h.a, h.z, h.m, Below.drew h.b, h.g⟩
theorem MF.turn {w W W1 : World} {g : Nat} {v : Bool} {bs ms ms1 : List Int} (h : MF w W g v bs ms) (hm : W1.heap[g]? = some (.cells (av v ms1) 24 (0, 0))) (hg : W.grownBy W1 (some g)) : MF w W1 g v bs ms1 :=
  have := h.g
  ⟨blk_grown h.a hg (by simp; omega), blk_grown h.z hg (by simp; omega), hm, h.b.grown hg h.b.size (fun k hk => by cases hk; omega), h.g⟩
/-- The first q bytes copied. -/
theorem copy_head {w W : World} {g : Nat} {v : Bool} {bs : List Int} (hl : bs.length = 16) (ha : AllB bs) (h : MF w W g v bs (zs 16)) (q : Nat) (hq : q ≤ 16) :
    ∃ W1, (Builtin.copy_ #[25, 25] 3 #[.slice (some ⟨g, 1, none⟩) q 16, .slice (some ⟨w.heap.size, 1, none⟩) q 16]).run Try.prog W = .ok (.int .i64 (q : Int)) W1 ∧ MF w W1 g v bs (maskL bs (8 * q)) := by
  have hlt : (bs.take q).length = q := by rw [List.length_take, hl]; exact Nat.min_eq_left hq
  obtain ⟨w1, h1, ⟨cs', h2, h3⟩, h4⟩ := copy_reads (P := Try.prog) (dT := 25) (sT := 25) (ty := 3) (dLen := q) (dCap := 16) (c := 16) (o := 1) Try.underlying25 info_b h.m (reads_head hl h.a q hq) (m := q) (by rw [hlt]; exact (Nat.min_self q).symm) (by simp [av, nums, zs]; omega)
  rw [hlt] at h1
  refine ⟨w1, h1, h.turn ?_ h4⟩
  have e : cs' = av v (maskL bs (8 * q)) := Array.ext' (by
    have := av_splice v (bs.take q) (by omega)
    rw [hlt] at this
    rw [h3, List.take_of_length_le (by omega), this, mask_whole ha hl q hq]; rfl)
  rw [h2, e]
theorem mask_store {w W : World} {g : Nat} {v : Bool} {bs ms : List Int} (h : MF w W g v bs ms) (j : Nat) (x : Int) : MF w (W.setCell ⟨g, 1 + j, none⟩ (.int .u8 x)) g v bs (ms.set j x) :=
  h.turn (by rw [blk_set h.m, av_set]) (setCells_grown W g [Value.int .u8 x] (1 + j))
end Go.Proofs.Ytjidoedlmpjmnaa.AddrW
namespace Go.Proofs.Ytjidoedlmpjmnaa.AddrW
open Go.RowKit Go.Proofs.Ytjidoedlmpjmnaa.AddrM Go.Proofs.Ytjidoedlmpjmnaa.Bits Go.Proofs.Ytjidoedlmpjmnaa.Help Go.Proofs.YtjidoedlmpjmnaaW.PrintWords Go.Proofs.YtjidoedlmpjmnaaW.PrintLast Go.Proofs.YtjidoedlmpjmnaaW.PrintMore
set_option linter.unusedVariables false
set_option linter.unusedSimpArgs false
theorem MF.below {w W W1 : World} {g : Nat} {v : Bool} {bs ms : List Int} (h : MF w W g v bs ms) (hB : Below W.heap.size W W1) : MF w W1 g v bs ms := ⟨blk_below h.a hB, blk_below h.z hB, blk_below h.m hB, below_step h.b hB, h.g⟩
end Go.Proofs.Ytjidoedlmpjmnaa.AddrW
namespace Go.Proofs.Ytjidoedlmpjmnaa.AddrW
open Go.RowKit Go.Proofs.Ytjidoedlmpjmnaa.AddrEq Go.Proofs.Ytjidoedlmpjmnaa.AddrM Go.Proofs.Ytjidoedlmpjmnaa.Bits Go.Proofs.Ytjidoedlmpjmnaa.Help Go.Proofs.YtjidoedlmpjmnaaW.PrintWords Go.Proofs.YtjidoedlmpjmnaaW.PrintLast Go.Proofs.YtjidoedlmpjmnaaW.PrintMore
set_option linter.unusedVariables false
set_option linter.unusedSimpArgs false
def wiB (v : Bool) (bs : List Int) (u : Bool) (cs : List Int) (n : Int) : Bool := mE v bs n == 0 && (mE u cs n == 0 && (mV v bs n == mV u cs n && decide (mB v bs n = mB u cs n)))
/-- The sixteen bytes of an address loaded. -/
theorem load_b16 {w : World} {g : Nat} {v : Bool} {bs : List Int} (hl : bs.length = 16) {t : TypeId} (hb : w.heap[g]? = some (.cells (av v bs) t (0, 0))) : (loadVar 22 ⟨g, 1, none⟩).run Try.prog w = .ok (.agg (nums .u8 bs).toArray) w :=
  run_loadVar_mid w g 1 22 (nums .u8 bs) _ (fun j x hx => by
    have hj : j < bs.length := by have := (List.getElem?_eq_some_iff.1 hx).1; simpa [nums] using this
    rw [blk_cell hb, av_at v hj, ← hx]
    simp [nums, List.getElem?_eq_getElem hj, List.getD_eq_getElem?_getD]) Try.underlying22 rfl (by
    have h : (Try.prog.info? 22).map (·.size) = some 16 := by kernel_rfl
    rw [h]; simp [nums, hl])
end Go.Proofs.Ytjidoedlmpjmnaa.AddrW
namespace Go.Proofs.Ytjidoedlmpjmnaa.AddrW
open Go.RowKit Go.Proofs.Ytjidoedlmpjmnaa.AddrEq Go.Proofs.Ytjidoedlmpjmnaa.AddrM Go.Proofs.Ytjidoedlmpjmnaa.Bits Go.Proofs.Ytjidoedlmpjmnaa.Help Go.Proofs.YtjidoedlmpjmnaaW.PrintWords Go.Proofs.YtjidoedlmpjmnaaW.PrintLast Go.Proofs.YtjidoedlmpjmnaaW.PrintMore
set_option linter.unusedVariables false
set_option linter.unusedSimpArgs false
def kA : List Int := [10, 1, 2, 3, 0, 0, 0, 0, 0, 0, 0, 0, 0, 0, 0, 0]
def kM : List Int := [10, 0, 0, 0, 0, 0, 0, 0, 0, 0, 0, 0, 0, 0, 0, 0]
theorem kA_all : AllB kA := by unfold AllB kA; decide
theorem kM_all : AllB kM := by unfold AllB kM; decide
theorem k_of : ofV [10, 1, 2, 3] = false ∧ ofB [10, 1, 2, 3] = kA ∧ ofE [10, 1, 2, 3] = 0 := by decide
theorem k_mask : mV false kA 12 = false ∧ mB false kA 12 = kM ∧ mE false kA 12 = 0 := by decide
theorem k_bytes : byR false kM = [10, 0, 0, 0] ∧ byE false kM = 0 := by decide
theorem k_wi : wiB false kA false kM 12 = true := by decide
theorem k_less : decide (ordS false kM false kA < 0) = true := by decide
end Go.Proofs.Ytjidoedlmpjmnaa.AddrW
