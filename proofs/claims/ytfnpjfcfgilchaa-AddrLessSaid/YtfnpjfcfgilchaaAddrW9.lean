/- Addresses: bytes.Clone; Bytes. -/
import Derived.Test.YtfnpjfcfgilchaaAddrW3
import Derived.Test.YtfnpjfcfgilchaaApp
import Derived.Lib.SliceRun
import Derived.Outline
namespace Go.Proofs.Ytfnpjfcfgilchaa.AddrW
open Go.RowKit Go.Proofs.Ytfnpjfcfgilchaa.Bits Go.Proofs.Ytfnpjfcfgilchaa.Help Go.Proofs.YtfnpjfcfgilchaaW.PrintWords Go.Proofs.YtfnpjfcfgilchaaW.PrintLast Go.Proofs.YtfnpjfcfgilchaaW.PrintMore
set_option linter.unusedVariables false
set_option linter.unusedSimpArgs false
/-- A row of bytes of one's own. -/
def Owns (w : World) (base : Nat) (v : Value) (xs : List Int) : Prop := w.ownsRow base 5 1 v xs.length (nums .u8 xs)
theorem Owns.below {w w' : World} {base : Nat} {v : Value} {xs : List Int} (h : Owns w base v xs) (hB : Below w.heap.size w w') : Owns w' base v xs := owned_below h hB
theorem Owns.reads {w : World} {base : Nat} {v : Value} {xs : List Int} (h : Owns w base v xs) (hl : xs.length ≤ 9223372036854775807) : ∃ A c, v = .slice A xs.length c ∧ xs.length ≤ c ∧ Kd.C (Kd.int .u8) w A xs.length xs := owned_reads h hl
theorem Owns.lower {w : World} {base b : Nat} {v : Value} {xs : List Int} (h : Owns w base v xs) (hb : b ≤ base) : Owns w b v xs := by
  refine ⟨h.1, ?_⟩
  rcases h.2 with h1 | ⟨g, cap, cur, h1, h2, h3⟩
  · exact .inl h1
  · exact .inr ⟨g, cap, cur, h1, Nat.le_trans hb h2, h3⟩
theorem Owns.ne {w : World} {base g : Nat} {v : Value} {xs : List Int} {cs : Array Value} {t : TypeId} (h : Owns w base v xs) (hb : w.heap[g]? = some (.cells cs t (0, 0))) (ht : t ≠ 5) : some g ≠ v.ownBlock := by
  rcases h.2 with ⟨rfl, _⟩ | ⟨g', cap, cur, rfl, _, hg, _⟩
  · simp [Value.ownBlock]
  · simpa [Value.ownBlock] using blk_ne hb hg ht
theorem Owns.nil (w : World) (base : Nat) : Owns w base (.slice none 0 0) [] := owned_nil w base _ _
theorem info_u8 : (Try.prog.info? 5).map (fun i => (i.zero, i.size, i.bytes)) = some (some (.int .u8 0), 1, 1) := by kernel_rfl
/-- Bytes appended to a row of one's own, as the operation runs. -/
theorem append_bytes {W : World} {base ty c : Nat} {v : Value} {xs ys : List Int} {A : Option Addr} (HO : Owns W base v xs) (hr : Kd.C (Kd.int .u8) W A ys.length ys) (hl : xs.length + ys.length ≤ 140737488355328) (hb : base ≤ W.heap.size) :
    ∃ v1 w1, (Builtin.append_ #[22, 22] ty #[v, .slice A ys.length c]).run Try.prog W = .ok v1 w1 ∧ Owns w1 base v1 (xs ++ ys) ∧ W.grownBy w1 v.ownBlock ∧ (v1.ownBlock = v.ownBlock ∨ v1.ownBlock = some W.heap.size) := by
  obtain ⟨i0, hi, hz0, hz1, hz2⟩ := info_parts info_u8
  exact append_ints Try.underlying22 hi hz0 hz1 HO hr (by rw [hz2]; omega) hl hb
/-- What grows by a row of one's own keeps all below. -/
theorem Owns.keeps {w W w1 : World} {v : Value} {xs : List Int} (hB : Below w.heap.size w W) (HO : Owns W w.heap.size v xs) (hg : W.grownBy w1 v.ownBlock) : Below w.heap.size w w1 := below_owned hB HO hg
set_option maxHeartbeats 1000000 in
theorem Clone_any (A : Option Addr) (c : Nat) (xs : List Int) (w : World) (hr : Kd.C (Kd.int .u8) w A xs.length xs) (hl : xs.length ≤ 140737488351232) :
    Calls Try.prog 35 #[.slice A xs.length c] w fun e w' => ∃ v, e = .returned v ∧ Owns w' w.heap.size v xs ∧ Below w.heap.size w w' := by
  have hq : ∀ w : World, (binOp .eql 22 (.slice A xs.length c) (.slice none 0 0)).run Try.prog w = .ok (.bool A.isNone) w := fun w => Lib.run_eql_slice_nil w _ _ _ _ _ _ _ Try.underlying22
  rcases A with _ | ad
  · have h0 : xs = [] := by
      rcases xs with _ | ⟨x, r⟩
      · rfl
      · obtain ⟨ad, h, _⟩ := (Kd.reads_of_C (d := (0 : Int)) hr).2.2 (by simp)
        cases h
    subst h0
    have hq0 : ∀ w : World, (binOp .eql 22 (.slice none 0 c) (.slice none 0 0)).run Try.prog w = .ok (.bool true) w := fun w => hq w
    clear hr hq
    go_enter Try.func35, Try.ntmps35
    go_wp2_with fail
    go_ret
    exact ⟨.slice none 0 0, rfl, Owns.nil _ _, Below.refl _ _⟩
  · have HO : Owns (w.alloc (.cells #[] 5)) w.heap.size (.slice (some ⟨w.heap.size, 0, none⟩) 0 0) [] := World.ownsRow_made w #[] 0 (Nat.le_refl _) (Nat.zero_le _) rfl
    obtain ⟨v1, w1, hrun, hO, hg, _⟩ := append_bytes (ty := 22) (c := c) HO (Kd.C_alloc hr _) (by simp; omega) (by simp)
    have HB := Aside0.mk (Owns.keeps (below_alloc (Below.refl w.heap.size w) _) HO hg)
    rw [List.nil_append] at hO
    have HRUN := Aside0.mk hrun
    have HO1 := Aside0.mk hO
    clear hr HO hrun hO hg
    go_enter Try.func35, Try.ntmps35
    go_wp2_with ((with_reducible refine gate_dst (N := 7) rfl ?_); refine Kd.event_run rfl (exec_append rfl rfl rfl HRUN.out) ?_)
    go_ret
    exact ⟨v1, rfl, HO1.out, HB.out⟩
def byR (v : Bool) (bs : List Int) : List Int := if rightB v bs then bs.take (sz v) else []
def byE (v : Bool) (bs : List Int) : Int := if rightB v bs then 0 else 1
/-- The first bytes of an address, as a slice of it. -/
theorem reads_head {w : World} {g : Nat} {v : Bool} {bs : List Int} {t : TypeId} (hl : bs.length = 16) (hb : w.heap[g]? = some (.cells (av v bs) t (0, 0))) (n : Nat) (hn : n ≤ 16) : Kd.C (Kd.int .u8) w (some ⟨g, 1, none⟩) (bs.take n).length (bs.take n) :=
  C_of_block hb (by simp; omega) fun j hj => by
    have h1 : j < n := by simp at hj; omega
    rw [av_at v (by omega)]
    simp [List.getD_eq_getElem?_getD, List.getElem?_take, h1]
theorem Bytes_any (v : Bool) (bs : List Int) (w : World) (hl : bs.length = 16) :
    Calls Try.prog 12 #[.agg (av v bs)] w fun e w' => ∃ r, e = .returned (.tuple #[r, .int .i64 (byE v bs)]) ∧ Owns w' w.heap.size r (byR v bs) ∧ Below w.heap.size w w' := by
  have hb := blk_new w (.cells (av v bs) 25)
  have HB := Aside0.mk hb
  have HL := Aside0.mk hl
  have HLD := Aside0.mk (load_addr hl hb)
  clear hl hb
  go_enter Try.func12, Try.ntmps12
  go_wp2_with ((with_reducible refine gate_dst (N := 4) rfl ?_); refine Kd.event_run rfl (exec_load rfl rfl HLD.out) ?_)
  refine (Right_any v bs _ HL.out).mono ?_
  rintro e w1 ⟨rfl, hB⟩
  have HB1 := Aside0.mk (blk_below HB.out hB)
  have HW := Aside0.mk (below_step (below_alloc (Below.refl w.heap.size w) _) hB)
  clear HB HLD hB
  by_cases hr : rightB v bs = true
  · have E1 : Aside0 (byR v bs = bs.take (sz v)) := ⟨if_pos hr⟩
    have E2 : Aside0 (byE v bs = 0) := ⟨if_pos hr⟩
    rw [hr]
    have HLD := Aside0.mk (load_addr HL.out HB1.out)
    go_wp2_with ((with_reducible refine gate_dst (N := 8) rfl ?_); refine Kd.event_run rfl (exec_load rfl rfl HLD.out) ?_)
    refine (size_any v bs _).mono ?_
    rintro e w2 ⟨rfl, hB⟩
    replace HB1 := Aside0.mk (blk_below HB1.out hB)
    replace HW := Aside0.mk (below_step HW.out hB)
    clear HLD hB
    have hs := sz_le v
    have hlt : (bs.take (sz v)).length = sz v := by rw [List.length_take, HL.out]; exact Nat.min_eq_left hs
    have HC := Clone_any (some ⟨w.heap.size, 1, none⟩) 16 (bs.take (sz v)) w2 (reads_head HL.out HB1.out _ hs) (by omega)
    rw [hlt] at HC
    have HC2 := Aside0.mk HC
    have hs2 : ((sz v : Nat) : Int) ≤ 16 := by omega
    clear HC hlt hr
    generalize bs.take (sz v) = ys at *
    generalize sz v = n at *
    go_wp2_with fail
    refine HC2.out.mono ?_
    rintro e w3 ⟨r, rfl, hO, hB⟩
    have HO := Aside0.mk (hO.lower HW.out.size)
    replace HW := Aside0.mk (below_step HW.out hB)
    clear hO hB HC2
    go_wp2_with fail
    go_ret2
    exact ⟨r, by rw [E2.out]; rfl, by rw [E1.out]; exact HO.out, HW.out⟩
  · have hr' : rightB v bs = false := by simpa using hr
    have E1 : Aside0 (byR v bs = []) := ⟨if_neg hr⟩
    have E2 : Aside0 (byE v bs = 1) := ⟨if_neg hr⟩
    rw [hr']
    clear hr hr'
    go_wp2_with fail
    go_ret2
    exact ⟨_, by rw [E2.out]; rfl, by rw [E1.out]; exact Owns.nil _ _, HW.out⟩
theorem RefBytes_any (v : Bool) (bs : List Int) (w : World) (hl : bs.length = 16) :
    Calls Try.prog 13 #[.agg (av v bs)] w fun e w' => ∃ r, e = .returned (.tuple #[r, .int .i64 (byE v bs)]) ∧ Owns w' w.heap.size r (byR v bs) ∧ Below w.heap.size w w' := by
  have hb := blk_new w (.cells (av v bs) 25)
  have HB := Aside0.mk hb
  have HL := Aside0.mk hl
  have HLD := Aside0.mk (load_addr hl hb)
  clear hl hb
  go_enter Try.func13, Try.ntmps13
  go_wp2_with ((with_reducible refine gate_dst (N := 6) rfl ?_); refine Kd.event_run rfl (exec_load rfl rfl HLD.out) ?_)
  refine (refRight_any v bs _ HL.out).mono ?_
  rintro e w1 ⟨rfl, hB⟩
  have HB1 := Aside0.mk (blk_below HB.out hB)
  have HW := Aside0.mk (below_step (below_alloc (Below.refl w.heap.size w) _) hB)
  clear HB HLD hB
  by_cases hr : rightB v bs = true
  · have E1 : Aside0 (byR v bs = bs.take (sz v)) := ⟨if_pos hr⟩
    have E2 : Aside0 (byE v bs = 0) := ⟨if_pos hr⟩
    rw [hr]
    clear hr
    go_wp2_with fail
    go_loopg [4, 5] (sz v) (fun kq v4 v5 w' => ∃ i : Nat, Aside0 (kq + i = sz v) ∧ v5 = .int .i64 (i : Int) ∧ Aside0 (w'.heap[w.heap.size]? = some (.cells (av v bs) 25 (0, 0))) ∧ Aside0 (Owns w' w.heap.size v4 (bs.take i)) ∧ Aside0 (Below w.heap.size w w'))
    case atStart => exact ⟨0, ⟨by simp⟩, rfl, HB1, ⟨Owns.nil _ _⟩, HW⟩
    case round =>
      clear HB1 HW
      obtain ⟨i, HK, rfl, HB1, HO, HW⟩ := hrel
      have HLD := Aside0.mk (load_addr HL.out HB1.out)
      go_wp2_with ((with_reducible refine gate_dst (N := 10) rfl ?_); refine Kd.event_run rfl (exec_load rfl rfl HLD.out) ?_)
      refine (refsize_any v bs _).mono ?_
      rintro e w2 ⟨rfl, hB⟩
      have hb := blk_below HB1.out hB
      replace HO := Aside0.mk (HO.out.below hB)
      replace HW := Aside0.mk (below_step HW.out hB)
      clear HB1 HLD hB
      have HB1 := Aside0.mk hb
      clear hb
      have hs := sz_le v
      cases gk with
      | zero =>
        have hi : i = sz v := by have := HK.out; omega
        subst hi
        go_wp2_with fail
        go_ret2
        exact ⟨_, by rw [E2.out]; rfl, by rw [E1.out]; exact HO.out, HW.out⟩
      | succ kq =>
        have hi : i < sz v := by have := HK.out; omega
        have hi2 : ((i : Nat) : Int) < ((sz v : Nat) : Int) := by omega
        have hi3 : ((i : Nat) : Int) < 16 := by omega
        have hc : w2.cell? ⟨w.heap.size, 1 + i, none⟩ = some (.int .u8 (bs.getD i 0)) := (blk_cell HB1.out _).trans (av_at v (by rw [HL.out]; omega))
        have hw := blk_lt HB1.out
        generalize hx : bs.getD i 0 = x at *
        have hone : Kd.C (Kd.int .u8) (w2.alloc (.cells #[.int .u8 x] 5)) (some ⟨w2.heap.size, 0, none⟩) [x].length [x] := C_of_block0 (more := []) (blk_new w2 _) (by simp)
        obtain ⟨v1, w3, hrun, hO, hg, _⟩ := append_bytes (ty := 22) (c := 1) (HO.out.below (below_alloc (Below.refl _ _) _)) hone (by simp; omega) (by have := HW.out.size; simp; omega)
        have hB3 := Owns.keeps (below_alloc HW.out _) (HO.out.below (below_alloc (Below.refl _ _) _)) hg
        have HRUN := Aside0.mk hrun
        have hb3 := blk_grown (blk_alloc HB1.out (.cells #[.int .u8 x] 5)) hg (HO.out.ne HB1.out (by decide))
        have HO3 := Aside0.mk hO
        have HW3 := Aside0.mk hB3
        have HB3 := Aside0.mk hb3
        have HTS : Aside0 (bs.take i ++ [x] = bs.take (i + 1)) := ⟨by rw [List.take_succ_eq_append_getElem (by rw [HL.out]; omega), ← hx, List.getD_eq_getElem?_getD, List.getElem?_eq_getElem (by rw [HL.out]; omega)]; rfl⟩
        clear hone hrun hO hg hB3 hb3 HB1 HO HW hx
        go_wp2_with ((with_reducible refine gate_dst (N := 21) rfl ?_); refine Kd.event_run rfl (exec_append rfl rfl rfl HRUN.out) ?_)
        go_roundg kq
        case measure => omega
        case rel => exact ⟨i + 1, ⟨by have := HK.out; omega⟩, rfl, HB3, ⟨by rw [← HTS.out]; exact HO3.out⟩, HW3⟩
  · have hr' : rightB v bs = false := by simpa using hr
    have E1 : Aside0 (byR v bs = []) := ⟨if_neg hr⟩
    have E2 : Aside0 (byE v bs = 1) := ⟨if_neg hr⟩
    rw [hr']
    clear hr hr'
    go_wp2_with fail
    go_ret2
    exact ⟨_, by rw [E2.out]; rfl, by rw [E1.out]; exact Owns.nil _ _, HW.out⟩
end Go.Proofs.Ytfnpjfcfgilchaa.AddrW
