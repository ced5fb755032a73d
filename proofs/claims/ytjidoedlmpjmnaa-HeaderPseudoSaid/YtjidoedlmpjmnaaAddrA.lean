/- AddrA: AddrCmp, AddrEq2, AddrW4, AddrW5, AddrW6, AddrO, AddrW8. -/
import Derived.Test.YtjidoedlmpjmnaaProg
import Derived.Test.YtjidoedlmpjmnaaBase
import Derived.Lib.Bytealg
import Derived.Lib.BytesEntry
import Derived.Laws.Externs
import Derived.Test.YtjidoedlmpjmnaaAddrL
import Derived.Deep.QuietTactic
import Derived.BigQuiet
namespace Go.Proofs.Ytjidoedlmpjmnaa.AddrCmp
open Go.RowKit Go.Proofs.Ytjidoedlmpjmnaa.Help Go.Proofs.YtjidoedlmpjmnaaW.PrintWords Go.Proofs.YtjidoedlmpjmnaaW.PrintLast Go.Proofs.YtjidoedlmpjmnaaW.PrintMore
set_option linter.unusedVariables false
set_option linter.unusedSimpArgs false
theorem loads (P : Program) {A : Addr} {xs : List Int} {w : World} {n : Nat} (hn : n = xs.length) (hr : Kd.C (Kd.int .u8) w (some A) xs.length xs) : (Extern.Bytes.loadBytes A n .empty).run P w = .ok ⟨(Lib.bytesOf xs).toArray⟩ w := by
  subst hn
  have h := Lib.run_loadBytesX (P := P) (w := w) xs A .empty (fun j x hx => by
    have hj : j < xs.length := (List.getElem?_eq_some_iff.1 hx).1
    obtain ⟨ad, ha, hc⟩ := (Kd.reads_of_C (d := (0 : Int)) hr).2.2 (by omega)
    cases ha
    rw [hc j hj, List.getD_eq_getElem?_getD, hx]; rfl)
  rw [h]
  simp
end Go.Proofs.Ytjidoedlmpjmnaa.AddrCmp
namespace Go.Proofs.Ytjidoedlmpjmnaa.AddrW
open Go.RowKit Go.Proofs.Ytjidoedlmpjmnaa.AddrEq Go.Proofs.Ytjidoedlmpjmnaa.Bits Go.Proofs.Ytjidoedlmpjmnaa.Help Go.Proofs.YtjidoedlmpjmnaaW.PrintWords Go.Proofs.YtjidoedlmpjmnaaW.PrintLast Go.Proofs.YtjidoedlmpjmnaaW.PrintMore
set_option linter.unusedVariables false
set_option linter.unusedSimpArgs false
theorem part_bool (v : Bool) (bs : List Int) (w : World) : (part 4 (av v bs) 0).run Try.prog w = .ok (.bool v) w := by
  have hu := Try.underlying4
  simp [part, isAgg, run_underlying hu, av_at0, go_sem]
theorem part_b16 (v : Bool) {bs : List Int} (hl : bs.length = 16) (w : World) : (part 22 (av v bs) 1).run Try.prog w = .ok (.agg (nums .u8 bs).toArray) w := by
  have hu := Try.underlying22
  have hi : (Try.prog.info? 22).map (·.size) = some 16 := by kernel_rfl
  have he : (av v bs).extract 1 17 = (nums .u8 bs).toArray := by
    apply Array.ext'
    simp [av, Array.toList_extract, List.extract_eq_take_drop]
    rw [List.take_of_length_le]
    simp [nums, hl]
  obtain ⟨j, hj, hs⟩ := Option.map_eq_some_iff.1 hi
  simp [part, isAgg, run_underlying hu, sizeOf, typeInfo, hj, hs, he, go_sem]
theorem eq_bool (d : Nat) (a b : Bool) (w : World) : (Op.equalIn (d + 1) 4 (.bool a) (.bool b)).run Try.prog w = .ok (a == b) w := by
  have hu := Try.underlying4
  simp [Op.equalIn, run_underlying hu, go_sem]
theorem eq_addr (v : Bool) {bs : List Int} (u : Bool) {cs : List Int} (hl : bs.length = 16) (hm : cs.length = 16) (w : World) :
    (Op.equalIn 10000 24 (.agg (av v bs)) (.agg (av u cs))).run Try.prog w = .ok (v == u && decide (bs = cs)) w := by
  refine eqA_of (d := 9999) Try.underlying24 Try.stoodInHeld24 ?_
  refine eqf_cons (by rfl) (part_bool v bs w) (part_bool u cs w) (eq_bool 9998 v u w) ?_
  exact eqf_last (by rfl) (part_b16 v hl w) (part_b16 u hm w) (eq_b16 9997 hl hm w)
end Go.Proofs.Ytjidoedlmpjmnaa.AddrW
namespace Go.Proofs.Ytjidoedlmpjmnaa.AddrW
open Go.RowKit Go.Proofs.Ytjidoedlmpjmnaa.AddrCmp Go.Proofs.Ytjidoedlmpjmnaa.AddrEq Go.Proofs.Ytjidoedlmpjmnaa.Bits Go.Proofs.Ytjidoedlmpjmnaa.Help Go.Proofs.YtjidoedlmpjmnaaW.PrintWords Go.Proofs.YtjidoedlmpjmnaaW.PrintLast Go.Proofs.YtjidoedlmpjmnaaW.PrintMore
set_option linter.unusedVariables false
set_option linter.unusedSimpArgs false
def ordS (v : Bool) (bs : List Int) (u : Bool) (cs : List Int) : Int := if v = u then Lib.compareBytes (Lib.bytesOf bs) (Lib.bytesOf cs) else if v then 1 else -1
/-- The sixteen bytes behind the first cell. -/
theorem reads16 {w : World} {g : Nat} {v : Bool} {bs : List Int} {t : TypeId} (hl : bs.length = 16) (hb : w.heap[g]? = some (.cells (av v bs) t (0, 0))) : Kd.C (Kd.int .u8) w (some ⟨g, 1, none⟩) bs.length bs :=
  C_of_block hb (by omega) fun j hj => av_at v hj
end Go.Proofs.Ytjidoedlmpjmnaa.AddrW
namespace Go.Proofs.Ytjidoedlmpjmnaa.AddrW
open Go.RowKit Go.Proofs.Ytjidoedlmpjmnaa.AddrCmp Go.Proofs.Ytjidoedlmpjmnaa.AddrEq Go.Proofs.Ytjidoedlmpjmnaa.Bits Go.Proofs.Ytjidoedlmpjmnaa.Help Go.Proofs.YtjidoedlmpjmnaaW.PrintWords Go.Proofs.YtjidoedlmpjmnaaW.PrintLast Go.Proofs.YtjidoedlmpjmnaaW.PrintMore
set_option linter.unusedVariables false
set_option linter.unusedSimpArgs false
end Go.Proofs.Ytjidoedlmpjmnaa.AddrW
namespace Go.Proofs.Ytjidoedlmpjmnaa.AddrW
open Go.RowKit Go.Proofs.Ytjidoedlmpjmnaa.AddrCmp Go.Proofs.Ytjidoedlmpjmnaa.AddrEq Go.Proofs.Ytjidoedlmpjmnaa.Bits Go.Proofs.Ytjidoedlmpjmnaa.Help Go.Proofs.YtjidoedlmpjmnaaW.PrintWords Go.Proofs.YtjidoedlmpjmnaaW.PrintLast Go.Proofs.YtjidoedlmpjmnaaW.PrintMore
set_option linter.unusedVariables false
set_option linter.unusedSimpArgs false
def cmpL : List Int → List Int → Int
  | x :: xs, y :: ys => if x = y then cmpL xs ys else x - y
  | _, _ => 0
def refCmpS (v : Bool) (bs : List Int) (u : Bool) (cs : List Int) : Int := if v = u then cmpL bs cs else if v then 1 else -1
end Go.Proofs.Ytjidoedlmpjmnaa.AddrW
namespace Go.Proofs.Ytjidoedlmpjmnaa.AddrO
open Go.RowKit Go.Proofs.Ytjidoedlmpjmnaa.AddrM Go.Proofs.Ytjidoedlmpjmnaa.AddrW
set_option linter.unusedVariables false
set_option linter.unusedSimpArgs false
def sgn (x : Int) : Int := if x < 0 then -1 else if 0 < x then 1 else 0
theorem sgn_lt (x : Int) : sgn x < 0 ↔ x < 0 := by unfold sgn; split <;> (try split) <;> omega
theorem sgn_zero (x : Int) : sgn x = 0 ↔ x = 0 := by unfold sgn; split <;> (try split) <;> omega
theorem cmp_sgn : ∀ (xs ys : List Int), xs.length = ys.length → AllB xs → AllB ys → Lib.compareBytes (Lib.bytesOf xs) (Lib.bytesOf ys) = sgn (cmpL xs ys)
  | [], [], _, _, _ => rfl
  | [], _ :: _, h, _, _ => by simp at h
  | _ :: _, [], h, _, _ => by simp at h
  | x :: xs, y :: ys, h, hx, hy => by
    have ih := cmp_sgn xs ys (by simpa using h) (fun a ha => hx a (List.mem_cons_of_mem _ ha)) (fun a ha => hy a (List.mem_cons_of_mem _ ha))
    have h1 := hx x List.mem_cons_self
    have h2 := hy y List.mem_cons_self
    have e1 : (UInt8.ofNat x.toNat < UInt8.ofNat y.toNat) ↔ x < y := by
      rw [UInt8.lt_iff_toNat_lt, UInt8.toNat_ofNat', UInt8.toNat_ofNat', Nat.mod_eq_of_lt (by omega), Nat.mod_eq_of_lt (by omega)]; omega
    have e2 : (UInt8.ofNat y.toNat < UInt8.ofNat x.toNat) ↔ y < x := by
      rw [UInt8.lt_iff_toNat_lt, UInt8.toNat_ofNat', UInt8.toNat_ofNat', Nat.mod_eq_of_lt (by omega), Nat.mod_eq_of_lt (by omega)]; omega
    simp only [Lib.bytesOf, List.map_cons, Lib.compareBytes, cmpL]
    by_cases a : x < y
    · rw [if_pos (e1.2 a), if_neg (by omega)]; unfold sgn; rw [if_pos (by omega)]
    · rw [if_neg (fun h => a (e1.1 h))]
      by_cases b : y < x
      · rw [if_pos (e2.2 b), if_neg (by omega)]; unfold sgn; rw [if_neg (by omega), if_pos (by omega)]
      · rw [if_neg (fun h => b (e2.1 h)), if_pos (by omega)]
        exact ih
theorem ord_sgn (v : Bool) (bs : List Int) (u : Bool) (cs : List Int) (hl : bs.length = 16) (hm : cs.length = 16) (hb : AllB bs) (hc : AllB cs) : ordS v bs u cs = sgn (refCmpS v bs u cs) := by
  unfold ordS refCmpS
  split
  · exact cmp_sgn bs cs (by omega) hb hc
  · split <;> decide
theorem cmpL_self : ∀ xs : List Int, cmpL xs xs = 0
  | [] => rfl
  | x :: xs => by simp [cmpL, cmpL_self xs]
theorem cmpL_zero : ∀ (xs ys : List Int), xs.length = ys.length → cmpL xs ys = 0 → xs = ys
  | [], [], _, _ => rfl
  | [], _ :: _, h, _ => by simp at h
  | _ :: _, [], h, _ => by simp at h
  | x :: xs, y :: ys, h, e => by
    simp only [cmpL] at e
    split at e
    · rename_i q; rw [q, cmpL_zero xs ys (by simpa using h) e]
    · omega
theorem cmpL_neg : ∀ (xs ys : List Int), cmpL ys xs = - cmpL xs ys
  | [], [] => rfl
  | [], _ :: _ => rfl
  | _ :: _, [] => rfl
  | x :: xs, y :: ys => by
    simp only [cmpL]
    by_cases h : x = y
    · rw [if_pos h, if_pos h.symm, cmpL_neg xs ys]
    · rw [if_neg h, if_neg (fun e => h e.symm)]; omega
theorem cmpL_trans : ∀ (xs ys zs : List Int), xs.length = ys.length → ys.length = zs.length → cmpL xs ys < 0 → cmpL ys zs < 0 → cmpL xs zs < 0
  | [], [], [], _, _, h, _ => by simp [cmpL] at h
  | [], _ :: _, _, h, _, _, _ => by simp at h
  | _ :: _, [], _, h, _, _, _ => by simp at h
  | _, [], _ :: _, _, h, _, _ => by simp at h
  | _, _ :: _, [], _, h, _, _ => by simp at h
  | x :: xs, y :: ys, z :: zs, h1, h2, a, b => by
    simp only [cmpL] at a b ⊢
    have ih := cmpL_trans xs ys zs (by simpa using h1) (by simpa using h2)
    by_cases p : x = y
    · subst p
      rw [if_pos rfl] at a
      by_cases q : x = z
      · rw [if_pos q] at b ⊢; exact ih a b
      · rw [if_neg q] at b ⊢; exact b
    · rw [if_neg p] at a
      by_cases q : y = z
      · subst q; rw [if_neg p]; exact a
      · rw [if_neg q] at b; rw [if_neg (by omega)]; omega
theorem rc_self (v : Bool) (bs : List Int) : refCmpS v bs v bs = 0 := by simp [refCmpS, cmpL_self]
theorem rc_zero (v : Bool) (bs : List Int) (u : Bool) (cs : List Int) (h : bs.length = cs.length) (e : refCmpS v bs u cs = 0) : v = u ∧ bs = cs := by
  unfold refCmpS at e
  split at e
  · rename_i q; exact ⟨q, cmpL_zero _ _ h e⟩
  · split at e <;> omega
theorem rc_neg (v : Bool) (bs : List Int) (u : Bool) (cs : List Int) : refCmpS u cs v bs = - refCmpS v bs u cs := by
  unfold refCmpS
  cases v <;> cases u <;> simp [cmpL_neg bs cs]
theorem rc_trans (v : Bool) (bs : List Int) (u : Bool) (cs : List Int) (t : Bool) (ds : List Int) (h1 : bs.length = cs.length) (h2 : cs.length = ds.length) (a : refCmpS v bs u cs < 0) (b : refCmpS u cs t ds < 0) : refCmpS v bs t ds < 0 := by
  unfold refCmpS at *
  cases v <;> cases u <;> cases t <;> simp at a b ⊢ <;> exact cmpL_trans _ _ _ h1 h2 a b
end Go.Proofs.Ytjidoedlmpjmnaa.AddrO
namespace Go.Proofs.Ytjidoedlmpjmnaa.AddrW
open Go.RowKit Go.Proofs.Ytjidoedlmpjmnaa.Bits Go.Proofs.Ytjidoedlmpjmnaa.Help Go.Proofs.YtjidoedlmpjmnaaW.PrintWords Go.Proofs.YtjidoedlmpjmnaaW.PrintLast Go.Proofs.YtjidoedlmpjmnaaW.PrintMore
set_option linter.unusedVariables false
set_option linter.unusedSimpArgs false
set_option maxHeartbeats 2000000 in
theorem Of_any (A : Option Addr) (c : Nat) (xs : List Int) (w : World) (hr : Kd.C (Kd.int .u8) w A xs.length xs) :
    Calls Try.prog 59 #[.slice A xs.length c] w fun e w' => e = .returned (.tuple #[.agg (av (ofV xs) (ofB xs)), .int .i64 (ofE xs)]) ∧ Below w.heap.size w w' := by
  have HR := Aside0.mk hr
  clear hr
  go_enter Try.func59, Try.ntmps59
  by_cases h4 : xs.length = 4
  · have e4 : ((xs.length : Int) == 4) = true := by rw [h4]; rfl
    have e6 : ((xs.length : Int) == 16) = false := by rw [h4]; rfl
    have H4 := Aside0.mk h4
    have hle : xs.length ≤ 16 := by omega
    clear h4
    have HST0 := Aside0.mk (store_new (w.alloc (.cells (av false (zs 16)) 24)) (g := w.heap.size + 1) (Array.size_push _).symm (v := false) (u := false) zs16 zs16)
    go_upto_region 5 with ((with_reducible refine gate_store (t := 24) (p := 4) (v := .tmp 13) rfl ?_); refine event_skip rfl (exec_store rfl rfl rfl HST0.out) ?_)
    clear HST0
    have hb : ((w.alloc (.cells (av false (zs 16)) 24)).alloc (.cells (av false (zs 16)) 24)).heap[w.heap.size]? = some (.cells (av false (zs 16)) 24 (0, 0)) := blk_alloc (blk_new w _) _
    have hz : ((w.alloc (.cells (av false (zs 16)) 24)).alloc (.cells (av false (zs 16)) 24)).heap[w.heap.size + 1]? = some (.cells (av false (zs 16)) 24 (0, 0)) := blk_new_at (Array.size_push _).symm
    have hW : Below w.heap.size w ((w.alloc (.cells (av false (zs 16)) 24)).alloc (.cells (av false (zs 16)) 24)) := below_alloc (below_alloc (Below.refl _ _) _) _
    have hex : ∃ W, W = (w.alloc (.cells (av false (zs 16)) 24)).alloc (.cells (av false (zs 16)) 24) := ⟨_, rfl⟩
    obtain ⟨W, hWe⟩ := hex
    rw [← hWe] at hb hz hW
    change Code.wp _ _ _ _ ((w.alloc (.cells (av false (zs 16)) 24)).alloc (.cells (av false (zs 16)) 24))
    rw [← hWe]
    clear hWe
    obtain ⟨w1, hrun, hz1, hg⟩ := copy_in (c := c) hz (Kd.C_below HR.out hW) hle
    have hl1 : (xs ++ zs (16 - xs.length)).length = 16 := by simp [zs]; omega
    have hb1 := blk_grown hb hg (by simp)
    have hB1 := hW.grown hg hW.size (fun k hk => by cases hk; exact Nat.le_succ _)
    have HRUN := Aside0.mk hrun
    generalize hys : xs ++ zs (16 - xs.length) = ys at *
    have HLD := Aside0.mk (load_addr hl1 hz1)
    have HST := Aside0.mk (store_addr (v := false) (bs := ys) hl1 (by simp [zs]) hb1)
    have HR2 := Aside0.mk (setRow_heap w1 w.heap.size _ (av false ys) _ _ hb1)
    have HB2 := Aside0.mk (hB1.grown (World.grownBy_setRow' w1 w.heap.size (av false ys)) hB1.size (fun k hk => by cases hk; exact Nat.le_refl _))
    have HL1 := Aside0.mk (And.intro hl1 hys)
    clear hb hz hW hrun hz1 hg hb1 hB1 hl1 HR hys
    go_wp2_with (first | ((with_reducible refine gate_dst (N := 17) rfl ?_); refine Kd.event_run rfl (exec_copy rfl rfl rfl HRUN.out) ?_) | ((with_reducible refine gate_dst (N := 18) rfl ?_); refine Kd.event_run rfl (exec_load rfl rfl HLD.out) ?_) | ((with_reducible refine gate_store (t := 24) (p := 2) (v := .tmp 18) rfl ?_); refine event_skip rfl (exec_store rfl rfl rfl HST.out) ?_))
    refine bodyPost_ret (results_addr rfl _ _ w.heap.size HL1.out.1 rfl HR2.out) rfl ?_
    refine ⟨?_, HB2.out⟩
    have h4 := H4.out
    rw [← HL1.out.2]
    simp [ofV, ofB, ofE, h4]
  · by_cases h6 : xs.length = 16
    · have e4 : ((xs.length : Int) == 4) = false := by rw [h6]; rfl
      have e6 : ((xs.length : Int) == 16) = true := by rw [h6]; rfl
      have H4 := Aside0.mk (And.intro h4 h6)
      have hle : xs.length ≤ 16 := by omega
      clear h4 h6
      have HST0 := Aside0.mk (store_new (w.alloc (.cells (av false (zs 16)) 24)) (g := w.heap.size + 1) (Array.size_push _).symm (v := true) (u := false) zs16 zs16)
      go_upto_region 5 with ((with_reducible refine gate_store (t := 24) (p := 4) (v := .tmp 13) rfl ?_); refine event_skip rfl (exec_store rfl rfl rfl HST0.out) ?_)
      clear HST0
      have hb : ((w.alloc (.cells (av false (zs 16)) 24)).alloc (.cells (av true (zs 16)) 24)).heap[w.heap.size]? = some (.cells (av false (zs 16)) 24 (0, 0)) := blk_alloc (blk_new w _) _
      have hz : ((w.alloc (.cells (av false (zs 16)) 24)).alloc (.cells (av true (zs 16)) 24)).heap[w.heap.size + 1]? = some (.cells (av true (zs 16)) 24 (0, 0)) := blk_new_at (Array.size_push _).symm
      have hW : Below w.heap.size w ((w.alloc (.cells (av false (zs 16)) 24)).alloc (.cells (av true (zs 16)) 24)) := below_alloc (below_alloc (Below.refl _ _) _) _
      have hex : ∃ W, W = (w.alloc (.cells (av false (zs 16)) 24)).alloc (.cells (av true (zs 16)) 24) := ⟨_, rfl⟩
      obtain ⟨W, hWe⟩ := hex
      rw [← hWe] at hb hz hW
      change Code.wp _ _ _ _ ((w.alloc (.cells (av false (zs 16)) 24)).alloc (.cells (av true (zs 16)) 24))
      rw [← hWe]
      clear hWe
      obtain ⟨w1, hrun, hz1, hg⟩ := copy_in (c := c) hz (Kd.C_below HR.out hW) hle
      have hl1 : (xs ++ zs (16 - xs.length)).length = 16 := by simp [zs]; omega
      have hb1 := blk_grown hb hg (by simp)
      have hB1 := hW.grown hg hW.size (fun k hk => by cases hk; exact Nat.le_succ _)
      have HRUN := Aside0.mk hrun
      generalize hys : xs ++ zs (16 - xs.length) = ys at *
      have HLD := Aside0.mk (load_addr hl1 hz1)
      have HST := Aside0.mk (store_addr (v := true) (bs := ys) hl1 (by simp [zs]) hb1)
      have HR2 := Aside0.mk (setRow_heap w1 w.heap.size _ (av true ys) _ _ hb1)
      have HB2 := Aside0.mk (hB1.grown (World.grownBy_setRow' w1 w.heap.size (av true ys)) hB1.size (fun k hk => by cases hk; exact Nat.le_refl _))
      have HL1 := Aside0.mk (And.intro hl1 hys)
      clear hb hz hW hrun hz1 hg hb1 hB1 hl1 HR hys
      go_wp2_with (first | ((with_reducible refine gate_dst (N := 17) rfl ?_); refine Kd.event_run rfl (exec_copy rfl rfl rfl HRUN.out) ?_) | ((with_reducible refine gate_dst (N := 18) rfl ?_); refine Kd.event_run rfl (exec_load rfl rfl HLD.out) ?_) | ((with_reducible refine gate_store (t := 24) (p := 2) (v := .tmp 18) rfl ?_); refine event_skip rfl (exec_store rfl rfl rfl HST.out) ?_))
      refine bodyPost_ret (results_addr rfl _ _ w.heap.size HL1.out.1 rfl HR2.out) rfl ?_
      refine ⟨?_, HB2.out⟩
      have h6 := H4.out.2
      rw [← HL1.out.2]
      simp [ofV, ofB, ofE, h6]
    · have e4 : ((xs.length : Int) == 4) = false := by simpa using (by omega : ¬ (xs.length : Int) = 4)
      have e6 : ((xs.length : Int) == 16) = false := by simpa using (by omega : ¬ (xs.length : Int) = 16)
      have HST := Aside0.mk (store_new w rfl (v := false) (u := false) zs16 zs16)
      have H4 := Aside0.mk (And.intro h4 h6)
      clear h4 h6
      go_wp2_with ((with_reducible refine gate_store (t := 24) (p := 2) (v := .tmp 19) rfl ?_); refine event_skip rfl (exec_store rfl rfl rfl HST.out) ?_)
      have h4 := H4.out.1
      have h6 := H4.out.2
      refine bodyPost_ret (results_addr (v := false) (bs := zs 16) rfl _ _ w.heap.size (by simp [zs]) rfl (blk_new w (.cells (av false (zs 16)) 24))) rfl ?_
      refine ⟨?_, below_alloc (Below.refl _ _) _⟩
      simp [ofV, ofB, ofE, h4, h6]
end Go.Proofs.Ytjidoedlmpjmnaa.AddrW
