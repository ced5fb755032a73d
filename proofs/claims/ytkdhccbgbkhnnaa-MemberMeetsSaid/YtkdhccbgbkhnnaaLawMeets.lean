/- MemberMeets, walked. -/
import Derived.Test.YtkdhccbgbkhnnaaMemC
import Derived.Test.YtkdhccbgbkhnnaaMemP
import Derived.Test.YtkdhccbgbkhnnaaMemK
import Derived.Test.YtkdhccbgbkhnnaaExecEq
namespace Go.Proofs.Ytkdhccbgbkhnnaa.Memb
open Go.RowKit Go.Proofs.Ytkdhccbgbkhnnaa.ExecEq Go.Proofs.Ytkdhccbgbkhnnaa.MapI Go.Proofs.Ytkdhccbgbkhnnaa.Mem Go.Proofs.Ytkdhccbgbkhnnaa.Help Go.Proofs.YtkdhccbgbkhnnaaW.PrintWords Go.Proofs.YtkdhccbgbkhnnaaW.PrintLast Go.Proofs.YtkdhccbgbkhnnaaW.PrintMore
set_option linter.unusedVariables false
set_option linter.unusedSimpArgs false
/-- Two views, the best so far. -/
structure MS (w0 : World) (g1 b1 g2 b2 gb : Nat) (m1 m2 best : Int × Int) (W : World) : Prop where
  v1 : VW (0 : Nat) g1 b1 [(0, 0), m1] W
  v2 : VW (0 : Nat) g2 b2 [(0, 0), m2] W
  bx : BI 23 gb best W
  b : Below w0.heap.size w0 W
  ne : b1 ≠ b2
  l1 : w0.heap.size ≤ b1
  l2 : w0.heap.size ≤ b2
  lb : w0.heap.size ≤ gb
theorem cells_kept {W W' : World} {g b : Nat} {cs : Array Value} {t : TypeId} {fr : Nat × Nat} {P : Program} {k : TypeId} {xs : List (Int × Int)} (h : W.heap[g]? = some (.cells cs t fr)) (hm : IMap P k W b xs) (hg : W.grownBy W' (some b)) : W'.heap[g]? = some (.cells cs t fr) := by
  refine (hg.block g (Array.getElem?_eq_some_iff.1 h).1 (fun e => ?_)).trans h
  obtain ⟨es, cl, hb, _⟩ := hm
  rw [← Option.some.inj e, h] at hb
  cases hb
theorem map_kept {W W' : World} {g b : Nat} {cs : Array Value} {t : TypeId} {fr : Nat × Nat} {P : Program} {k : TypeId} {xs : List (Int × Int)} (h : W.heap[g]? = some (.cells cs t fr)) (hm : IMap P k W b xs) (hg : W.grownBy W' (some g)) : IMap P k W' b xs := by
  refine hm.kept hg (fun e => ?_)
  obtain ⟨es, cl, hb, _⟩ := hm
  rw [Option.some.inj e, h] at hb
  cases hb
section
variable {w0 W W' : World} {g1 b1 g2 b2 gb : Nat} {m1 m2 best : Int × Int}
theorem MS.below (h : MS w0 g1 b1 g2 b2 gb m1 m2 best W) (hB : Below W.heap.size W W') : MS w0 g1 b1 g2 b2 gb m1 m2 best W' :=
  ⟨h.v1.kept hB, h.v2.kept hB, blk_below h.bx hB, below_step h.b hB, h.ne, h.l1, h.l2, h.lb⟩
theorem MS.drew (h : MS w0 g1 b1 g2 b2 gb m1 m2 best W) : MS w0 g1 b1 g2 b2 gb m1 m2 best W.drew := h.below (below_drew (Below.refl _ _))
theorem MS.hear1 (h : MS w0 g1 b1 g2 b2 gb m1 m2 best W) {q : Int × Int} (hV : VW (0 : Nat) g1 b1 [(0, 0), q] W') (hg : W.grownBy W' (some b1)) : MS w0 g1 b1 g2 b2 gb q m2 best W' :=
  ⟨hV, ⟨cells_kept h.v2.v h.v1.m hg, h.v2.m.kept hg (fun e => h.ne (Option.some.inj e).symm)⟩, cells_kept h.bx h.v1.m hg, h.b.grown hg h.b.size (fun k e => by cases e; exact h.l1), h.ne, h.l1, h.l2, h.lb⟩
theorem MS.hear2 (h : MS w0 g1 b1 g2 b2 gb m1 m2 best W) {q : Int × Int} (hV : VW (0 : Nat) g2 b2 [(0, 0), q] W') (hg : W.grownBy W' (some b2)) : MS w0 g1 b1 g2 b2 gb m1 q best W' :=
  ⟨⟨cells_kept h.v1.v h.v2.m hg, h.v1.m.kept hg (fun e => h.ne (Option.some.inj e))⟩, hV, cells_kept h.bx h.v2.m hg, h.b.grown hg h.b.size (fun k e => by cases e; exact h.l2), h.ne, h.l1, h.l2, h.lb⟩
theorem ne_type {W : World} {g g' : Nat} {cs cs' : Array Value} {t t' : TypeId} {fr fr' : Nat × Nat} (h : W.heap[g]? = some (.cells cs t fr)) (h' : W.heap[g']? = some (.cells cs' t' fr')) (hne : t ≠ t') : g ≠ g' := by
  rintro rfl
  rw [h] at h'
  cases h'
  exact hne rfl
theorem MS.over (h : MS w0 g1 b1 g2 b2 gb m1 m2 best W) {q : Int × Int} (hb : BI 23 gb q W') (hg : W.grownBy W' (some gb)) : MS w0 g1 b1 g2 b2 gb m1 m2 q W' :=
  ⟨⟨(hg.block g1 (Array.getElem?_eq_some_iff.1 h.v1.v).1 (fun e => ne_type h.v1.v h.bx (by decide) (Option.some.inj e))).trans h.v1.v, map_kept h.bx h.v1.m hg⟩,
   ⟨(hg.block g2 (Array.getElem?_eq_some_iff.1 h.v2.v).1 (fun e => ne_type h.v2.v h.bx (by decide) (Option.some.inj e))).trans h.v2.v, map_kept h.bx h.v2.m hg⟩,
   hb, h.b.grown hg h.b.size (fun k e => by cases e; exact h.lb), h.ne, h.l1, h.l2, h.lb⟩
end
theorem hearM (g b : Nat) (m x : Int × Int) (W : World) (h : VW (0 : Nat) g b [(0, 0), m] W) :
    Calls Try.prog 16 #[.pointer (some ⟨g, 0, none⟩), .int .i64 1, .agg #[.int .i64 x.1, .int .i64 x.2]] W fun e W' => ∃ r k, e = .returned (.tuple #[.bool r, .int .i64 k]) ∧ VW (0 : Nat) g b [(0, 0), stepI m x] W' ∧ W.grownBy W' (some b) := by
  refine (Hear_any (me := 0) 1 x W h (by simp) (by simp) (by decide)).mono ?_
  rintro e w' ⟨h1, h2, h3⟩
  rw [hear_step] at h2
  exact ⟨_, _, h1, h2, h3⟩
set_option maxRecDepth 20000 in
set_option maxHeartbeats 4000000 in
theorem MemberMeets_any (A : Option Addr) (c : Nat) (l : List (Int × Int)) (A2 : Option Addr) (c2 : Nat) (ts : List Int) (w : World)
    (hr : dI.C w A l.length l) (hc : l.length ≤ c) (hr2 : Kd.C (Kd.int .i64) w A2 ts.length ts) (hc2 : ts.length ≤ c2) (hl : l.length ≤ 8796093022000) (ht : ts.length ≤ 17592186044000) (hts : ∀ t ∈ ts, -9223372036854775808 ≤ t ∧ t ≤ 9223372036854775807) :
    Calls Try.prog 4 #[.slice A l.length c, .slice A2 ts.length c2] w fun e w' => e = .returned (.bool true) ∧ Below w.heap.size w w' := by
  have HR := Aside0.mk (And.intro hr hc)
  have HT := Aside0.mk (And.intro hr2 hc2)
  have HL := Aside0.mk (And.intro hl (And.intro ht hts))
  have HG := Aside0.mk given_any
  have HH := Aside0.mk hearM
  have HRR := Aside0.mk refRight_any
  have HNR := Aside0.mk refNewer_any
  clear hr hc hr2 hc2 hl ht hts
  unfold infV at *
  go_enter Try.func4, Try.ntmps4
  go_wp2_with fail
  refine (New_yes 0 2 _ (by decide)).mono ?_
  rintro e w1 ⟨g1, b1, hg1, hb1, rfl, hV1, hB1⟩
  have H1 := Aside0.mk (And.intro hV1 (And.intro hB1 hb1))
  clear hV1 hB1 hg1 hb1
  go_wp2_with fail
  refine (New_yes 0 2 _ (by decide)).mono ?_
  rintro e w2 ⟨g2, b2, hg2, hb2, rfl, hV2, hB2⟩
  have hlt := H1.out.1.m.lt
  have HM : Aside0 (MS w g1 b1 g2 b2 w2.heap.size (0, 0) (0, 0) (0, 0) (w2.alloc (.cells #[.int .i64 0, .int .i64 0] 23))) := by
    have hA := below_alloc (Below.refl w2.heap.size w2) (.cells #[.int .i64 0, .int .i64 0] 23)
    have hsz := H1.out.2.1.size
    have hsz2 := hB2.size
    exact ⟨⟨(H1.out.1.kept hB2).kept hA, hV2.kept hA, blk_new w2 _, below_step (below_step H1.out.2.1 hB2) hA, by omega, H1.out.2.2, by omega, by omega⟩⟩
  clear hlt hV2 hB2 hg2 hb2 H1
  go_wp2_with fail
  generalize w2.heap.size = gb at *
  generalize hF : l.foldl stepI (0, 0) = best
  have HFB := Aside0.mk hF
  clear hF
  go_loopg [10] l.length (fun kq v10 w' => ∃ i : Nat, Aside0 (kq + i = l.length) ∧ v10 = .int .i64 (i : Int) ∧ Aside0 (MS w g1 b1 g2 b2 gb ((l.take i).foldl stepI (0, 0)) (0, 0) ((l.take i).foldl stepI (0, 0)) w'))
  case atStart => exact ⟨0, ⟨by simp⟩, rfl, HM⟩
  case round =>
    obtain ⟨i, HK, rfl, HI⟩ := hrel
    cases gk with
    | zero =>
      obtain rfl : i = l.length := by have := HK.out; omega
      rw [List.take_length, HFB.out] at HI
      clear HK HM
      go_wp2_with fail
      go_loopg [11] ts.length (fun kq v11 w' => ∃ (i : Nat) (q : List (Int × Int)), Aside0 (kq + i = ts.length) ∧ v11 = .int .i64 (i : Int) ∧ Aside0 ((∀ x ∈ q, x ∈ l) ∧ MS w g1 b1 g2 b2 gb best (q.foldl stepI (0, 0)) best w'))
      case atStart => exact ⟨0, [], ⟨by simp⟩, rfl, ⟨by simp, HI.out⟩⟩
      case round =>
        obtain ⟨i, q, HK, rfl, HQ⟩ := hrel
        by_cases hlz : 0 < (l.length : Int)
        · cases gk with
          | zero =>
            obtain rfl : i = ts.length := by have := HK.out; omega
            clear HI HK
            go_wp2_with fail
            go_loopg [12] l.length (fun kq v12 w' => v12 = .int .i64 ((kq : Int) - 1) ∧ Aside0 (kq ≤ l.length) ∧ Aside0 (MS w g1 b1 g2 b2 gb best ((q ++ (l.drop kq).reverse).foldl stepI (0, 0)) best w'))
            case atStart => exact ⟨by simp; have := HL.out.1; first | omega | (unfold wrap64; omega), ⟨Nat.le_refl _⟩, ⟨by rw [List.drop_length, List.reverse_nil, List.append_nil]; exact HQ.out.2⟩⟩
            case round =>
              obtain ⟨rfl, HK, HI⟩ := hrel
              cases gk with
              | zero =>
                rw [List.drop_zero, fold_turned l q HQ.out.1, HFB.out] at HI
                clear HQ HT HH HNR HRR HFB
                have HGET : Aside0 (∀ W, MS w g1 b1 g2 b2 gb best best best W → Calls Try.prog 19 #[.pointer (some ⟨g1, 0, none⟩), .int .i64 1] W fun e W' => e = .returned (.agg #[.int .i64 best.1, .int .i64 best.2]) ∧ Below W.heap.size W W') := ⟨fun W h => Get_any 1 W h.v1 (by decide)⟩
                have HTAK := Aside0.mk (taken_any best)
                have HS1 : Aside0 (∀ W, MS w g1 b1 g2 b2 gb best best best W → Calls Try.prog 20 #[.pointer (some ⟨g1, 0, none⟩), .pointer (some ⟨g2, 0, none⟩)] W fun e W' => e = .returned (.bool true) ∧ Below W.heap.size W W') := ⟨fun W h => Same_same W h.v1 h.v2⟩
                have HS2 : Aside0 (∀ W, MS w g1 b1 g2 b2 gb best best best W → Calls Try.prog 20 #[.pointer (some ⟨g2, 0, none⟩), .pointer (some ⟨g1, 0, none⟩)] W fun e W' => e = .returned (.bool true) ∧ Below W.heap.size W W') := ⟨fun W h => Same_same W h.v2 h.v1⟩
                have HEQ : Aside0 (∀ W, (Op.equalIn 10000 23 (.agg #[.int .i64 best.1, .int .i64 best.2]) (.agg #[.int .i64 best.1, .int .i64 best.2])).run Try.prog W = .ok true W) := ⟨fun W => by have := eq_I23 best best W; unfold infV at this; simpa using this⟩
                have HKN := Aside0.mk known_any
                unfold infV at HTAK
                go_upto_region 20 with fail
                refine RegionF.region_F (F := (MS w g1 b1 g2 b2 gb best best best)) 18 (by kernel_rfl) (by kernel_rfl) HI.out.drew ?_
                simp only [List.take_succ_cons, List.take_zero, List.drop_succ_cons, List.drop_zero]
                repeat (first
                  | (refine RegionF.wpF_skip (by rfl) ?_
                     refine RegionF.wpF_put (fun K' hK' => ?_)
                     go_simp
                     refine hK' _ ?_
                     clear hK' K')
                  | (apply RegionF.wpF_step
                     · rfl
                     · (intro W hW; first | (rw [exec_load rfl rfl (loadI23 hW.bx)]; exact RegionF.GivesF.value rfl hW) | (rw [exec_eql Try.eqGuardType23 rfl rfl rfl (HEQ.out W)]; exact RegionF.GivesF.value rfl hW) | (go_simp; first | exact RegionF.GivesF.value rfl hW | (apply RegionF.GivesF.enter; first | (with_reducible exact (HGET.out W hW).mono fun e w1 h => ⟨h.1, hW.below h.2⟩) | (with_reducible exact (HTAK.out W).mono fun e w1 h => ⟨h.1, hW.below h.2⟩) | (with_reducible exact (HS1.out W hW).mono fun e w1 h => ⟨h.1, hW.below h.2⟩) | (with_reducible exact (HS2.out W hW).mono fun e w1 h => ⟨h.1, hW.below h.2⟩) | (with_reducible exact (HKN.out W).mono fun e w1 h => ⟨h.1, hW.below h.2⟩))))
                     refine RegionF.wpF_put (fun K' hK' => ?_)
                     go_simp
                     refine hK' _ ?_
                     clear hK' K'))
                refine RegionF.wpF_nil (fun X hX => ?_)
                replace HI := Aside0.mk hX
                clear hX
                go_wp2_with fail
                go_ret
                exact ⟨rfl, HI.out.b⟩
              | succ kq =>
                have hi : kq < l.length := HK.out
                have e1 : (((kq + 1 : Nat) : Int) - 1) = (kq : Int) := by omega
                rw [e1]
                have hlt : (kq : Int) < (l.length : Int) := by omega
                have hi0 : (0 : Int) ≤ (kq : Int) := by omega
                obtain ⟨ad, rfl, hld0⟩ := inf_load (Kd.C_below HR.out.1 HI.out.b) kq hi
                have HLD := Aside0.mk hld0
                have HTK : Aside0 ((q ++ (l.drop kq).reverse).foldl stepI (0, 0) = stepI ((q ++ (l.drop (kq + 1)).reverse).foldl stepI (0, 0)) (l.getD kq (0, 0))) := ⟨by
                  rw [List.drop_eq_getElem_cons hi, List.reverse_cons, ← List.append_assoc, List.foldl_append, List.getD_eq_getElem?_getD, List.getElem?_eq_getElem hi]; rfl⟩
                generalize (q ++ (l.drop (kq + 1)).reverse).foldl stepI (0, 0) = m at *
                generalize l.getD kq (0, 0) = x at *
                clear hld0 e1
                go_wp2_with ((with_reducible refine gate_dst (N := 101) rfl ?_); refine Kd.event_run rfl (exec_load rfl rfl HLD.out) ?_)
                refine (HG.out x _).mono ?_
                rintro e w3 ⟨rfl, hB⟩
                replace HI := Aside0.mk (HI.out.below hB)
                clear hB
                go_wp2_with fail
                refine (HH.out g2 b2 _ x _ HI.out.v2).mono ?_
                rintro e w4 ⟨rr, kk, rfl, hV, hg⟩
                replace HI := Aside0.mk (HI.out.hear2 hV hg)
                clear hV hg
                go_wp2_with fail
                go_roundg kq
                case measure => omega
                case rel => exact ⟨by first | (simp; done) | (simp; have := HL.out.1; unfold wrap64; omega), ⟨by omega⟩, ⟨by rw [HTK.out]; exact HI.out⟩⟩
          | succ kq =>
            have hi : i < ts.length := by have := HK.out; omega
            have hlt : (i : Int) < (ts.length : Int) := by omega
            have hi0 : (0 : Int) ≤ (i : Int) := by omega
            obtain ⟨ad2, hA2, hc2⟩ := (Kd.reads_of_C (d := (0 : Int)) (Kd.C_below HT.out.1 HQ.out.2.b)).2.2 (by omega)
            have hcv := hc2 i hi
            subst hA2
            have HCN := Aside0.mk (fun W => count_any (ts.getD i 0) l.length W (by omega) (by have := HL.out.1; omega) (HL.out.2.2 _ (by rw [List.getD_eq_getElem?_getD, List.getElem?_eq_getElem hi]; exact List.getElem_mem hi)).1 (HL.out.2.2 _ (by rw [List.getD_eq_getElem?_getD, List.getElem?_eq_getElem hi]; exact List.getElem_mem hi)).2)
            generalize ts.getD i 0 = tv at *
            clear HI hc2
            go_wp2_with fail
            refine (HCN.out _).mono ?_
            rintro e w3 ⟨r, rfl, hrl, rfl⟩
            have hr0 : (0 : Int) ≤ (r : Int) := by omega
            have hrn : r < l.length := by omega
            obtain ⟨ad, rfl, hld0⟩ := inf_load (Kd.C_below HR.out.1 HQ.out.2.b) r hrn
            have HLD := Aside0.mk hld0
            have HMX : Aside0 (l.getD r (0, 0) ∈ l) := ⟨by rw [List.getD_eq_getElem?_getD, List.getElem?_eq_getElem hrn]; exact List.getElem_mem hrn⟩
            generalize l.getD r (0, 0) = x at *
            clear hld0
            go_wp2_with ((with_reducible refine gate_dst (N := 87) rfl ?_); refine Kd.event_run rfl (exec_load rfl rfl HLD.out) ?_)
            refine (HG.out x _).mono ?_
            rintro e w4 ⟨rfl, hB⟩
            have HI := Aside0.mk (HQ.out.2.below hB)
            clear hB
            go_wp2_with fail
            refine (HH.out g2 b2 _ x _ HI.out.v2).mono ?_
            rintro e w5 ⟨rr, kk, rfl, hV, hg⟩
            replace HI := Aside0.mk (HI.out.hear2 hV hg)
            clear hV hg
            go_wp2_with fail
            go_roundg kq
            case measure => omega
            case rel => exact ⟨i + 1, q ++ [x], ⟨by have := HK.out; omega⟩, by simp; have := HL.out.2.1; unfold wrap64; omega, ⟨fun y hy => by rcases List.mem_append.1 hy with h | h; exact HQ.out.1 y h; rw [List.mem_singleton.1 h]; exact HMX.out, by rw [List.foldl_append]; exact HI.out⟩⟩
        · clear HI HK
          have hz0 : l.length = 0 := by omega
          by_cases hlt : (i : Int) < (ts.length : Int)
          · go_wp2_with fail
            go_loopg [12] l.length (fun kq v12 w' => v12 = .int .i64 ((kq : Int) - 1) ∧ Aside0 (kq ≤ l.length) ∧ Aside0 (MS w g1 b1 g2 b2 gb best ((q ++ (l.drop kq).reverse).foldl stepI (0, 0)) best w'))
            case atStart => exact ⟨by simp; have := HL.out.1; first | omega | (unfold wrap64; omega), ⟨Nat.le_refl _⟩, ⟨by rw [List.drop_length, List.reverse_nil, List.append_nil]; exact HQ.out.2⟩⟩
            case round =>
              obtain ⟨rfl, HK, HI⟩ := hrel
              cases gk with
              | zero =>
                rw [List.drop_zero, fold_turned l q HQ.out.1, HFB.out] at HI
                clear HQ HT HH HNR HRR HFB
                have HGET : Aside0 (∀ W, MS w g1 b1 g2 b2 gb best best best W → Calls Try.prog 19 #[.pointer (some ⟨g1, 0, none⟩), .int .i64 1] W fun e W' => e = .returned (.agg #[.int .i64 best.1, .int .i64 best.2]) ∧ Below W.heap.size W W') := ⟨fun W h => Get_any 1 W h.v1 (by decide)⟩
                have HTAK := Aside0.mk (taken_any best)
                have HS1 : Aside0 (∀ W, MS w g1 b1 g2 b2 gb best best best W → Calls Try.prog 20 #[.pointer (some ⟨g1, 0, none⟩), .pointer (some ⟨g2, 0, none⟩)] W fun e W' => e = .returned (.bool true) ∧ Below W.heap.size W W') := ⟨fun W h => Same_same W h.v1 h.v2⟩
                have HS2 : Aside0 (∀ W, MS w g1 b1 g2 b2 gb best best best W → Calls Try.prog 20 #[.pointer (some ⟨g2, 0, none⟩), .pointer (some ⟨g1, 0, none⟩)] W fun e W' => e = .returned (.bool true) ∧ Below W.heap.size W W') := ⟨fun W h => Same_same W h.v2 h.v1⟩
                have HEQ : Aside0 (∀ W, (Op.equalIn 10000 23 (.agg #[.int .i64 best.1, .int .i64 best.2]) (.agg #[.int .i64 best.1, .int .i64 best.2])).run Try.prog W = .ok true W) := ⟨fun W => by have := eq_I23 best best W; unfold infV at this; simpa using this⟩
                have HKN := Aside0.mk known_any
                unfold infV at HTAK
                go_upto_region 20 with fail
                refine RegionF.region_F (F := (MS w g1 b1 g2 b2 gb best best best)) 18 (by kernel_rfl) (by kernel_rfl) HI.out.drew ?_
                simp only [List.take_succ_cons, List.take_zero, List.drop_succ_cons, List.drop_zero]
                repeat (first
                  | (refine RegionF.wpF_skip (by rfl) ?_
                     refine RegionF.wpF_put (fun K' hK' => ?_)
                     go_simp
                     refine hK' _ ?_
                     clear hK' K')
                  | (apply RegionF.wpF_step
                     · rfl
                     · (intro W hW; first | (rw [exec_load rfl rfl (loadI23 hW.bx)]; exact RegionF.GivesF.value rfl hW) | (rw [exec_eql Try.eqGuardType23 rfl rfl rfl (HEQ.out W)]; exact RegionF.GivesF.value rfl hW) | (go_simp; first | exact RegionF.GivesF.value rfl hW | (apply RegionF.GivesF.enter; first | (with_reducible exact (HGET.out W hW).mono fun e w1 h => ⟨h.1, hW.below h.2⟩) | (with_reducible exact (HTAK.out W).mono fun e w1 h => ⟨h.1, hW.below h.2⟩) | (with_reducible exact (HS1.out W hW).mono fun e w1 h => ⟨h.1, hW.below h.2⟩) | (with_reducible exact (HS2.out W hW).mono fun e w1 h => ⟨h.1, hW.below h.2⟩) | (with_reducible exact (HKN.out W).mono fun e w1 h => ⟨h.1, hW.below h.2⟩))))
                     refine RegionF.wpF_put (fun K' hK' => ?_)
                     go_simp
                     refine hK' _ ?_
                     clear hK' K'))
                refine RegionF.wpF_nil (fun X hX => ?_)
                replace HI := Aside0.mk hX
                clear hX
                go_wp2_with fail
                go_ret
                exact ⟨rfl, HI.out.b⟩
              | succ kq =>
                have hi : kq < l.length := HK.out
                have e1 : (((kq + 1 : Nat) : Int) - 1) = (kq : Int) := by omega
                rw [e1]
                have hlt : (kq : Int) < (l.length : Int) := by omega
                have hi0 : (0 : Int) ≤ (kq : Int) := by omega
                obtain ⟨ad, rfl, hld0⟩ := inf_load (Kd.C_below HR.out.1 HI.out.b) kq hi
                have HLD := Aside0.mk hld0
                have HTK : Aside0 ((q ++ (l.drop kq).reverse).foldl stepI (0, 0) = stepI ((q ++ (l.drop (kq + 1)).reverse).foldl stepI (0, 0)) (l.getD kq (0, 0))) := ⟨by
                  rw [List.drop_eq_getElem_cons hi, List.reverse_cons, ← List.append_assoc, List.foldl_append, List.getD_eq_getElem?_getD, List.getElem?_eq_getElem hi]; rfl⟩
                generalize (q ++ (l.drop (kq + 1)).reverse).foldl stepI (0, 0) = m at *
                generalize l.getD kq (0, 0) = x at *
                clear hld0 e1
                go_wp2_with ((with_reducible refine gate_dst (N := 101) rfl ?_); refine Kd.event_run rfl (exec_load rfl rfl HLD.out) ?_)
                refine (HG.out x _).mono ?_
                rintro e w3 ⟨rfl, hB⟩
                replace HI := Aside0.mk (HI.out.below hB)
                clear hB
                go_wp2_with fail
                refine (HH.out g2 b2 _ x _ HI.out.v2).mono ?_
                rintro e w4 ⟨rr, kk, rfl, hV, hg⟩
                replace HI := Aside0.mk (HI.out.hear2 hV hg)
                clear hV hg
                go_wp2_with fail
                go_roundg kq
                case measure => omega
                case rel => exact ⟨by first | (simp; done) | (simp; have := HL.out.1; unfold wrap64; omega), ⟨by omega⟩, ⟨by rw [HTK.out]; exact HI.out⟩⟩
          · go_wp2_with fail
            go_loopg [12] l.length (fun kq v12 w' => v12 = .int .i64 ((kq : Int) - 1) ∧ Aside0 (kq ≤ l.length) ∧ Aside0 (MS w g1 b1 g2 b2 gb best ((q ++ (l.drop kq).reverse).foldl stepI (0, 0)) best w'))
            case atStart => exact ⟨by simp; have := HL.out.1; first | omega | (unfold wrap64; omega), ⟨Nat.le_refl _⟩, ⟨by rw [List.drop_length, List.reverse_nil, List.append_nil]; exact HQ.out.2⟩⟩
            case round =>
              obtain ⟨rfl, HK, HI⟩ := hrel
              cases gk with
              | zero =>
                rw [List.drop_zero, fold_turned l q HQ.out.1, HFB.out] at HI
                clear HQ HT HH HNR HRR HFB
                have HGET : Aside0 (∀ W, MS w g1 b1 g2 b2 gb best best best W → Calls Try.prog 19 #[.pointer (some ⟨g1, 0, none⟩), .int .i64 1] W fun e W' => e = .returned (.agg #[.int .i64 best.1, .int .i64 best.2]) ∧ Below W.heap.size W W') := ⟨fun W h => Get_any 1 W h.v1 (by decide)⟩
                have HTAK := Aside0.mk (taken_any best)
                have HS1 : Aside0 (∀ W, MS w g1 b1 g2 b2 gb best best best W → Calls Try.prog 20 #[.pointer (some ⟨g1, 0, none⟩), .pointer (some ⟨g2, 0, none⟩)] W fun e W' => e = .returned (.bool true) ∧ Below W.heap.size W W') := ⟨fun W h => Same_same W h.v1 h.v2⟩
                have HS2 : Aside0 (∀ W, MS w g1 b1 g2 b2 gb best best best W → Calls Try.prog 20 #[.pointer (some ⟨g2, 0, none⟩), .pointer (some ⟨g1, 0, none⟩)] W fun e W' => e = .returned (.bool true) ∧ Below W.heap.size W W') := ⟨fun W h => Same_same W h.v2 h.v1⟩
                have HEQ : Aside0 (∀ W, (Op.equalIn 10000 23 (.agg #[.int .i64 best.1, .int .i64 best.2]) (.agg #[.int .i64 best.1, .int .i64 best.2])).run Try.prog W = .ok true W) := ⟨fun W => by have := eq_I23 best best W; unfold infV at this; simpa using this⟩
                have HKN := Aside0.mk known_any
                unfold infV at HTAK
                go_upto_region 20 with fail
                refine RegionF.region_F (F := (MS w g1 b1 g2 b2 gb best best best)) 18 (by kernel_rfl) (by kernel_rfl) HI.out.drew ?_
                simp only [List.take_succ_cons, List.take_zero, List.drop_succ_cons, List.drop_zero]
                repeat (first
                  | (refine RegionF.wpF_skip (by rfl) ?_
                     refine RegionF.wpF_put (fun K' hK' => ?_)
                     go_simp
                     refine hK' _ ?_
                     clear hK' K')
                  | (apply RegionF.wpF_step
                     · rfl
                     · (intro W hW; first | (rw [exec_load rfl rfl (loadI23 hW.bx)]; exact RegionF.GivesF.value rfl hW) | (rw [exec_eql Try.eqGuardType23 rfl rfl rfl (HEQ.out W)]; exact RegionF.GivesF.value rfl hW) | (go_simp; first | exact RegionF.GivesF.value rfl hW | (apply RegionF.GivesF.enter; first | (with_reducible exact (HGET.out W hW).mono fun e w1 h => ⟨h.1, hW.below h.2⟩) | (with_reducible exact (HTAK.out W).mono fun e w1 h => ⟨h.1, hW.below h.2⟩) | (with_reducible exact (HS1.out W hW).mono fun e w1 h => ⟨h.1, hW.below h.2⟩) | (with_reducible exact (HS2.out W hW).mono fun e w1 h => ⟨h.1, hW.below h.2⟩) | (with_reducible exact (HKN.out W).mono fun e w1 h => ⟨h.1, hW.below h.2⟩))))
                     refine RegionF.wpF_put (fun K' hK' => ?_)
                     go_simp
                     refine hK' _ ?_
                     clear hK' K'))
                refine RegionF.wpF_nil (fun X hX => ?_)
                replace HI := Aside0.mk hX
                clear hX
                go_wp2_with fail
                go_ret
                exact ⟨rfl, HI.out.b⟩
              | succ kq =>
                have hi : kq < l.length := HK.out
                have e1 : (((kq + 1 : Nat) : Int) - 1) = (kq : Int) := by omega
                rw [e1]
                have hlt : (kq : Int) < (l.length : Int) := by omega
                have hi0 : (0 : Int) ≤ (kq : Int) := by omega
                obtain ⟨ad, rfl, hld0⟩ := inf_load (Kd.C_below HR.out.1 HI.out.b) kq hi
                have HLD := Aside0.mk hld0
                have HTK : Aside0 ((q ++ (l.drop kq).reverse).foldl stepI (0, 0) = stepI ((q ++ (l.drop (kq + 1)).reverse).foldl stepI (0, 0)) (l.getD kq (0, 0))) := ⟨by
                  rw [List.drop_eq_getElem_cons hi, List.reverse_cons, ← List.append_assoc, List.foldl_append, List.getD_eq_getElem?_getD, List.getElem?_eq_getElem hi]; rfl⟩
                generalize (q ++ (l.drop (kq + 1)).reverse).foldl stepI (0, 0) = m at *
                generalize l.getD kq (0, 0) = x at *
                clear hld0 e1
                go_wp2_with ((with_reducible refine gate_dst (N := 101) rfl ?_); refine Kd.event_run rfl (exec_load rfl rfl HLD.out) ?_)
                refine (HG.out x _).mono ?_
                rintro e w3 ⟨rfl, hB⟩
                replace HI := Aside0.mk (HI.out.below hB)
                clear hB
                go_wp2_with fail
                refine (HH.out g2 b2 _ x _ HI.out.v2).mono ?_
                rintro e w4 ⟨rr, kk, rfl, hV, hg⟩
                replace HI := Aside0.mk (HI.out.hear2 hV hg)
                clear hV hg
                go_wp2_with fail
                go_roundg kq
                case measure => omega
                case rel => exact ⟨by first | (simp; done) | (simp; have := HL.out.1; unfold wrap64; omega), ⟨by omega⟩, ⟨by rw [HTK.out]; exact HI.out⟩⟩
    | succ kq =>
      have hi : i < l.length := by have := HK.out; omega
      have hlt : (i : Int) < (l.length : Int) := by omega
      have hi0 : (0 : Int) ≤ (i : Int) := by omega
      obtain ⟨ad, rfl, hld0⟩ := inf_load (HR.out.1) i hi
      have HLD : Aside0 (∀ X, Below w.heap.size w X → (loadVar 23 (ad.add (i * 2))).run Try.prog X = .ok (.agg #[.int .i64 (l.getD i (0, 0)).1, .int .i64 (l.getD i (0, 0)).2]) X) := ⟨fun X hX => by
        obtain ⟨ad', e, h⟩ := inf_load (Kd.C_below HR.out.1 hX) i hi
        cases e; exact h⟩
      have HTK : Aside0 ((l.take (i + 1)).foldl stepI (0, 0) = stepI ((l.take i).foldl stepI (0, 0)) (l.getD i (0, 0))) := ⟨by
        rw [List.take_add_one, List.foldl_append, List.getD_eq_getElem?_getD, List.getElem?_eq_getElem hi]; rfl⟩
      clear hld0
      generalize (l.take i).foldl stepI (0, 0) = m at *
      generalize l.getD i (0, 0) = x at *
      go_wp2_with ((with_reducible refine gate_dst (N := 46) rfl ?_); refine Kd.event_run rfl (exec_load rfl rfl (HLD.out _ HI.out.b)) ?_)
      refine (HG.out x _).mono ?_
      rintro e w3 ⟨rfl, hB⟩
      replace HI := Aside0.mk (HI.out.below hB)
      clear hB
      go_wp2_with fail
      refine (HH.out g1 b1 _ x _ HI.out.v1).mono ?_
      rintro e w4 ⟨r, k, rfl, hV, hg⟩
      replace HI := Aside0.mk (HI.out.hear1 hV hg)
      clear hV hg
      go_upto_region 10 with fail
      have HRX := Aside0.mk (HRR.out x)
      have HNX := Aside0.mk (HNR.out x m)
      cases hrx : rightI x
      · rw [hrx] at HRX
        have HST : Aside0 (stepI m x = m) := ⟨by unfold stepI; rw [hrx]; rfl⟩
        refine RegionF.region_F (F := (MS w g1 b1 g2 b2 gb (stepI m x) (0, 0) m)) 12 (by kernel_rfl) (by kernel_rfl) HI.out.drew ?_
        simp only [List.take_succ_cons, List.take_zero, List.drop_succ_cons, List.drop_zero]
        repeat (first
          | (refine RegionF.wpF_skip (by rfl) ?_
             refine RegionF.wpF_put (fun K' hK' => ?_)
             go_simp
             refine hK' _ ?_
             clear hK' K')
          | (apply RegionF.wpF_step
             · rfl
             · (intro W hW; first | (rw [exec_load rfl rfl (HLD.out W hW.b)]; exact RegionF.GivesF.value rfl hW) | (rw [exec_load rfl rfl (loadI23 hW.bx)]; exact RegionF.GivesF.value rfl hW) | (go_simp; first | exact RegionF.GivesF.value rfl hW | (apply RegionF.GivesF.enter; first | (with_reducible exact (HRX.out W).mono fun e w1 h => ⟨h.1, hW.below h.2⟩) | (with_reducible exact (HNX.out W).mono fun e w1 h => ⟨h.1, hW.below h.2⟩))))
             refine RegionF.wpF_put (fun K' hK' => ?_)
             go_simp
             refine hK' _ ?_
             clear hK' K'))
        refine RegionF.wpF_nil (fun X hX => ?_)
        replace HI := Aside0.mk hX
        clear hX
        go_wp2_with fail
        go_roundg kq
        case measure => omega
        case rel => exact ⟨i + 1, ⟨by have := HK.out; omega⟩, by simp; have := HL.out.1; unfold wrap64; omega, ⟨by rw [HTK.out, HST.out]; rw [HST.out] at HI; exact HI.out⟩⟩
      · cases hnx : newB x m
        · rw [hrx] at HRX
          rw [hnx] at HNX
          have HST : Aside0 (stepI m x = m) := ⟨by unfold stepI; rw [hrx, hnx]; rfl⟩
          refine RegionF.region_F (F := (MS w g1 b1 g2 b2 gb (stepI m x) (0, 0) m)) 12 (by kernel_rfl) (by kernel_rfl) HI.out.drew ?_
          simp only [List.take_succ_cons, List.take_zero, List.drop_succ_cons, List.drop_zero]
          repeat (first
            | (refine RegionF.wpF_skip (by rfl) ?_
               refine RegionF.wpF_put (fun K' hK' => ?_)
               go_simp
               refine hK' _ ?_
               clear hK' K')
            | (apply RegionF.wpF_step
               · rfl
               · (intro W hW; first | (rw [exec_load rfl rfl (HLD.out W hW.b)]; exact RegionF.GivesF.value rfl hW) | (rw [exec_load rfl rfl (loadI23 hW.bx)]; exact RegionF.GivesF.value rfl hW) | (go_simp; first | exact RegionF.GivesF.value rfl hW | (apply RegionF.GivesF.enter; first | (with_reducible exact (HRX.out W).mono fun e w1 h => ⟨h.1, hW.below h.2⟩) | (with_reducible exact (HNX.out W).mono fun e w1 h => ⟨h.1, hW.below h.2⟩))))
               refine RegionF.wpF_put (fun K' hK' => ?_)
               go_simp
               refine hK' _ ?_
               clear hK' K'))
          refine RegionF.wpF_nil (fun X hX => ?_)
          replace HI := Aside0.mk hX
          clear hX
          go_wp2_with fail
          go_roundg kq
          case measure => omega
          case rel => exact ⟨i + 1, ⟨by have := HK.out; omega⟩, by simp; have := HL.out.1; unfold wrap64; omega, ⟨by rw [HTK.out, HST.out]; rw [HST.out] at HI; exact HI.out⟩⟩
        · rw [hrx] at HRX
          rw [hnx] at HNX
          have HST : Aside0 (stepI m x = x) := ⟨by unfold stepI; rw [hrx, hnx]; rfl⟩
          refine RegionF.region_F (F := (MS w g1 b1 g2 b2 gb (stepI m x) (0, 0) m)) 12 (by kernel_rfl) (by kernel_rfl) HI.out.drew ?_
          simp only [List.take_succ_cons, List.take_zero, List.drop_succ_cons, List.drop_zero]
          repeat (first
            | (refine RegionF.wpF_skip (by rfl) ?_
               refine RegionF.wpF_put (fun K' hK' => ?_)
               go_simp
               refine hK' _ ?_
               clear hK' K')
            | (apply RegionF.wpF_step
               · rfl
               · (intro W hW; first | (rw [exec_load rfl rfl (HLD.out W hW.b)]; exact RegionF.GivesF.value rfl hW) | (rw [exec_load rfl rfl (loadI23 hW.bx)]; exact RegionF.GivesF.value rfl hW) | (go_simp; first | exact RegionF.GivesF.value rfl hW | (apply RegionF.GivesF.enter; first | (with_reducible exact (HRX.out W).mono fun e w1 h => ⟨h.1, hW.below h.2⟩) | (with_reducible exact (HNX.out W).mono fun e w1 h => ⟨h.1, hW.below h.2⟩))))
               refine RegionF.wpF_put (fun K' hK' => ?_)
               go_simp
               refine hK' _ ?_
               clear hK' K'))
          refine RegionF.wpF_nil (fun X hX => ?_)
          replace HI := Aside0.mk hX
          clear hX
          obtain ⟨w5, hst, hbx, hg5⟩ := overR (y := x) HI.out.bx
          have HSTO := Aside0.mk hst
          have HI5 := Aside0.mk (HI.out.over hbx hg5)
          clear hst hbx hg5
          go_wp2_with (first | ((with_reducible refine gate_dst (N := 65) rfl ?_); refine Kd.event_run rfl (exec_load rfl rfl (HLD.out _ HI.out.b)) ?_) | ((with_reducible refine gate_store (t := 23) rfl ?_); refine event_skip rfl (exec_store rfl rfl rfl HSTO.out) ?_))
          go_roundg kq
          case measure => omega
          case rel => exact ⟨i + 1, ⟨by have := HK.out; omega⟩, by simp; have := HL.out.1; unfold wrap64; omega, ⟨by rw [HTK.out, HST.out]; rw [HST.out] at HI5; exact HI5.out⟩⟩
end Go.Proofs.Ytkdhccbgbkhnnaa.Memb
