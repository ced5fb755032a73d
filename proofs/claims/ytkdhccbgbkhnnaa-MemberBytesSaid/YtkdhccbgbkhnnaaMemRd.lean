/- MemRd: MemRP, MemR, MemRR. -/
import Derived.Test.YtkdhccbgbkhnnaaCurRd
import Derived.Test.YtkdhccbgbkhnnaaMemV
import Derived.Test.YtkdhccbgbkhnnaaMemEq
import Derived.Test.YtkdhccbgbkhnnaaMemC
import Derived.Deep.CutRange
namespace Go.Proofs.Ytkdhccbgbkhnnaa.Memb
open Go.RowKit Go.Proofs.Ytkdhccbgbkhnnaa.Cur Go.Proofs.Ytkdhccbgbkhnnaa.CurP
set_option linter.unusedVariables false
/-- Some, one behind the other; none behind the first error. -/
def rdI (xs : List Int) : Nat → Nat × Int → List (Int × Int) × (Nat × Int)
  | 0, st => ([], st)
  | n + 1, st => if (nextN xs (nextN xs st 1).2 6).2.2 ≠ 0 then ([], (nextN xs (nextN xs st 1).2 6).2)
      else (((nextN xs st 1).1, (nextN xs (nextN xs st 1).2 6).1) :: (rdI xs n (nextN xs (nextN xs st 1).2 6).2).1, (rdI xs n (nextN xs (nextN xs st 1).2 6).2).2)
def rd0 (xs : List Int) : List (Int × Int) × (Nat × Int) := rdI xs (nextN xs (0, 0) 1).1.toNat (nextN xs (0, 0) 1).2
def okNum (n : Int) : Bool := decide (1 ≤ n) && decide (n ≤ 16)
def readR (xs : List Int) : List (Int × Int) × Int :=
  if endE xs (rd0 xs).2.1 (rd0 xs).2.2 ≠ 0 then ([], endE xs (rd0 xs).2.1 (rd0 xs).2.2)
  else if (okNum (nextN xs (0, 0) 1).1 && (rd0 xs).1.all rightI) = true then ((rd0 xs).1, 0) else ([], 11)
theorem nextN_err {xs : List Int} {st : Nat × Int} (s : Int) (h : st.2 ≠ 0) : nextN xs st s = (0, st) := by unfold nextN; rw [if_pos h]
theorem rdI_err {xs : List Int} {st : Nat × Int} (h : st.2 ≠ 0) (n : Nat) : (rdI xs n st).2 = st := by
  cases n with
  | zero => rfl
  | succ n => unfold rdI; rw [nextN_err 1 h, nextN_err 6 h]; rw [if_pos h]
theorem rdI_go {xs : List Int} {st : Nat × Int} {n : Nat} (h : (nextN xs (nextN xs st 1).2 6).2.2 = 0) : rdI xs (n + 1) st = (((nextN xs st 1).1, (nextN xs (nextN xs st 1).2 6).1) :: (rdI xs n (nextN xs (nextN xs st 1).2 6).2).1, (rdI xs n (nextN xs (nextN xs st 1).2 6).2).2) := by
  rw [rdI, if_neg (by rw [h]; simp)]
theorem rdI_stop {xs : List Int} {st : Nat × Int} {n : Nat} (h : (nextN xs (nextN xs st 1).2 6).2.2 ≠ 0) : rdI xs (n + 1) st = ([], (nextN xs (nextN xs st 1).2 6).2) := by
  rw [rdI, if_pos h]
theorem next6 : (256 : Int) ^ 6 = 281474976710656 := by decide
theorem next1 : (256 : Int) ^ 1 = 256 := by decide
theorem nextN_bd1 {xs : List Int} (hx : AllB xs) (st : Nat × Int) : 0 ≤ (nextN xs st 1).1 ∧ (nextN xs st 1).1 < 256 := by have := nextN_bd hx st 1; rw [next1] at this; exact this
theorem nextN_bd6 {xs : List Int} (hx : AllB xs) (st : Nat × Int) : 0 ≤ (nextN xs st 6).1 ∧ (nextN xs st 6).1 < 281474976710656 := by have := nextN_bd hx st 6; rw [next6] at this; exact this
theorem endE_err {xs : List Int} {at_ : Nat} {why : Int} (h : why ≠ 0) : endE xs at_ why = why := by unfold endE; rw [if_pos h]
theorem readR_err {xs : List Int} (h : (rd0 xs).2.2 ≠ 0) : readR xs = ([], (rd0 xs).2.2) := by
  unfold readR; rw [endE_err h, if_pos h]
end Go.Proofs.Ytkdhccbgbkhnnaa.Memb
namespace Go.Proofs.Ytkdhccbgbkhnnaa.Memb
open Go.RowKit Go.Proofs.Ytkdhccbgbkhnnaa.Cur Go.Proofs.Ytkdhccbgbkhnnaa.CurP Go.Proofs.Ytkdhccbgbkhnnaa.Mem Go.Proofs.Ytkdhccbgbkhnnaa.Help Go.Proofs.YtkdhccbgbkhnnaaW.PrintWords Go.Proofs.YtkdhccbgbkhnnaaW.PrintLast Go.Proofs.YtkdhccbgbkhnnaaW.PrintMore
set_option linter.unusedVariables false
set_option linter.unusedSimpArgs false
theorem info_minf : (Try.prog.info? 24).map (fun i => (i.zero, i.size, i.bytes)) = some (some (.agg #[.int .i64 0, .int .i64 0]), dI.sz, 16) := by kernel_rfl
theorem inf_M (W : World) (base : Nat) (ok : Nat → Prop) (k s : Int) : dI.M W base ok (k, s) [.int .i64 k, .int .i64 s] := ⟨[_], [_], rfl, rfl, rfl⟩
/-- What the loop holds. -/
structure RdS (t : TypeId) (w W : World) (v : Value) (l : List (Int × Int)) : Prop where
  s : Kd.S dI t W w.heap.size (fun _ => True) v l
  b : Below w.heap.size w W
theorem RdS.below {t : TypeId} {w W W' : World} {v : Value} {l : List (Int × Int)} (h : RdS t w W v l) (hB : Below W.heap.size W W') : RdS t w W' v l := ⟨Kd.S_below h.s hB, below_step h.b hB⟩
/-- What both loops know of the reader's block. -/
theorem RdS.read {t : TypeId} {w W W' : World} {v : Value} {l : List (Int × Int)} {g : Nat} {cs : Array Value} {tr : TypeId} (h : RdS t w W v l) (hb : W.heap[g]? = some (.cells cs tr (0, 0))) (ht : t ≠ tr) (hg : W.grownBy W' (some g)) (hge : w.heap.size ≤ g) : RdS t w W' v l :=
  ⟨Kd.S_drop (Kd.S_grown (Kd.S_types h.s hb (fun q hq => by rcases List.mem_cons.1 hq with rfl | hq; exact ht; cases hq)) hg (fun k hk e => hk.2 (Option.some.inj e))), h.b.grown hg h.b.size (fun k e => by cases e; exact hge)⟩
theorem all_snoc (l : List (Int × Int)) (x : Int × Int) : (l ++ [x]).all rightI = (l.all rightI && rightI x) := by simp
set_option maxHeartbeats 4000000 in
theorem Read_any (A : Option Addr) (c : Nat) (xs : List Int) (w : World) (hr : Kd.C (Kd.int .u8) w A xs.length xs) (hx : AllB xs) (hb : xs.length ≤ 140737488351232) :
    Calls Try.prog 22 #[.slice A xs.length c] w fun e w' => ∃ v, e = .returned (.tuple #[v, .int .i64 (readR xs).2]) ∧ RdS 24 w w' v (readR xs).1 := by
  have HX := Aside0.mk hx
  go_enter Try.func22, Try.ntmps22
  go_wp2_with fail
  refine (New_any w A c xs hr hb).mono ?_
  rintro e w1 ⟨wB, B, d, rfl, hR, hrd, hB1, hB2⟩
  have HB1 := Aside0.mk (And.intro hB1 hrd)
  have HR := Aside0.mk hR
  have HS : Aside0 (RdS 24 wB w1 (.slice none 0 0) []) := ⟨⟨Kd.S_nil _ _ _ _ _, hB2⟩⟩
  clear hr hb hx hR hrd hB1 hB2
  generalize hgg : wB.heap.size = g at HR ⊢
  have HGE : Aside0 (wB.heap.size ≤ g) := ⟨Nat.le_of_eq hgg⟩
  clear hgg
  go_wp2_with fail
  refine (rdrNum_all w1 g B d xs (0, 0) 1 HR.out HX.out).mono ?_
  rintro e w2 ⟨rfl, hR2, hg2⟩
  have HR2 := Aside0.mk hR2
  replace HS := Aside0.mk (HS.out.read HR.out.b (by decide) hg2 HGE.out)
  have hbd := nextN_bd1 HX.out (0, 0)
  have HQ : Aside0 (readR xs = readR xs) := ⟨rfl⟩
  have HEQ0 : Aside0 (rd0 xs = rdI xs (nextN xs (0, 0) 1).1.toNat (nextN xs (0, 0) 1).2) := ⟨rfl⟩
  have HRR : Aside0 ((rd0 xs).2.2 = 0 → readR xs = if endE xs (rd0 xs).2.1 0 ≠ 0 then ([], endE xs (rd0 xs).2.1 0) else if (okNum (nextN xs (0, 0) 1).1 && (rd0 xs).1.all rightI) = true then ((rd0 xs).1, 0) else ([], 11)) := ⟨fun h => by unfold readR; rw [h]⟩
  clear hR2 hg2 HR HQ
  generalize (nextN xs (0, 0) 1).2 = st0 at *
  generalize (nextN xs (0, 0) 1).1 = N at *
  obtain ⟨n, rfl⟩ : ∃ n : Nat, N = (n : Int) := ⟨N.toNat, by omega⟩
  rw [Int.toNat_natCast] at HEQ0
  have hn : n < 256 := by omega
  have hw : IntKind.i64.wrap (n : Int) = (n : Int) := IntWalk.i64_in _ (by omega)
  have HN := Aside0.mk hn
  clear hbd hn
  go_upto_region 4 with fail
  go_cut [7] from 15 to 20 (fun s7 wx => w2 = wx ∧ s7 = .bool (okNum n))
  case first =>
    by_cases h1 : (1 : Int) ≤ n
    · by_cases h2 : (n : Int) ≤ 16
      · go_wp2_with fail
        go_meet
        exact ⟨rfl, by unfold okNum; simp [h1, h2] <;> omega⟩
      · go_wp2_with fail
        go_meet
        exact ⟨rfl, by unfold okNum; simp [h1, h2] <;> omega⟩
    · go_wp2_with fail
      go_meet
      exact ⟨rfl, by unfold okNum; simp [h1] <;> omega⟩
  obtain ⟨rfl, rfl⟩ := hcut
  clear hw
  go_wp2_with fail
  go_loopg [6, 7, 22] n (fun kq v6 v7 v22 w' => ∃ (i : Nat) (l : List (Int × Int)) (st : Nat × Int), Aside0 (kq + i = n) ∧ v22 = .int .i64 (i : Int) ∧ v7 = .bool (okNum n && l.all rightI) ∧
    Aside0 (RdS 24 wB w' v6 l) ∧ Aside0 (Rdr st.2 w' g B d xs st.1) ∧ Aside0 (rdI xs n st0 = (l ++ (rdI xs kq st).1, (rdI xs kq st).2)) ∧ Aside0 (l.length ≤ i))
  case atStart => exact ⟨0, [], st0, ⟨by simp⟩, rfl, by simp, HS, HR2, ⟨by simp⟩, ⟨Nat.le_refl _⟩⟩
  case round =>
    obtain ⟨i, l, st, HK, rfl, rfl, HS, HR, HREC, HLI⟩ := hrel
    obtain ⟨va, vc, hv⟩ := Kd.S_slice HS.out.s
    subst hv
    generalize (Value.slice va l.length vc) = u6 at *
    cases gk with
    | zero =>
      obtain rfl : i = n := by have := HK.out; omega
      have hrd : rd0 xs = (l, st) := by rw [HEQ0.out, HREC.out]; simp [rdI]
      have HRD := Aside0.mk hrd
      clear hrd HREC HEQ0 HK HLI HN
      go_wp2_with fail
      refine (End_any st.2 _ g B d xs st.1 HR.out).mono ?_
      rintro e w5 ⟨rfl, q, rfl⟩
      replace HS := Aside0.mk (HS.out.below (pw_below_drewN (Below.refl _ _) q))
      have HNIL : Aside0 (RdS 24 w (wr.drewN q) (.slice none 0 0) []) := ⟨⟨Kd.S_nil _ _ _ _ _, below_step HB1.out.1 HS.out.b⟩⟩
      have HSW : Aside0 (RdS 24 w (wr.drewN q) u6 l) := ⟨⟨Kd.S_lower HS.out.s HB1.out.1.size, below_step HB1.out.1 HS.out.b⟩⟩
      by_cases hE : endE xs st.1 st.2 = 0
      · have h0 : st.2 = 0 := by
          by_cases h : st.2 = 0
          · exact h
          · rw [endE_err h] at hE; exact absurd hE h
        have hRR := HRR.out (by rw [HRD.out]; exact h0)
        rw [HRD.out] at hRR
        dsimp only at hRR
        rw [h0] at hE
        rw [if_neg (by rw [hE]; simp)] at hRR
        have HRR2 := Aside0.mk hRR
        rw [h0, hE]
        clear HRR hRR hE HR
        generalize (okNum ↑i && l.all rightI) = G at *
        cases G
        · go_wp2_with fail
          go_ret2
          exact ⟨_, by rw [HRR2.out]; rfl, by rw [HRR2.out]; exact HNIL.out⟩
        · go_wp2_with fail
          go_ret2
          exact ⟨_, by rw [HRR2.out]; rfl, by rw [HRR2.out]; exact HSW.out⟩
      · have hne : (endE xs st.1 st.2 != 0) = true := by simpa using hE
        have HRR2 : Aside0 (readR xs = ([], endE xs st.1 st.2)) := ⟨by unfold readR; rw [HRD.out]; dsimp only; rw [if_pos hE]⟩
        clear HRR hE HR
        generalize endE xs st.1 st.2 = E at *
        go_wp2_with fail
        go_ret2
        exact ⟨_, by rw [HRR2.out]; rfl, by rw [HRR2.out]; exact HNIL.out⟩
    | succ kq =>
      have hi : ((i : Nat) : Int) < ((n : Nat) : Int) := by have := HK.out; omega
      go_wp2_with fail
      refine (rdrNum_all _ g B d xs st 1 HR.out HX.out).mono ?_
      rintro e w3 ⟨rfl, hR3, hg3⟩
      replace HS := Aside0.mk (HS.out.read HR.out.b (by decide) hg3 HGE.out)
      have hbd := nextN_bd1 HX.out st
      have hw1 : IntKind.i64.wrap (nextN xs st 1).1 = (nextN xs st 1).1 := IntWalk.i64_in _ (by omega)
      have HR3 := Aside0.mk hR3
      clear hR3 hg3 HR hbd
      have HGO := Aside0.mk (fun h => rdI_go (xs := xs) (st := st) (n := kq) h)
      have HSTOP := Aside0.mk (fun h => rdI_stop (xs := xs) (st := st) (n := kq) h)
      generalize (nextN xs st 1).2 = st1 at *
      generalize (nextN xs st 1).1 = a1 at *
      go_wp2_with fail
      refine (rdrNum_all w3 g B d xs st1 6 HR3.out HX.out).mono ?_
      rintro e w4 ⟨rfl, hR4, hg4⟩
      replace HS := Aside0.mk (HS.out.read HR3.out.b (by decide) hg4 HGE.out)
      have hbd := nextN_bd6 HX.out st1
      have hw2 : IntKind.i64.wrap (nextN xs st1 6).1 = (nextN xs st1 6).1 := IntWalk.i64_in _ (by omega)
      have HR4 := Aside0.mk hR4
      clear hR4 hg4 HR3 hbd
      generalize (nextN xs st1 6).2 = st2 at *
      generalize (nextN xs st1 6).1 = a2 at *
      have hBA := below_alloc (Below.refl w4.heap.size w4) (.cells #[.int .i64 a1, .int .i64 a2] 24)
      have HB8 : Aside0 (BI 24 w4.heap.size (a1, a2) (w4.alloc (.cells #[.int .i64 a1, .int .i64 a2] 24))) := ⟨blk_new w4 _⟩
      replace HS := Aside0.mk (HS.out.below hBA)
      replace HR4 := Aside0.mk (HR4.out.below hBA)
      clear hBA
      go_wp2_with fail
      generalize w4.alloc (.cells #[.int .i64 a1, .int .i64 a2] 24) = W4 at *
      generalize w4.heap.size = g8 at *
      refine (Err_any st2.2 _ g B d xs st2.1 HR4.out).mono ?_
      rintro e w5 ⟨rfl, rfl⟩
      by_cases hE : st2.2 = 0
      · have hREC := HREC.out
        rw [HGO.out hE] at hREC
        dsimp only at hREC
        have HREC2 : Aside0 (rdI xs n st0 = ((l ++ [(a1, a2)]) ++ (rdI xs kq st2).1, (rdI xs kq st2).2)) := ⟨by rw [hREC]; simp⟩
        clear hREC HREC HGO HSTOP
        have hq : (st2.2 != 0) = false := by simpa using hE
        go_upto_region 9 with fail
        have HAL := Aside0.mk (all_snoc l (a1, a2))
        go_cut [7] from 34 to 38 (fun s7 wx => Aside0 (s7 = .bool (okNum n && (l ++ [(a1, a2)]).all rightI)) ∧ Aside0 (Below W4.heap.size W4 wx))
        case first =>
          obtain ⟨G, hG⟩ : ∃ G, (okNum ↑n && l.all rightI) = G := ⟨_, rfl⟩
          rw [hG]
          have HGG := Aside0.mk hG
          clear hG
          cases G
          · go_wp2_with fail
            go_meet
            exact ⟨⟨by rw [HAL.out, ← Bool.and_assoc, HGG.out]; rfl⟩, ⟨Below.refl _ _⟩⟩
          · go_wp2_with ((with_reducible refine gate_dst (N := 36) rfl ?_); (try refine gate_guard (by rfl) ?_); refine Kd.event_run rfl (exec_load rfl rfl (loadI24 HB8.out)) ?_)
            refine (Right_any (a1, a2) _).mono ?_
            rintro e w6 ⟨rfl, hB⟩
            have HB := Aside0.mk hB
            clear hB
            go_wp2_with fail
            go_meet
            exact ⟨⟨by rw [HAL.out, ← Bool.and_assoc, HGG.out]; rfl⟩, HB⟩
        obtain ⟨hs7, hB⟩ := hcut
        obtain rfl := hs7.out
        replace HS := Aside0.mk (HS.out.below hB.out)
        replace HR4 := Aside0.mk (HR4.out.below hB.out)
        have HL8 := Aside0.mk (loadI24 (blk_below HB8.out hB.out))
        have HL1 : Aside0 ((l.length + 1) * 16 ≤ 140737488355328) := ⟨by have := HLI.out; have := HN.out; omega⟩
        clear hs7 hB HB8 HAL
        generalize hG2 : (okNum ↑n && (l ++ [(a1, a2)]).all rightI) = G2 at *
        have HG2 := Aside0.mk hG2
        clear hG2
        go_wp2_with (first | ((with_reducible refine gate_dst (N := 40) rfl ?_); refine Kd.event_run rfl (exec_load rfl rfl HL8.out) ?_) | (at_builtin; refine Kd.S_append dI (w0 := wB) wB.heap.size rfl (.tmp 39) (.tmp 41) 47 24 (.agg #[.int .i64 0, .int .i64 0]) 16 rfl Try.underlying47 info_minf rfl (by decide) (by decide) u6 l (a1, a2) _ (fun _ => True) (fun _ => False) rfl rfl (inf_M _ _ _ _ _) (fun q hq => hq.elim) (fun _ _ => trivial) (Kd.S_mono HS.out.s (fun q hq => ⟨trivial, fun h => h⟩)) HS.out.b HS.out.b.size HL1.out ?_; intro v1 w2' hS1 hB1 hg1 hat; have HS9 : Aside0 (RdS 24 wB w2' v1 (l ++ [(a1, a2)])) := ⟨⟨hS1, hB1⟩⟩; have HR9 : Aside0 (Rdr st2.2 w2' g B d xs st2.1) := ⟨⟨blk_grown HR4.out.b hg1 (Kd.S_ne HS.out.s HR4.out.b (by decide)), Kd.C_below HB1.out.2 hB1, HR4.out.le, HR4.out.cap, HR4.out.c63⟩⟩; clear hS1 hB1 hg1 hat))
        go_roundg kq
        case measure => omega
        case rel => exact ⟨i + 1, l ++ [(a1, a2)], st2, ⟨by have := HK.out; omega⟩, by first | rfl | (simp; have := HN.out; have := HK.out; first | omega | (unfold wrap64; omega)), by rw [HG2.out], HS9, HR9, HREC2, ⟨by rw [List.length_append]; have := HLI.out; simp; omega⟩⟩
      · have hq : (st2.2 != 0) = true := by simpa using hE
        have hREC := HREC.out
        rw [HSTOP.out hE] at hREC
        have HRD : Aside0 (readR xs = ([], st2.2)) := ⟨by
          have h0 : (rd0 xs).2 = st2 := by rw [HEQ0.out, hREC]
          have h1 := readR_err (xs := xs) (by rw [h0]; exact hE)
          rw [h0] at h1
          exact h1⟩
        have HEE : Aside0 (endE xs st2.1 st2.2 = st2.2) := ⟨endE_err hE⟩
        clear hREC HREC HGO HSTOP HRR hE
        go_wp2_with fail
        refine (End_any st2.2 _ g B d xs st2.1 HR4.out).mono ?_
        rw [HEE.out]
        rintro e w5 ⟨rfl, q, rfl⟩
        replace HS := Aside0.mk (HS.out.below (pw_below_drewN (Below.refl _ _) q))
        have HNIL : Aside0 (RdS 24 w (W4.drewN q) (.slice none 0 0) []) := ⟨⟨Kd.S_nil _ _ _ _ _, below_step HB1.out.1 HS.out.b⟩⟩
        generalize st2.2 = E at *
        go_wp2_with fail
        go_ret2
        exact ⟨_, by rw [HRD.out]; rfl, by rw [HRD.out]; exact HNIL.out⟩
end Go.Proofs.Ytkdhccbgbkhnnaa.Memb
namespace Go.Proofs.Ytkdhccbgbkhnnaa.Memb
open Go.RowKit Go.Proofs.Ytkdhccbgbkhnnaa.MapI Go.Proofs.Ytkdhccbgbkhnnaa.Cur Go.Proofs.Ytkdhccbgbkhnnaa.CurP Go.Proofs.Ytkdhccbgbkhnnaa.Mem Go.Proofs.Ytkdhccbgbkhnnaa.Help Go.Proofs.YtkdhccbgbkhnnaaW.PrintWords Go.Proofs.YtkdhccbgbkhnnaaW.PrintLast Go.Proofs.YtkdhccbgbkhnnaaW.PrintMore
set_option linter.unusedVariables false
set_option linter.unusedSimpArgs false
theorem info_rinf : (Try.prog.info? 23).map (fun i => (i.zero, i.size, i.bytes)) = some (some (.agg #[.int .i64 0, .int .i64 0]), dI.sz, 16) := by kernel_rfl
theorem all_drop (l : List (Int × Int)) (i : Nat) (hi : i < l.length) : (l.drop i).all rightI = (rightI (l.getD i (0, 0)) && (l.drop (i + 1)).all rightI) := by
  rw [List.drop_eq_getElem_cons hi, List.all_cons, List.getD_eq_getElem?_getD, List.getElem?_eq_getElem hi]; rfl
set_option maxHeartbeats 4000000 in
theorem refRead_any (A : Option Addr) (c : Nat) (xs : List Int) (w : World) (hr : Kd.C (Kd.int .u8) w A xs.length xs) (hx : AllB xs) (hb : xs.length ≤ 140737488351232) :
    Calls Try.prog 23 #[.slice A xs.length c] w fun e w' => ∃ v, e = .returned (.tuple #[v, .int .i64 (readR xs).2]) ∧ RdS 23 w w' v (readR xs).1 := by
  have HX := Aside0.mk hx
  go_enter Try.func23, Try.ntmps23
  go_wp2_with fail
  refine (of_any w A c xs hr hb).mono ?_
  rintro e w1 ⟨wB, B, d, rfl, hR, hrd, hB1, hB2⟩
  have HB1 := Aside0.mk (And.intro hB1 hrd)
  have HR := Aside0.mk hR
  have HS : Aside0 (RdS 23 wB w1 (.slice none 0 0) []) := ⟨⟨Kd.S_nil _ _ _ _ _, hB2⟩⟩
  clear hr hb hx hR hrd hB1 hB2
  generalize hgg : wB.heap.size = g at HR ⊢
  have HGE : Aside0 (wB.heap.size ≤ g) := ⟨Nat.le_of_eq hgg⟩
  clear hgg
  go_wp2_with fail
  refine (rnum_all w1 g B d xs (0, 0) 1 HR.out HX.out).mono ?_
  rintro e w2 ⟨rfl, hR2, hg2⟩
  have HR2 := Aside0.mk hR2
  replace HS := Aside0.mk (HS.out.read HR.out.b (by decide) hg2 HGE.out)
  have hbd := nextN_bd1 HX.out (0, 0)
  have HEQ0 : Aside0 (rd0 xs = rdI xs (nextN xs (0, 0) 1).1.toNat (nextN xs (0, 0) 1).2) := ⟨rfl⟩
  have HRR : Aside0 ((rd0 xs).2.2 = 0 → readR xs = if endE xs (rd0 xs).2.1 0 ≠ 0 then ([], endE xs (rd0 xs).2.1 0) else if (okNum (nextN xs (0, 0) 1).1 && (rd0 xs).1.all rightI) = true then ((rd0 xs).1, 0) else ([], 11)) := ⟨fun h => by unfold readR; rw [h]⟩
  clear hR2 hg2 HR
  generalize (nextN xs (0, 0) 1).2 = st0 at *
  generalize (nextN xs (0, 0) 1).1 = N at *
  obtain ⟨n, rfl⟩ : ∃ n : Nat, N = (n : Int) := ⟨N.toNat, by omega⟩
  rw [Int.toNat_natCast] at HEQ0
  have hn : n < 256 := by omega
  have hw : IntKind.i64.wrap (n : Int) = (n : Int) := IntWalk.i64_in _ (by omega)
  have HN := Aside0.mk hn
  clear hbd hn
  go_wp2_with fail
  clear hw
  have HFAIL : Aside0 (∀ (st : Nat × Int) (W : World) (v : Value) (l : List (Int × Int)), (rd0 xs).2 = st → st.2 ≠ 0 → RdS 23 wB W v l → readR xs = ([], st.2) ∧ endE xs st.1 st.2 = st.2 ∧ ∀ q, RdS 23 w (W.drewN q) (.slice none 0 0) []) := ⟨fun st W v l h0 hE hS => by
    have h1 := readR_err (xs := xs) (by rw [h0]; exact hE)
    rw [h0] at h1
    exact ⟨h1, endE_err hE, fun q => ⟨Kd.S_nil _ _ _ _ _, below_step HB1.out.1 (pw_below_drewN hS.b q)⟩⟩⟩
  go_loopg [6, 7] n (fun kq v6 v7 w' => ∃ (i : Nat) (l : List (Int × Int)) (st : Nat × Int), Aside0 (kq + i = n) ∧ v7 = .int .i64 (i : Int) ∧
    Aside0 (RdS 23 wB w' v6 l) ∧ Aside0 (RefR w' g B d xs st.1 st.2) ∧ Aside0 ((st.2 = 0 → rdI xs n st0 = (l ++ (rdI xs kq st).1, (rdI xs kq st).2)) ∧ (st.2 ≠ 0 → (rdI xs n st0).2 = st)) ∧ Aside0 (l.length ≤ i))
  case atStart =>
    exact ⟨0, [], st0, ⟨by simp⟩, rfl, HS, HR2, ⟨fun _ => by simp, fun h => rdI_err h _⟩, ⟨Nat.le_refl _⟩⟩
  case round =>
    obtain ⟨i, l, st, HK, rfl, HS, HR, HREC, HLI⟩ := hrel
    obtain ⟨va, vc, hv⟩ := Kd.S_slice HS.out.s
    by_cases h0 : st.2 = 0
    · have hc2 := HR.out.cells.2.2
      rw [h0] at hc2
      cases gk with
      | zero =>
        obtain rfl : i = n := by have := HK.out; omega
        have hrd : rd0 xs = (l, st) := by rw [HEQ0.out, HREC.out.1 h0]; simp [rdI]
        have HRD := Aside0.mk hrd
        clear hrd HREC HEQ0 HK
        have hRR := HRR.out (by rw [HRD.out]; exact h0)
        rw [HRD.out] at hRR
        dsimp only at hRR
        have HRR2 := Aside0.mk hRR
        have HEND := refEnd_any st.2 wr g B d xs st.1 HR.out
        rw [h0] at HEND
        replace HEND := Aside0.mk HEND
        clear hRR HRR HR hc2
        subst hv
        have HNIL : Aside0 (∀ W, Below wr.heap.size wr W → RdS 23 w W (.slice none 0 0) []) := ⟨fun W hB => ⟨Kd.S_nil _ _ _ _ _, below_step HB1.out.1 (HS.out.below hB).b⟩⟩
        by_cases hE : endE xs st.1 0 = 0
        · rw [hE] at HEND
          rw [if_neg (by rw [hE]; simp)] at HRR2
          clear hE
          by_cases h1 : (1 : Int) ≤ i
          · by_cases h2 : (i : Int) ≤ 16
            · have hok : okNum i = true := by unfold okNum; simp [h1]; omega
              rw [hok, Bool.true_and] at HRR2
              have hl63 : l.length ≤ 255 := by have := HLI.out; have := HN.out; omega
              clear hok
              go_wp2_with fail
              refine HEND.out.mono ?_
              rintro e w5 ⟨rfl, q, rfl⟩
              obtain ⟨A6, c6, hv6, hlc, hC6⟩ := Kd.S_reads (Kd.S_drewN HS.out.s q)
              injection hv6 with e1 e2 e3
              subst e1 e3
              have HC6 := Aside0.mk (And.intro hlc hC6)
              have HSW : Aside0 (∀ W, Below (wr.drewN q).heap.size (wr.drewN q) W → RdS 23 w W (.slice va l.length vc) l) := ⟨fun W hB => ⟨Kd.S_lower (Kd.S_below (Kd.S_drewN HS.out.s q) hB) HB1.out.1.size, below_step HB1.out.1 (below_step (pw_below_drewN HS.out.b q) hB)⟩⟩
              have HNW : Aside0 (∀ W, Below (wr.drewN q).heap.size (wr.drewN q) W → RdS 23 w W (.slice none 0 0) []) := ⟨fun W hB => ⟨Kd.S_nil _ _ _ _ _, below_step HB1.out.1 (below_step (pw_below_drewN HS.out.b q) hB)⟩⟩
              clear hlc hC6 HS HNIL e2
              have hlen := hl63
              generalize hWq : wr.drewN q = Wq at *
              go_wp2_with fail
              go_loopg [10] l.length (fun kq v10 w' => ∃ j : Nat, Aside0 (kq + j = l.length) ∧ v10 = .int .i64 (j : Int) ∧ Aside0 (Below Wq.heap.size Wq w') ∧ Aside0 (l.all rightI = (l.drop j).all rightI))
              case atStart => exact ⟨0, ⟨by simp⟩, rfl, ⟨Below.refl _ _⟩, ⟨by rw [List.drop_zero]⟩⟩
              case round =>
                obtain ⟨j, HKj, rfl, HBj, HAL⟩ := hrel
                cases gk with
                | zero =>
                  obtain rfl : j = l.length := by have := HKj.out; omega
                  have hal : l.all rightI = true := by rw [HAL.out]; simp
                  rw [if_pos hal] at HRR2
                  clear hal
                  go_wp2_with fail
                  go_ret2
                  exact ⟨_, by rw [HRR2.out]; rfl, by rw [HRR2.out]; exact HSW.out _ HBj.out⟩
                | succ kq =>
                  have hj : j < l.length := by have := HKj.out; omega
                  have hj2 : ((j : Nat) : Int) < ((l.length : Nat) : Int) := by omega
                  obtain ⟨ad, rfl, hld⟩ := inf_load (Kd.C_below HC6.out.2 HBj.out) j hj
                  have HLD := Aside0.mk hld
                  have HST := Aside0.mk (all_drop l j hj)
                  clear hld
                  generalize l.getD j (0, 0) = x at *
                  have HRX := Aside0.mk (refRight_any x)
                  unfold infV at HRX
                  cases hrx : rightI x
                  · rw [hrx] at HRX HST
                    rw [HAL.out, HST.out] at HRR2
                    clear hrx
                    go_wp2_with ((with_reducible refine gate_dst (N := 60) rfl ?_); refine Kd.event_run rfl (exec_load rfl rfl HLD.out) ?_)
                    refine (HRX.out _).mono ?_
                    rintro e w6 ⟨rfl, hB⟩
                    replace HBj := Aside0.mk (below_step HBj.out hB)
                    clear hB
                    go_wp2_with fail
                    go_ret2
                    exact ⟨_, by rw [HRR2.out]; rfl, by rw [HRR2.out]; exact HNW.out _ HBj.out⟩
                  · rw [hrx] at HRX HST
                    rw [Bool.true_and] at HST
                    clear hrx
                    go_wp2_with ((with_reducible refine gate_dst (N := 60) rfl ?_); refine Kd.event_run rfl (exec_load rfl rfl HLD.out) ?_)
                    refine (HRX.out _).mono ?_
                    rintro e w6 ⟨rfl, hB⟩
                    replace HBj := Aside0.mk (below_step HBj.out hB)
                    clear hB
                    go_wp2_with fail
                    go_roundg kq
                    case measure => omega
                    case rel => exact ⟨j + 1, ⟨by have := HKj.out; omega⟩, by first | rfl | (simp; first | omega | (unfold wrap64; omega)), HBj, ⟨by rw [HAL.out, HST.out]⟩⟩
            · have hok : okNum i = false := by unfold okNum; simp [h1]; omega
              rw [hok, Bool.false_and] at HRR2
              clear hok
              go_wp2_with fail
              refine HEND.out.mono ?_
              rintro e w5 ⟨rfl, q, rfl⟩
              have HNL := Aside0.mk (HNIL.out _ (pw_below_drewN (Below.refl _ _) q))
              go_wp2_with fail
              go_ret2
              exact ⟨_, by rw [HRR2.out]; rfl, by rw [HRR2.out]; exact HNL.out⟩
          · have hok : okNum i = false := by unfold okNum; simp [h1]
            rw [hok, Bool.false_and] at HRR2
            clear hok
            go_wp2_with fail
            refine HEND.out.mono ?_
            rintro e w5 ⟨rfl, q, rfl⟩
            have HNL := Aside0.mk (HNIL.out _ (pw_below_drewN (Below.refl _ _) q))
            go_wp2_with fail
            go_ret2
            exact ⟨_, by rw [HRR2.out]; rfl, by rw [HRR2.out]; exact HNL.out⟩
        · have hne : (endE xs st.1 0 != 0) = true := by simpa using hE
          rw [if_pos hE] at HRR2
          clear hE
          generalize endE xs st.1 0 = E at *
          go_wp2_with fail
          refine HEND.out.mono ?_
          rintro e w5 ⟨rfl, q, rfl⟩
          have HNL := Aside0.mk (HNIL.out _ (pw_below_drewN (Below.refl _ _) q))
          go_wp2_with fail
          go_ret2
          exact ⟨_, by rw [HRR2.out]; rfl, by rw [HRR2.out]; exact HNL.out⟩
      | succ kq =>
        have hi : ((i : Nat) : Int) < ((n : Nat) : Int) := by have := HK.out; omega
        subst hv
        generalize (Value.slice va l.length vc) = u6 at *
        go_wp2_with fail
        clear hc2
        refine (rnum_all _ g B d xs st 1 HR.out HX.out).mono ?_
        rintro e w3 ⟨rfl, hR3, hg3⟩
        replace HS := Aside0.mk (HS.out.read HR.out.b (by decide) hg3 HGE.out)
        have hbd := nextN_bd1 HX.out st
        have hw1 : IntKind.i64.wrap (nextN xs st 1).1 = (nextN xs st 1).1 := IntWalk.i64_in _ (by omega)
        have HGO := Aside0.mk (fun h => rdI_go (xs := xs) (st := st) (n := kq) h)
        have HSTOP := Aside0.mk (fun h => rdI_stop (xs := xs) (st := st) (n := kq) h)
        generalize (nextN xs st 1).2 = st1 at *
        generalize (nextN xs st 1).1 = a1 at *
        have hBA := below_alloc (Below.refl w3.heap.size w3) (.cells #[.int .i64 a1, .int .i64 0] 23)
        have hb8 : BI 23 w3.heap.size (a1, 0) (w3.alloc (.cells #[.int .i64 a1, .int .i64 0] 23)) := blk_new w3 _
        have HB8 := Aside0.mk hb8
        have HSO := Aside0.mk (Kd.S_old HS.out.s hBA)
        replace HS := Aside0.mk (HS.out.below hBA)
        have HR3 := Aside0.mk (hR3.below hBA)
        have H8 : Aside0 (wB.heap.size ≤ w3.heap.size) := ⟨by have := HS.out.b.size; have := (hR3.below hBA).b; exact Nat.le_trans HGE.out (Nat.le_of_lt (blk_lt hR3.b))⟩
        clear hBA hR3 hg3 HR hbd hb8
        go_wp2_with fail
        generalize w3.alloc (.cells #[.int .i64 a1, .int .i64 0] 23) = W3 at *
        generalize w3.heap.size = g8 at *
        refine (rnum_all W3 g B d xs st1 6 HR3.out HX.out).mono ?_
        rintro e w4 ⟨rfl, hR4, hg4⟩
        have HSF := Aside0.mk (Kd.S_grown (Kd.S_types HSO.out HR3.out.b (fun q hq => by rcases List.mem_cons.1 hq with rfl | hq; decide; cases hq)) hg4 (fun k hk e => hk.2 (Option.some.inj e)))
        replace HS := Aside0.mk (HS.out.read HR3.out.b (by decide) hg4 HGE.out)
        have hb8 := blk_grown HB8.out hg4 (by simpa using blk_ne HB8.out HR3.out.b (by decide))
        have hbd := nextN_bd6 HX.out st1
        have hw2 : IntKind.i64.wrap (nextN xs st1 6).1 = (nextN xs st1 6).1 := IntWalk.i64_in _ (by omega)
        have c81 := blk_cell hb8 1
        have f81 := blk_frozen hb8 1
        generalize (nextN xs st1 6).2 = st2 at *
        generalize (nextN xs st1 6).1 = a2 at *
        have HB9 : Aside0 (BI 23 g8 (a1, a2) (w4.setCell ⟨g8, 1, none⟩ (.int .i64 a2))) := ⟨by unfold BI Blk; rw [blk_set hb8]; rfl⟩
        have hs8 := setCells_grown w4 g8 [.int .i64 a2] 1
        have hS5 := Kd.S_far (p := ⟨g8, 1, none⟩) HSF.out (fun k hk => Nat.ne_of_lt hk.1.2) (.int .i64 a2)
        have HS5 : Aside0 (RdS 23 wB (w4.setCell ⟨g8, 1, none⟩ (.int .i64 a2)) u6 l) := ⟨⟨Kd.S_mono hS5 (fun _ _ => trivial), HS.out.b.grown hs8 HS.out.b.size (fun k e => by cases e; exact H8.out)⟩⟩
        have HR5 : Aside0 (RefR (w4.setCell ⟨g8, 1, none⟩ (.int .i64 a2)) g B d xs st2.1 st2.2) := ⟨⟨blk_grown hR4.b hs8 (by simpa using blk_ne hR4.b hb8 (by decide)), Kd.C_below HB1.out.2 HS5.out.b, hR4.le, hR4.cap⟩⟩
        have HLI2 : Aside0 ((l.length + 1) * 16 ≤ 140737488355328) := ⟨by have := HLI.out; have := HN.out; omega⟩
        have HL8 := Aside0.mk (loadI23 HB9.out)
        have HH0 := Aside0.mk h0
        clear hR4 hg4 HR3 hbd hb8 hs8 hS5 HS HSF HSO HB8 HB9 h0
        go_upto_region 9 with fail
        generalize w4.setCell ⟨g8, 1, none⟩ (.int .i64 a2) = W5 at *
        go_wp2_with (first | ((with_reducible refine gate_dst (N := 37) rfl ?_); refine Kd.event_run rfl (exec_load rfl rfl HL8.out) ?_) | (at_builtin; refine Kd.S_append dI (w0 := wB) wB.heap.size rfl (.tmp 36) (.tmp 38) 32 23 (.agg #[.int .i64 0, .int .i64 0]) 16 rfl Try.underlying32 info_rinf rfl (by decide) (by decide) u6 l (a1, a2) _ (fun _ => True) (fun _ => False) rfl rfl (inf_M _ _ _ _ _) (fun q hq => hq.elim) (fun _ _ => trivial) (Kd.S_mono HS5.out.s (fun q hq => ⟨trivial, fun h => h⟩)) HS5.out.b HS5.out.b.size HLI2.out ?_; intro v1 w2' hS1 hB1 hg1 hat; have HS9 : Aside0 (RdS 23 wB w2' v1 (l ++ [(a1, a2)])) := ⟨⟨hS1, hB1⟩⟩; have HR9 : Aside0 (RefR w2' g B d xs st2.1 st2.2) := ⟨⟨blk_grown HR5.out.b hg1 (Kd.S_ne HS5.out.s HR5.out.b (by decide)), Kd.C_below HB1.out.2 hB1, HR5.out.le, HR5.out.cap⟩⟩; clear hS1 hB1 hg1 hat))
        go_roundg kq
        case measure => omega
        case rel =>
          exact ⟨i + 1, l ++ [(a1, a2)], st2, ⟨by have := HK.out; omega⟩, by first | rfl | (simp; have := HN.out; have := HK.out; first | omega | (unfold wrap64; omega)), HS9, HR9,
            ⟨fun h => by rw [HREC.out.1 HH0.out, HGO.out h]; simp, fun h => by rw [HREC.out.1 HH0.out, HSTOP.out h]⟩, ⟨by rw [List.length_append]; have := HLI.out; simp; omega⟩⟩
    · have hc2 := HR.out.cells.2.2
      have h0' : (st.2 == 0) = false := by simpa using h0
      obtain ⟨e1, e2, hNL⟩ := HFAIL.out st wr _ l (by rw [HEQ0.out]; exact HREC.out.2 h0) h0 HS.out
      have HEND := refEnd_any st.2 wr g B d xs st.1 HR.out
      rw [e2] at HEND
      replace HEND := Aside0.mk HEND
      have HNL := Aside0.mk hNL
      have HRR2 := Aside0.mk e1
      have hne : (st.2 != 0) = true := by simpa using h0
      subst hv
      clear HREC HFAIL HRR h0 e1 e2 hNL HR
      generalize st.2 = E at *
      by_cases hi : ((i : Nat) : Int) < ((n : Nat) : Int)
      · go_wp2_with fail
        refine HEND.out.mono ?_
        rintro e w5 ⟨rfl, q, rfl⟩
        have HNL2 := Aside0.mk (HNL.out q)
        go_wp2_with fail
        go_ret2
        exact ⟨_, by rw [HRR2.out]; rfl, by rw [HRR2.out]; exact HNL2.out⟩
      · go_wp2_with fail
        refine HEND.out.mono ?_
        rintro e w5 ⟨rfl, q, rfl⟩
        have HNL2 := Aside0.mk (HNL.out q)
        go_wp2_with fail
        go_ret2
        exact ⟨_, by rw [HRR2.out]; rfl, by rw [HRR2.out]; exact HNL2.out⟩
end Go.Proofs.Ytkdhccbgbkhnnaa.Memb
