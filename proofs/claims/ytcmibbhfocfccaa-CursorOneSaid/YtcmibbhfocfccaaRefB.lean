/- RefB: RefW7, RefW8, RefW9. -/
import Derived.Test.YtcmibbhfocfccaaRefA
import Derived.Test.YtcmibbhfocfccaaCurW10
import Derived.OwnWalk
import Derived.Deep.CutBlock
import Derived.Deep.CutRange
namespace Go.Proofs.Ytcmibbhfocfccaa.Cur
open Go.RowKit Go.Proofs.Ytcmibbhfocfccaa.Segs Go.Proofs.Ytcmibbhfocfccaa.Own Go.Proofs.Ytcmibbhfocfccaa.CurP Go.Proofs.Ytcmibbhfocfccaa.Mem Go.Proofs.Ytcmibbhfocfccaa.Bits Go.Proofs.Ytcmibbhfocfccaa.Help Go.Proofs.YtcmibbhfocfccaaW.PrintWords Go.Proofs.YtcmibbhfocfccaaW.PrintLast Go.Proofs.YtcmibbhfocfccaaW.PrintMore
set_option linter.unusedVariables false
set_option linter.unusedSimpArgs false
/-- wB: the world that the Reader's block was made in; all else is made behind it. -/
structure RefF (wB W : World) (B : Option Addr) (d : Nat) (xs : List Int) (v : Value) (vs : List (Int × List Int)) (at_ : Nat) (e : Int) : Prop where
  rd : RefR W wB.heap.size B d xs at_ e
  row : Kd.S dV 66 W wB.heap.size (fun _ => True) v vs
  b : Below wB.heap.size wB W
  r : Kd.C (Kd.int .u8) wB B xs.length xs
theorem RefF.below {wB W W1 : World} {B : Option Addr} {d : Nat} {xs : List Int} {v : Value} {vs : List (Int × List Int)} {at_ : Nat} {e : Int} (h : RefF wB W B d xs v vs at_ e) (hB : Below W.heap.size W W1) : RefF wB W1 B d xs v vs at_ e :=
  ⟨h.rd.below hB, Kd.S_below h.row hB, below_step h.b hB, h.r⟩
end Go.Proofs.Ytcmibbhfocfccaa.Cur
namespace Go.Proofs.Ytcmibbhfocfccaa.Cur
open Go.RowKit Go.Proofs.Ytcmibbhfocfccaa.Segs Go.Proofs.Ytcmibbhfocfccaa.Own Go.Proofs.Ytcmibbhfocfccaa.CurP Go.Proofs.Ytcmibbhfocfccaa.Mem Go.Proofs.Ytcmibbhfocfccaa.Bits Go.Proofs.Ytcmibbhfocfccaa.Help Go.Proofs.YtcmibbhfocfccaaW.PrintWords Go.Proofs.YtcmibbhfocfccaaW.PrintLast Go.Proofs.YtcmibbhfocfccaaW.PrintMore
set_option linter.unusedVariables false
set_option linter.unusedSimpArgs false
def RefRunPost (w : World) (xs : List Int) (l : List (Int × Int)) (e : Ending) (w' : World) : Prop :=
  ∃ v, e = .returned (.tuple #[v, .int .i64 ((runL xs 0 l).2.1 : Nat), .int .i64 (runL xs 0 l).2.2]) ∧ Kd.S dV 66 w' w.heap.size (fun _ => True) v (runL xs 0 l).1 ∧ Below w.heap.size w w'
def RefS (wB W : World) (B : Option Addr) (d : Nat) (xs : List Int) (v : Value) (l : List (Int × Int)) (i : Nat) : Prop :=
  ∃ vs at_, RefF wB W B d xs v vs at_ 0 ∧ runL xs 0 l = (vs ++ (runL xs at_ (l.drop i)).1, (runL xs at_ (l.drop i)).2) ∧ vs.length = i
/-- While a round runs; hs: the memory's size when it began. -/
structure RefP (wB W : World) (B : Option Addr) (d : Nat) (xs : List Int) (v : Value) (vs : List (Int × List Int)) (hs at_ : Nat) (e : Int) : Prop where
  rd : RefR W wB.heap.size B d xs at_ e
  row : Kd.S dV 66 W wB.heap.size (fun q => q < hs ∧ q ≠ wB.heap.size) v vs
  b : Below wB.heap.size wB W
  r : Kd.C (Kd.int .u8) wB B xs.length xs
  sz : hs ≤ W.heap.size
  h0 : wB.heap.size < hs
section
variable {wB W W1 : World} {gv : Nat} {B : Option Addr} {d : Nat} {xs : List Int} {v : Value} {vs : List (Int × List Int)} {hs at_ at' j : Nat} {e e' : Int} {cs : Array Value}
theorem RefF.start (h : RefF wB W B d xs v vs at_ e) (o : Obj) : RefP wB (W.alloc o) B d xs v vs W.heap.size at_ e :=
  ⟨h.rd.below (below_alloc (Below.refl _ _) o), Kd.S_alloc (Kd.S_mono (Kd.S_bound (Kd.S_types h.row h.rd.b (by decide))) (fun q hq => ⟨hq.2.2.1, hq.1.2⟩)) o, below_alloc h.b o, h.r, by rw [alloc_size]; omega, blk_lt h.rd.b⟩
theorem RefP.used (h : RefP wB W B d xs v vs hs at_ e) (hR : RefR W1 wB.heap.size B d xs at' e') (hg : W.grownBy W1 (some wB.heap.size)) : RefP wB W1 B d xs v vs hs at' e' :=
  ⟨hR, Kd.S_grown h.row hg (fun q hq => by simpa using hq.2), h.b.grown hg h.b.size (fun k hk => by injection hk with hk; omega), h.r, Nat.le_trans h.sz hg.size, h.h0⟩
theorem RefP.drewN (h : RefP wB W B d xs v vs hs at_ e) (n : Nat) : RefP wB (W.drewN n) B d xs v vs hs at_ e := h.used (h.rd.drewN n) (grown_drewN W n _)
/-- The piece's own value is written. -/
theorem RefP.val (h : RefP wB W B d xs v vs hs at_ e) (hb : W.heap[gv]? = some (.cells cs 66 (0, 0))) (hgv : hs ≤ gv) (j : Nat) (u : Value) : RefP wB (W.setCell ⟨gv, j, none⟩ u) B d xs v vs hs at_ e :=
  have hg := setCells_grown W gv [u] j
  have hB : Below wB.heap.size wB (W.setCell ⟨gv, j, none⟩ u) := h.b.grown hg h.b.size (fun k hk => by injection hk with hk; have := h.h0; omega)
  ⟨⟨blk_far h.rd.b (by simpa using blk_ne h.rd.b hb (by decide)) _, Kd.C_below h.r hB, h.rd.le, h.rd.cap⟩, Kd.S_grown h.row hg (fun q hq => by have := hq.1; simp; omega), hB, h.r, Nat.le_trans h.sz hg.size, h.h0⟩
/-- What a round comes to ahead of its end. -/
def RefQ (wB W : World) (gv : Nat) (B : Option Addr) (d : Nat) (xs : List Int) (v : Value) (vs : List (Int × List Int)) (hs at_ : Nat) (k s : Int) : Prop :=
  if (pieceR xs at_ k s).1 = 0 then ∃ u, W.heap[gv]? = some (.cells #[.int .u64 (pieceR xs at_ k s).2.1, u] 66 (0, 0)) ∧ Owns W hs u (pieceR xs at_ k s).2.2.1 ∧ RefP wB W B d xs v vs hs (pieceR xs at_ k s).2.2.2 0
  else RefP wB W B d xs v vs hs at_ (pieceR xs at_ k s).1
theorem RefQ.yes {k s N : Int} {bs : List Int} {u : Value} (hp : pieceR xs at_ k s = (0, N, bs, at')) (h : W.heap[gv]? = some (.cells #[.int .u64 N, u] 66 (0, 0))) (hO : Owns W hs u bs) (hP : RefP wB W B d xs v vs hs at' 0) : RefQ wB W gv B d xs v vs hs at_ k s := by
  unfold RefQ; rw [hp, if_pos rfl]; exact ⟨u, h, hO, hP⟩
theorem RefQ.no {k s e : Int} (hp : (pieceR xs at_ k s).1 = e) (he : e ≠ 0) (hP : RefP wB W B d xs v vs hs at_ e) : RefQ wB W gv B d xs v vs hs at_ k s := by
  unfold RefQ; rw [hp, if_neg he]; exact hP
end
/-! plain -/
theorem fitsE_want (xs : List Int) (at_ : Nat) (s : Int) : fitsE xs at_ 0 s (decide (0 ≤ s)) = wantN xs at_ s := by
  unfold fitsE wantN
  by_cases h : s < 0
  · simp [h]
  · simp [h, show 0 ≤ s by omega]
theorem want_zero {xs : List Int} {at_ : Nat} {s : Int} (h : wantN xs at_ s = 0) : 0 ≤ s ∧ (at_ : Int) + s ≤ xs.length := by
  unfold wantN at h
  split at h
  · omega
  · split at h <;> omega
theorem num_no {xs : List Int} {at_ : Nat} {s : Int} (h : fitsE xs at_ 0 s (decide (1 ≤ s) && decide (s ≤ 8)) ≠ 0) : (pieceR xs at_ 0 s).1 = fitsE xs at_ 0 s (decide (1 ≤ s) && decide (s ≤ 8)) := by
  unfold pieceR fitsE at *
  by_cases h1 : s < 1
  · have d1 : decide (1 ≤ s) = false := by simp; omega
    simp [h1, d1]
  · by_cases h8 : s > 8
    · have d1 : decide (s ≤ 8) = false := by simp; omega
      simp [h8, d1]
    · have d1 : decide (1 ≤ s) = true := by simp; omega
      have d8 : decide (s ≤ 8) = true := by simp; omega
      by_cases hh : s > (xs.length : Int) - at_
      · simp [hh, h1, h8, d1, d8]
      · simp [hh, d1, d8] at h
theorem num_yes {xs : List Int} {at_ : Nat} {s : Int} (h : fitsE xs at_ 0 s (decide (1 ≤ s) && decide (s ≤ 8)) = 0) : 1 ≤ s ∧ s ≤ 8 ∧ (at_ : Int) + s ≤ xs.length ∧ pieceR xs at_ 0 s = (0, numL ((xs.drop at_).take s.toNat), [], at_ + s.toNat) := by
  unfold fitsE at h
  rw [if_neg (by decide)] at h
  split at h
  · omega
  · rename_i hb
    have hb' : 1 ≤ s ∧ s ≤ 8 := by
      rw [Bool.not_eq_false, Bool.and_eq_true] at hb
      simpa using hb
    split at h
    · omega
    · refine ⟨hb'.1, hb'.2, by omega, ?_⟩
      unfold pieceR
      rw [if_pos rfl, if_neg (by omega), if_neg (by omega)]
theorem piece1_no {xs : List Int} {at_ : Nat} {k s : Int} (hk : k = 1 ∨ k = 2 ∨ k = 3) (h : wantN xs at_ s ≠ 0) : (pieceR xs at_ k s).1 = wantN xs at_ s := by
  unfold pieceR
  rcases hk with rfl | rfl | rfl
  · rw [if_neg (by decide), if_pos rfl, if_neg h]
  · rw [if_neg (by decide), if_neg (by decide), if_pos rfl, if_neg h]
  · rw [if_neg (by decide), if_neg (by decide), if_neg (by decide), if_pos rfl, if_neg h]
theorem piece1_yes {xs : List Int} {at_ : Nat} {s : Int} (h : wantN xs at_ s = 0) : pieceR xs at_ 1 s = (0, 0, (xs.drop at_).take s.toNat, at_ + s.toNat) := by
  unfold pieceR
  rw [if_neg (by decide), if_pos rfl, if_pos h]
theorem piece2_yes {xs : List Int} {at_ : Nat} {s : Int} (h : wantN xs at_ s = 0) : pieceR xs at_ 2 s = (0, 0, [], at_ + s.toNat) := by
  unfold pieceR
  rw [if_neg (by decide), if_neg (by decide), if_pos rfl, if_pos h]
theorem piece3_yes {xs : List Int} {at_ : Nat} {s : Int} (h : wantN xs at_ s = 0) (hz : ((xs.drop at_).take s.toNat).all (· == 0) = true) : pieceR xs at_ 3 s = (0, 0, [], at_ + s.toNat) := by
  unfold pieceR
  rw [if_neg (by decide), if_neg (by decide), if_neg (by decide), if_pos rfl, if_pos h, if_pos hz]
theorem piece3_form {xs : List Int} {at_ : Nat} {s : Int} (h : wantN xs at_ s = 0) (hz : ((xs.drop at_).take s.toNat).all (· == 0) = false) : (pieceR xs at_ 3 s).1 = 11 := by
  unfold pieceR
  rw [if_neg (by decide), if_neg (by decide), if_neg (by decide), if_pos rfl, if_pos h, if_neg (by simp [hz])]
theorem piece4_yes (xs : List Int) (at_ : Nat) : pieceR xs at_ 4 0 = (0, 0, xs.drop at_, xs.length) := by
  unfold pieceR
  rw [if_neg (by decide), if_neg (by decide), if_neg (by decide), if_neg (by decide), if_pos ⟨rfl, rfl⟩]
theorem piece4_no {xs : List Int} {at_ : Nat} {k s : Int} (h0 : k ≠ 0) (h1 : k ≠ 1) (h2 : k ≠ 2) (h3 : k ≠ 3) (h : ¬ (k = 4 ∧ s = 0)) : (pieceR xs at_ k s).1 = 1 := by
  unfold pieceR
  rw [if_neg h0, if_neg h1, if_neg h2, if_neg h3, if_neg h]
end Go.Proofs.Ytcmibbhfocfccaa.Cur
namespace Go.Proofs.Ytcmibbhfocfccaa.Cur
open Go.RowKit Go.Proofs.Ytcmibbhfocfccaa.Segs Go.Proofs.Ytcmibbhfocfccaa.Own Go.Proofs.Ytcmibbhfocfccaa.CurP Go.Proofs.Ytcmibbhfocfccaa.Mem Go.Proofs.Ytcmibbhfocfccaa.Bits Go.Proofs.Ytcmibbhfocfccaa.Help Go.Proofs.YtcmibbhfocfccaaW.PrintWords Go.Proofs.YtcmibbhfocfccaaW.PrintLast Go.Proofs.YtcmibbhfocfccaaW.PrintMore
set_option linter.unusedVariables false
set_option linter.unusedSimpArgs false
set_option maxRecDepth 10000
theorem ref_put {wB W w2 : World} {B : Option Addr} {d : Nat} {xs : List Int} {v v1 : Value} {vs vs1 : List (Int × List Int)} {hs at_ : Nat} (h : RefP wB W B d xs v vs hs at_ 0) (hS : Kd.S dV 66 w2 wB.heap.size (fun _ => True) v1 vs1) (hB : Below wB.heap.size wB w2) (hg : W.grownBy w2 v.ownBlock) : RefF wB w2 B d xs v1 vs1 at_ 0 :=
  ⟨⟨blk_grown h.rd.b hg (Kd.S_ne h.row h.rd.b (by decide)), Kd.C_below h.r hB, h.rd.le, h.rd.cap⟩, hS, hB, h.r⟩
set_option maxHeartbeats 16000000 in
theorem refRun_any (w : World) (A Al : Option Addr) (c cl : Nat) (xs : List Int) (l : List (Int × Int)) (hr : Kd.C (Kd.int .u8) w A xs.length xs) (hc : xs.length ≤ c)
    (ho : dO.C w Al l.length l) (hlc : l.length ≤ cl) (hlb : ∀ o ∈ l, -9223372036854775808 ≤ o.2 ∧ o.2 ≤ 9223372036854775807) (hx : AllB xs) (hb : xs.length ≤ 140737488351232) (hsz : l.length * 32 ≤ 140737488355328) :
    Calls Try.prog 11 #[.slice A xs.length c, .slice Al l.length cl] w (RefRunPost w xs l) := by
  have H := Aside0.mk (And.intro hlb (And.intro hx (And.intro hb hsz)))
  have HO := Aside0.mk (And.intro ho hlc)
  have HOF := Aside0.mk (of_any w A c xs hr hb)
  have hxl : (xs.length : Int) ≤ 140737488351232 := by omega
  have hll : (l.length : Int) ≤ 140737488355328 := by omega
  clear hr hc ho hlc hlb hx hb hsz
  go_enter Try.func11, Try.ntmps11
  go_wp2_with fail
  refine HOF.out.mono ?_
  rintro e w1 ⟨wB, B, d, rfl, hRR, hC, hB1, hB2⟩
  have HF : Aside0 (RefF wB w1 B d xs (.slice none 0 0) [] 0 0) := ⟨⟨hRR, Kd.S_nil _ _ _ _ _, hB2, hC⟩⟩
  have HB := Aside0.mk hB1
  clear hRR hC hB1 hB2 HOF
  go_wp2_with fail
  go_loopg [8, 9] l.length (fun kq v8 v9 w' => ∃ i : Nat, Aside0 (kq + i = l.length) ∧ v9 = .int .i64 (i : Int) ∧ Aside0 (RefS wB w' B d xs v8 l i))
  case atStart => exact ⟨0, ⟨by simp⟩, rfl, ⟨_, _, HF.out, by simp, rfl⟩⟩
  case round =>
    clear HF
    obtain ⟨i, HK, rfl, HS⟩ := hrel
    cases gk with
    | zero =>
      have hi : i = l.length := by have := HK.out; omega
      subst hi
      obtain ⟨vs, at_, hF, hR, hvl⟩ := HS.out
      rw [List.drop_length] at hR
      have hR' : runL xs 0 l = (vs, at_, 0) := by rw [hR]; simp [runL]
      have hfin : ∀ n, RefRunPost w xs l (.returned (.tuple #[u8, .int .i64 (at_ : Int), .int .i64 0])) (wr.drewN n) := fun n => by
        refine ⟨u8, by rw [hR'], ?_, ?_⟩
        · rw [hR']; exact Kd.S_drewN (Kd.S_lower hF.row HB.out.size) n
        · exact pw_below_drewN (below_step HB.out hF.b) n
      have HFIN := Aside0.mk hfin
      obtain ⟨c0, c1, c2⟩ := hF.rd.cells
      clear hfin hF hR hR' HS hvl
      go_wp2_with fail
      go_quiet (fail)
      go_wp2_with fail
      go_ret3
      exact HFIN.out _
    | succ kq =>
      have hi : i < l.length := by have := HK.out; omega
      have hi2 : ((i : Nat) : Int) < ((l.length : Nat) : Int) := by omega
      obtain ⟨vs, at_, hF, hR, hvl⟩ := HS.out
      obtain ⟨ad, rfl, -, -⟩ := op_cells (Kd.C_below HO.out.1 (below_step HB.out hF.b)) i hi
      have HCL : Aside0 (∀ W, Below wB.heap.size wB W → W.cell? (ad.add (i * 2)) = some (.int .i64 l[i].1) ∧ W.cell? ⟨(ad.add (i * 2)).block, (ad.add (i * 2)).off + 1, none⟩ = some (.int .i64 l[i].2)) := ⟨fun W hW => by
        obtain ⟨ad', h1, h2, h3⟩ := op_cells (Kd.C_below HO.out.1 (below_step HB.out hW)) i hi
        injection h1 with h1; subst h1; exact ⟨h2, h3⟩⟩
      have HD : Aside0 (l.drop i = (l[i].1, l[i].2) :: l.drop (i + 1)) := ⟨by rw [List.drop_eq_getElem_cons hi]⟩
      have hsb := H.out.1 l[i] (List.getElem_mem hi)
      have HR := Aside0.mk (And.intro hR hvl)
      have HP := Aside0.mk (hF.start (.cells #[.int .u64 0, .slice none 0 0] 66))
      have HV := Aside0.mk (blk_new wr (.cells #[.int .u64 0, .slice none 0 0] 66))
      have HLT : Aside0 (∀ q, u8.ownBlock = some q → q < wr.heap.size) := ⟨Kd.S_lt hF.row⟩
      clear hF hR hvl HS
      generalize l[i].1 = k at *
      generalize l[i].2 = s at *
      obtain ⟨ck, cs⟩ := HCL.out _ HP.out.b
      go_upto_block 2 with fail
      have HSZ : Aside0 (wB.heap.size < wr.heap.size) := ⟨HP.out.h0⟩
      generalize wr.alloc (.cells #[.int .u64 0, .slice none 0 0] 66) = W0 at *
      generalize wr.heap.size = hs at *
      go_cut [] from 25 to 85 (fun wx => Aside0 (RefQ wB wx hs B d xs u8 vs hs at_ k s))
      case first =>
        clear HK HR HD HLT
        have hb0 := blk_cell HV.out 0
        by_cases hk0 : k = 0
        · subst hk0
          by_cases hf : fitsE xs at_ 0 s (decide (1 ≤ s) && decide (s ≤ 8)) = 0
          · obtain ⟨h1, h8, hn, hp⟩ := num_yes hf
            obtain ⟨sn, rfl⟩ : ∃ sn : Nat, s = (sn : Int) := ⟨s.toNat, by omega⟩
            rw [Int.toNat_natCast] at hp
            have HN := Aside0.mk (rnum_yes wB.heap.size B d xs at_ sn W0 HP.out.rd H.out.2.1 (by omega) (by omega) (by omega))
            have HQ := Aside0.mk hp
            clear hf h1 h8 hn hp hb0
            go_wp2_with fail
            refine HN.out.mono ?_
            rintro r W1 ⟨rfl, hR, hG⟩
            have hP1 := HP.out.used hR hG
            have hV1 := blk_grown HV.out hG (by simpa using blk_ne HV.out HP.out.rd.b (by decide))
            have c0 := blk_cell hV1 0
            have f0 := blk_frozen hV1 0
            have HE : Aside0 (RefQ wB (W1.setCell ⟨hs, 0, none⟩ (.int .u64 (numL ((xs.drop at_).take sn)))) hs B d xs u8 vs hs at_ 0 sn) :=
              ⟨RefQ.yes HQ.out (by rw [blk_set hV1]; rfl) (Owns.nil _ _) (hP1.val hV1 (Nat.le_refl _) 0 _)⟩
            clear hR hG hP1 hV1 HN HQ ck cs
            generalize numL ((xs.drop at_).take sn) = N at *
            go_wp2_with fail
            go_meet
            exact HE
          · have hp := num_no hf
            have HN := Aside0.mk (rnum_no wB.heap.size B d xs at_ 0 s W0 HP.out.rd hf)
            have HQ := Aside0.mk (And.intro hp hf)
            clear hf hp hb0
            generalize fitsE xs at_ 0 s (decide (1 ≤ s) && decide (s ≤ 8)) = E at *
            go_wp2_with fail
            refine HN.out.mono ?_
            rintro r W1 ⟨rfl, hR, hG⟩
            have hP1 := HP.out.used hR hG
            have hV1 := blk_grown HV.out hG (by simpa using blk_ne HV.out HP.out.rd.b (by decide))
            have c0 := blk_cell hV1 0
            have f0 := blk_frozen hV1 0
            have HE : Aside0 (RefQ wB (W1.setCell ⟨hs, 0, none⟩ (.int .u64 0)) hs B d xs u8 vs hs at_ 0 s) :=
              ⟨RefQ.no HQ.out.1 HQ.out.2 (hP1.val hV1 (Nat.le_refl _) 0 _)⟩
            clear hR hG hP1 hV1 HN HQ ck cs
            go_wp2_with fail
            go_meet
            exact HE
        · have q0 : (k == 0) = false := by simpa using hk0
          by_cases hk1 : k = 1
          · subst hk1
            clear q0 hk0
            by_cases hw : wantN xs at_ s = 0
            · obtain ⟨h0, hn⟩ := want_zero hw
              have hp := piece1_yes hw
              obtain ⟨sn, rfl⟩ : ∃ sn : Nat, s = (sn : Int) := ⟨s.toNat, by omega⟩
              rw [Int.toNat_natCast] at hp
              have HN := Aside0.mk (rtake_yes wB.heap.size B d xs at_ sn W0 HP.out.rd (by omega) (by have := H.out.2.2.1; omega))
              have HQ := Aside0.mk hp
              clear hw h0 hn hp hb0
              go_wp2_with fail
              refine HN.out.mono ?_
              rintro r W1 ⟨u, rfl, hO, hR, hG⟩
              have hO' := hO.lower HP.out.sz
              have hP1 := HP.out.used hR hG
              have hV1 := blk_grown HV.out hG (by simpa using blk_ne HV.out HP.out.rd.b (by decide))
              obtain ⟨ck1, cs1⟩ := HCL.out _ hP1.b
              have c1 := blk_cell hV1 1
              have f1 := blk_frozen hV1 1
              have hg1 := setCells_grown W1 hs [u] 1
              have HE : Aside0 (RefQ wB (W1.setCell ⟨hs, 1, none⟩ u) hs B d xs u8 vs hs at_ 1 sn) :=
                ⟨RefQ.yes HQ.out (by rw [blk_set hV1]; rfl) (hO'.kept hg1 (hO'.apart hV1 (by decide))) (hP1.val hV1 (Nat.le_refl _) 1 _)⟩
              obtain ⟨ua, uc, rfl, -, -⟩ := hO.reads hO.len63
              clear hO hO' hR hG hP1 hV1 HN HQ ck cs hg1
              generalize ((xs.drop at_).take sn).length = ul at *
              go_wp2_with fail
              go_meet
              exact HE
            · have HN := rtake_no wB.heap.size B d xs at_ 0 s W0 HP.out.rd (by rw [fitsE_want]; exact hw)
              rw [fitsE_want] at HN
              replace HN := Aside0.mk HN
              have HQ := Aside0.mk (And.intro (piece1_no (k := 1) (by simp) hw) hw)
              clear hw hb0
              generalize wantN xs at_ s = E at *
              go_wp2_with fail
              refine HN.out.mono ?_
              rintro r W1 ⟨rfl, hR, hG⟩
              have hP1 := HP.out.used hR hG
              have hV1 := blk_grown HV.out hG (by simpa using blk_ne HV.out HP.out.rd.b (by decide))
              obtain ⟨ck1, cs1⟩ := HCL.out _ hP1.b
              have c1 := blk_cell hV1 1
              have f1 := blk_frozen hV1 1
              have HE : Aside0 (RefQ wB (W1.setCell ⟨hs, 1, none⟩ (.slice none 0 0)) hs B d xs u8 vs hs at_ 1 s) :=
                ⟨RefQ.no HQ.out.1 HQ.out.2 (hP1.val hV1 (Nat.le_refl _) 1 _)⟩
              clear hR hG hP1 hV1 HN HQ ck cs
              go_wp2_with fail
              go_meet
              exact HE
          · have q1 : (k == 1) = false := by simpa using hk1
            by_cases hk2 : k = 2
            · subst hk2
              clear q0 hk0 q1 hk1
              by_cases hw : wantN xs at_ s = 0
              · obtain ⟨h0, hn⟩ := want_zero hw
                have hp := piece2_yes hw
                obtain ⟨sn, rfl⟩ : ∃ sn : Nat, s = (sn : Int) := ⟨s.toNat, by omega⟩
                rw [Int.toNat_natCast] at hp
                have HN := Aside0.mk (rtake_yes wB.heap.size B d xs at_ sn W0 HP.out.rd (by omega) (by have := H.out.2.2.1; omega))
                have HQ := Aside0.mk hp
                clear hw h0 hn hp hb0
                go_wp2_with fail
                refine HN.out.mono ?_
                rintro r W1 ⟨u, rfl, hO, hR, hG⟩
                have hP1 := HP.out.used hR hG
                have hV1 := blk_grown HV.out hG (by simpa using blk_ne HV.out HP.out.rd.b (by decide))
                obtain ⟨ck1, cs1⟩ := HCL.out _ hP1.b
                have HE : Aside0 (RefQ wB W1 hs B d xs u8 vs hs at_ 2 sn) := ⟨RefQ.yes HQ.out hV1 (Owns.nil _ _) hP1⟩
                obtain ⟨ua, uc, rfl, -, -⟩ := hO.reads hO.len63
                clear hO hR hG hP1 hV1 HN HQ ck cs
                generalize ((xs.drop at_).take sn).length = ul at *
                go_wp2_with fail
                go_meet
                exact HE
              · have HN := rtake_no wB.heap.size B d xs at_ 0 s W0 HP.out.rd (by rw [fitsE_want]; exact hw)
                rw [fitsE_want] at HN
                replace HN := Aside0.mk HN
                have HQ := Aside0.mk (And.intro (piece1_no (k := 2) (by simp) hw) hw)
                clear hw hb0
                generalize wantN xs at_ s = E at *
                go_wp2_with fail
                refine HN.out.mono ?_
                rintro r W1 ⟨rfl, hR, hG⟩
                have hP1 := HP.out.used hR hG
                obtain ⟨ck1, cs1⟩ := HCL.out _ hP1.b
                have HE : Aside0 (RefQ wB W1 hs B d xs u8 vs hs at_ 2 s) := ⟨RefQ.no HQ.out.1 HQ.out.2 hP1⟩
                clear hR hG hP1 HN HQ ck cs
                go_wp2_with fail
                go_meet
                exact HE
            · have q2 : (k == 2) = false := by simpa using hk2
              by_cases hk3 : k = 3
              · subst hk3
                clear q0 hk0 q1 hk1 q2 hk2
                by_cases hw : wantN xs at_ s = 0
                · obtain ⟨h0, hn⟩ := want_zero hw
                  obtain ⟨sn, rfl⟩ : ∃ sn : Nat, s = (sn : Int) := ⟨s.toNat, by omega⟩
                  have HN := Aside0.mk (rzero_yes wB.heap.size B d xs at_ sn W0 HP.out.rd (by omega))
                  have HW := Aside0.mk hw
                  clear hw h0 hn hb0
                  go_wp2_with fail
                  refine HN.out.mono ?_
                  rintro r W1 ⟨rfl, hZ, hG⟩
                  have HE : Aside0 (RefQ wB W1 hs B d xs u8 vs hs at_ 3 sn) := ⟨by
                    unfold RefZ at hZ
                    have hV1 := blk_grown HV.out hG (by simpa using blk_ne HV.out HP.out.rd.b (by decide))
                    split at hZ
                    · rename_i hz
                      exact RefQ.yes (piece3_yes HW.out (by rw [Int.toNat_natCast]; exact hz)) hV1 (Owns.nil _ _) (HP.out.used hZ hG)
                    · rename_i hz
                      exact RefQ.no (piece3_form HW.out (by rw [Int.toNat_natCast]; simpa using hz)) (by decide) (HP.out.used hZ hG)⟩
                  clear hZ hG HN HW ck cs
                  go_wp2_with fail
                  go_meet
                  exact HE
                · have HN := rzero_no wB.heap.size B d xs at_ 0 s W0 HP.out.rd (by rw [fitsE_want]; exact hw)
                  rw [fitsE_want] at HN
                  replace HN := Aside0.mk HN
                  have HQ := Aside0.mk (And.intro (piece1_no (k := 3) (by simp) hw) hw)
                  clear hw hb0
                  generalize wantN xs at_ s = E at *
                  go_wp2_with fail
                  refine HN.out.mono ?_
                  rintro r W1 ⟨rfl, hR, hG⟩
                  have hP1 := HP.out.used hR hG
                  have HE : Aside0 (RefQ wB W1 hs B d xs u8 vs hs at_ 3 s) := ⟨RefQ.no HQ.out.1 HQ.out.2 hP1⟩
                  clear hR hG hP1 HN HQ ck cs
                  go_wp2_with fail
                  go_meet
                  exact HE
              · have q3 : (k == 3) = false := by simpa using hk3
                by_cases hk4 : k = 4
                · subst hk4
                  clear q0 hk0 q1 hk1 q2 hk2 q3 hk3
                  have hle := HP.out.rd.le
                  have hws : IntKind.i64.wrap ((xs.length : Int) - at_) = ((xs.length - at_ : Nat) : Int) := by rw [IntWalk.i64_in _ (by omega)]; omega
                  by_cases hs0 : s = 0
                  · subst hs0
                    have HN := Aside0.mk (rtake_yes wB.heap.size B d xs at_ (xs.length - at_) W0 HP.out.rd (by omega) (by have := H.out.2.2.1; omega))
                    rw [show at_ + (xs.length - at_) = xs.length by omega, show (xs.drop at_).take (xs.length - at_) = xs.drop at_ from List.take_of_length_le (by rw [List.length_drop]; omega)] at HN
                    obtain ⟨c0, c1, c2⟩ := HP.out.rd.cells
                    clear hb0 hle
                    generalize hm : xs.length - at_ = m at *
                    clear hm
                    go_wp2_with fail
                    refine HN.out.mono ?_
                    rintro r W1 ⟨u, rfl, hO, hR, hG⟩
                    have hO' := hO.lower HP.out.sz
                    have hP1 := HP.out.used hR hG
                    have hV1 := blk_grown HV.out hG (by simpa using blk_ne HV.out HP.out.rd.b (by decide))
                    have d1 := blk_cell hV1 1
                    have f1 := blk_frozen hV1 1
                    have hg1 := setCells_grown W1 hs [u] 1
                    have HE : Aside0 (RefQ wB (W1.setCell ⟨hs, 1, none⟩ u) hs B d xs u8 vs hs at_ 4 0) :=
                      ⟨RefQ.yes (piece4_yes xs at_) (by rw [blk_set hV1]; rfl) (hO'.kept hg1 (hO'.apart hV1 (by decide))) (hP1.val hV1 (Nat.le_refl _) 1 _)⟩
                    obtain ⟨ua, uc, rfl, -, -⟩ := hO.reads hO.len63
                    clear hO hO' hR hG hP1 hV1 HN ck cs hg1 c0 c1 c2
                    generalize (xs.drop at_).length = ul at *
                    go_wp2_with fail
                    go_meet
                    exact HE
                  · have qs : (s != 0) = true := by simpa using hs0
                    have HQ := Aside0.mk (piece4_no (xs := xs) (at_ := at_) (k := 4) (s := s) (by decide) (by decide) (by decide) (by decide) (by omega))
                    obtain ⟨c0, c1, c2⟩ := HP.out.rd.cells
                    have f2 := blk_frozen HP.out.rd.b 2
                    obtain ⟨hRe, hGe⟩ := HP.out.rd.err 1
                    have HPe := Aside0.mk (HP.out.used hRe hGe)
                    have HVe := Aside0.mk (blk_grown HV.out hGe (by simpa using blk_ne HV.out HP.out.rd.b (by decide)))
                    have hf : fitsE xs at_ 1 ((xs.length - at_ : Nat) : Int) (decide (0 ≤ ((xs.length - at_ : Nat) : Int))) = 1 := rfl
                    have HN := rtake_no wB.heap.size B d xs at_ 1 ((xs.length - at_ : Nat) : Int) _ HPe.out.rd (by rw [hf]; decide)
                    rw [hf] at HN
                    replace HN := Aside0.mk HN
                    have d1 := HPe.out.rd.cells.2.1
                    clear hb0 hle hs0 hRe hGe hf
                    generalize hm : xs.length - at_ = m at *
                    clear hm
                    go_upto_region 21 with fail
                    clear c0 c1 c2 f2 ck cs
                    generalize W0.setCell ⟨wB.heap.size, 2, none⟩ (.int .i64 1) = W2 at *
                    go_wp2_with fail
                    refine HN.out.mono ?_
                    rintro r W1 ⟨rfl, hR, hG⟩
                    have hP1 := HPe.out.used hR hG
                    have hV1 := blk_grown HVe.out hG (by simpa using blk_ne HVe.out HPe.out.rd.b (by decide))
                    have e1 := blk_cell hV1 1
                    have f1 := blk_frozen hV1 1
                    have HE : Aside0 (RefQ wB (W1.setCell ⟨hs, 1, none⟩ (.slice none 0 0)) hs B d xs u8 vs hs at_ 4 s) :=
                      ⟨RefQ.no HQ.out (by decide) (hP1.val hV1 (Nat.le_refl _) 1 _)⟩
                    clear hR hG hP1 hV1 HN HQ d1
                    go_wp2_with fail
                    go_meet
                    exact HE
                · have q4 : (k == 4) = false := by simpa using hk4
                  have HQ := Aside0.mk (piece4_no (xs := xs) (at_ := at_) (k := k) (s := s) hk0 hk1 hk2 hk3 (fun h => hk4 h.1))
                  obtain ⟨c0, c1, c2⟩ := HP.out.rd.cells
                  have f2 := blk_frozen HP.out.rd.b 2
                  have HE : Aside0 (RefQ wB (W0.setCell ⟨wB.heap.size, 2, none⟩ (.int .i64 1)) hs B d xs u8 vs hs at_ k s) :=
                    ⟨RefQ.no HQ.out (by decide) (HP.out.used (HP.out.rd.err 1).1 (HP.out.rd.err 1).2)⟩
                  clear hk0 hk1 hk2 hk3 hk4 hb0
                  go_wp2_with fail
                  go_meet
                  exact HE
      clear HP HV HCL ck cs W0
      have hqq := hcut.out
      unfold RefQ at hqq
      by_cases hp : (pieceR xs at_ k s).1 = 0
      · have hRC := runL_cons xs at_ (k, s) (l.drop (i + 1)) hp
        rw [if_pos hp] at hqq
        obtain ⟨u, hV, hO, hP⟩ := hqq
        have hRR : runL xs 0 l = ((vs ++ [((pieceR xs at_ k s).2.1, (pieceR xs at_ k s).2.2.1)]) ++ (runL xs (pieceR xs at_ k s).2.2.2 (l.drop (i + 1))).1, (runL xs (pieceR xs at_ k s).2.2.2 (l.drop (i + 1))).2) := by
          rw [HR.out.1, HD.out, hRC]; simp
        clear hRC hcut
        generalize (pieceR xs at_ k s).2.1 = N at *
        generalize (pieceR xs at_ k s).2.2.1 = bs at *
        generalize (pieceR xs at_ k s).2.2.2 = at' at *
        have c2 := hP.rd.cells.2.2
        have HLV : Aside0 ((loadVar 66 ⟨hs, 0, none⟩).run Try.prog wc = .ok (.agg #[.int .u64 N, u]) wc) := ⟨seg_whole (P := Try.prog) (segs := [[.int .u64 N], [u]]) hV Try.underlying66 rfl (by kernel_rfl) rfl⟩
        have HM := Aside0.mk (dV.M_lower (Nat.le_of_lt HSZ.out) (val_M (N := N) hO))
        have HP := Aside0.mk hP
        have HRR := Aside0.mk hRR
        have HV := Aside0.mk hV
        have hvl := Aside0.mk HR.out.2
        clear hV hO hP hRR HR HD hp
        have HL1 : Aside0 ((vs.length + 1) * 32 ≤ 140737488355328) := ⟨by have := H.out.2.2.2; have := hvl.out; omega⟩
        go_wp2_with (first | ((with_reducible refine gate_dst (N := 101) rfl ?_); refine Kd.event_run rfl (exec_load rfl rfl HLV.out) ?_) | (at_builtin; refine Kd.S_append dV (w0 := wB) wB.heap.size rfl (.tmp 100) (.tmp 102) 31 66 (.agg #[.int .u64 0, .slice none 0 0]) 32 rfl Try.underlying31 info_rval rfl (by decide) (by decide) u8 vs (N, bs) _ (fun _ => True) (fun q => hs ≤ q) rfl rfl HM.out (fun q hq => ⟨trivial, fun h => by have := HLT.out q h.symm; omega⟩) (fun _ _ => trivial) (Kd.S_mono HP.out.row (fun q hq => ⟨trivial, by have := hq.1; omega⟩)) HP.out.b HP.out.b.size HL1.out ?_; intro v1 w2 hS1 hB1 hg1 hat; have HF7 := Aside0.mk (ref_put HP.out hS1 hB1 hg1); clear hS1 hB1 hg1 hat HLV HP HM c2))
        go_roundg kq
        case measure => omega
        case rel => exact ⟨i + 1, ⟨by have := HK.out; omega⟩, by first | rfl | go_num, ⟨_, _, HF7.out, HRR.out, by simp [hvl.out]⟩⟩
      · have hRC := runL_stop xs at_ (k, s) (l.drop (i + 1)) hp
        rw [if_neg hp] at hqq
        have hRR : runL xs 0 l = (vs, at_, (pieceR xs at_ k s).1) := by rw [HR.out.1, HD.out, hRC]; simp
        have hfin : ∀ n, RefRunPost w xs l (.returned (.tuple #[u8, .int .i64 (at_ : Int), .int .i64 (pieceR xs at_ k s).1])) (wc.drewN n) := fun n => by
          refine ⟨u8, by rw [hRR], ?_, ?_⟩
          · rw [hRR]; exact Kd.S_drewN (Kd.S_mono (Kd.S_lower hqq.row HB.out.size) (fun _ _ => trivial)) n
          · exact pw_below_drewN (below_step HB.out hqq.b) n
        have HFIN := Aside0.mk hfin
        obtain ⟨c0, c1, c2⟩ := hqq.rd.cells
        have hpn : ((pieceR xs at_ k s).1 != 0) = true := by simpa using hp
        clear hfin hqq hRR hRC HR HD hcut hp
        generalize (pieceR xs at_ k s).1 = E at *
        go_wp2_with fail
        go_quiet (fail)
        go_wp2_with fail
        go_ret3
        exact HFIN.out _
end Go.Proofs.Ytcmibbhfocfccaa.Cur
