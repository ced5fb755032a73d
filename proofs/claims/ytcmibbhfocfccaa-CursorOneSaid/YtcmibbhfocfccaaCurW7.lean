/- Run's body: each piece in turn. -/
import Derived.Test.YtcmibbhfocfccaaCurW6
namespace Go.Proofs.Ytcmibbhfocfccaa.Cur
open Go.RowKit Go.Proofs.Ytcmibbhfocfccaa.Segs Go.Proofs.Ytcmibbhfocfccaa.Own Go.Proofs.Ytcmibbhfocfccaa.CurP Go.Proofs.Ytcmibbhfocfccaa.Mem Go.Proofs.Ytcmibbhfocfccaa.Bits Go.Proofs.Ytcmibbhfocfccaa.Help Go.Proofs.YtcmibbhfocfccaaW.PrintWords Go.Proofs.YtcmibbhfocfccaaW.PrintLast Go.Proofs.YtcmibbhfocfccaaW.PrintMore
set_option linter.unusedVariables false
set_option linter.unusedSimpArgs false
theorem load_one {P : Program} {W : World} {ty : TypeId} {ad : Addr} {v : Value} {d : TypeDesc} (hc : W.cell? ad = some v) (hu : P.underlying ty = some d) (hd : d.isRow = false) : (loadVar ty ad).run P W = .ok v W := by
  have hg : (isAgg ty).run P W = .ok false W := by
    unfold isAgg
    rw [Sem.run_bind, run_underlying hu W]
    cases d <;> simp_all
  simp [loadVar, Sem.run_bind, hg, hc]
def Loads (go gt g4 : Nat) (v : Value) (g : Nat) (k s : Int) (W : World) : Prop :=
  (loadVar 25 ⟨go, 0, none⟩).run Try.prog W = .ok v W ∧ (loadVar 59 ⟨gt, 0, none⟩).run Try.prog W = .ok (.pointer (some ⟨g, 0, none⟩)) W ∧ (loadVar 53 ⟨g4, 0, none⟩).run Try.prog W = .ok (.agg #[.int .i64 k, .int .i64 s]) W
theorem loads_of {W : World} {go gt g4 g : Nat} {v : Value} {k s : Int} (h1 : W.heap[go]? = some (.cells #[v] 25 (0, 0))) (h2 : W.heap[gt]? = some (.cells #[.pointer (some ⟨g, 0, none⟩)] 59 (0, 0))) (h3 : W.heap[g4]? = some (.cells #[.int .i64 k, .int .i64 s] 53 (0, 0))) :
    Loads go gt g4 v g k s W :=
  ⟨load_one (blk_cell h1 0) Try.underlying25 rfl, load_one (blk_cell h2 0) Try.underlying59 rfl,
   seg_whole (segs := [[.int .i64 k], [.int .i64 s]]) h3 Try.underlying53 rfl infoO rfl⟩
theorem runL_cons (xs : List Int) (at_ : Nat) (o : Int × Int) (os : List (Int × Int)) (h : (pieceR xs at_ o.1 o.2).1 = 0) :
    runL xs at_ (o :: os) = (((pieceR xs at_ o.1 o.2).2.1, (pieceR xs at_ o.1 o.2).2.2.1) :: (runL xs (pieceR xs at_ o.1 o.2).2.2.2 os).1, (runL xs (pieceR xs at_ o.1 o.2).2.2.2 os).2) := by
  rw [runL]; simp only [h, ↓reduceIte]
theorem runL_stop (xs : List Int) (at_ : Nat) (o : Int × Int) (os : List (Int × Int)) (h : (pieceR xs at_ o.1 o.2).1 ≠ 0) :
    runL xs at_ (o :: os) = ([], at_, (pieceR xs at_ o.1 o.2).1) := by
  rw [runL]; simp only [h, ↓reduceIte]
/-- What Run leaves. -/
def RunE (w0 : World) (go gt g ge : Nat) (A : Option Addr) (c : Nat) (xs : List Int) (l : List (Int × Int)) (k : Int) (W : World) : Prop :=
  ∃ v, RunF w0 W go gt g ge A c xs v (runL xs 0 l).1 (runL xs 0 l).2.1 ∧ k = (runL xs 0 l).2.2
/-- How far it has come. -/
def RunS (w0 W : World) (go gt g ge : Nat) (A : Option Addr) (c : Nat) (xs : List Int) (l : List (Int × Int)) (i : Nat) : Prop :=
  ∃ v vs at_, RunF w0 W go gt g ge A c xs v vs at_ ∧ runL xs 0 l = (vs ++ (runL xs at_ (l.drop i)).1, (runL xs at_ (l.drop i)).2) ∧ vs.length = i
theorem _root_.Go.Proofs.Ytcmibbhfocfccaa.Own.Owns.len63 {w : World} {base : Nat} {v : Value} {xs : List Int} (h : Owns w base v xs) : xs.length ≤ 9223372036854775807 := by
  rcases h.2 with ⟨_, h⟩ | ⟨g, cap, cur, _, _, _, h1, h2, _⟩
  · omega
  · simp only [maxLen] at h2; omega
theorem dPast (j : Nat) (hj : 7 ≤ j) : (j == 5 || j == 6) = false := by simp; omega
theorem info_val : (Try.prog.info? 40).map (fun i => (i.zero, i.size, i.bytes)) = some (some (.agg #[.int .u64 0, .slice none 0 0]), dV.sz, 32) := by kernel_rfl
set_option maxHeartbeats 8000000 in
theorem run1_any (w0 w : World) (gl go gt g ge : Nat) (A Al : Option Addr) (c cl : Nat) (xs : List Int) (l : List (Int × Int))
    (hl : w.heap[gl]? = some (.cells #[.slice Al l.length cl] 29 (0, 0))) (hc : dO.C w0 Al l.length l) (hlc : l.length ≤ cl) (hlb : ∀ o ∈ l, -9223372036854775808 ≤ o.2 ∧ o.2 ≤ 9223372036854775807)
    (hF : RunF w0 w go gt g ge A c xs (.slice none 0 0) [] 0) (hgo : w0.heap.size ≤ go) (hx : AllB xs) (hb : xs.length ≤ 140737488351232) (hsz : l.length * 32 ≤ 140737488355328) :
    Calls Try.prog 24 #[.pointer (some ⟨gl, 0, none⟩), .pointer (some ⟨go, 0, none⟩), .pointer (some ⟨gt, 0, none⟩)] w fun e W =>
      (e = .returned (.tuple #[]) ∧ RunE w0 go gt g ge A c xs l 0 W) ∨ ∃ k, e = stops k ∧ RunE w0 go gt g ge A c xs l k W := by
  have cl0 := blk_cell hl 0
  have HC := Aside0.mk hc
  have HLB := Aside0.mk hlb
  have H := Aside0.mk (And.intro hgo (And.intro hx (And.intro hb hsz)))
  have HF := Aside0.mk hF
  clear hc hlb hF hgo hx hb hl
  go_enter Try.func24, Try.ntmps24
  go_wp2_with fail
  go_loopg [7] l.length (fun kq v7 w' => ∃ i : Nat, Aside0 (kq + i = l.length) ∧ v7 = .int .i64 (i : Int) ∧ Aside0 (RunS w0 w' go gt g ge A c xs l i))
  case atStart => exact ⟨0, ⟨by simp⟩, rfl, ⟨_, _, _, HF.out, by simp, rfl⟩⟩
  case round =>
    clear HF cl0
    obtain ⟨i, HK, rfl, HS⟩ := hrel
    cases gk with
    | zero =>
      have hi : i = l.length := by have := HK.out; omega
      subst hi
      have hE : RunE w0 go gt g ge A c xs l 0 wr := by
        obtain ⟨v, vs, at_, h1, h2, h3⟩ := HS.out
        rw [List.drop_length] at h2
        have h2' : runL xs 0 l = (vs, at_, 0) := by rw [h2]; simp [runL]
        exact ⟨v, by rw [h2']; exact h1, by rw [h2']⟩
      have HE := Aside0.mk hE
      clear hE HS
      go_wp2_with fail
      exact bodyPost_end (results_none rfl _ _ _) rfl (.inl ⟨rfl, HE.out⟩)
    | succ kq =>
      have hi : i < l.length := by have := HK.out; omega
      have hi2 : ((i : Nat) : Int) < ((l.length : Nat) : Int) := by omega
      obtain ⟨v, vs, at_, hF, hR, hvl⟩ := HS.out
      obtain ⟨ad, rfl, hld⟩ := op_load (Kd.C_below HC.out hF.b) i hi
      have HLD := Aside0.mk hld
      clear hld HS
      have HF := Aside0.mk hF
      have HR := Aside0.mk (And.intro hR hvl)
      clear hF hR hvl
      generalize hk : (l.getD i (0, 0)).1 = k at *
      generalize hs : (l.getD i (0, 0)).2 = s at *
      have HKS := Aside0.mk (And.intro hk hs)
      clear hk hs
      go_wp2_with ((with_reducible refine gate_dst (N := 10) rfl ?_); refine Kd.event_run rfl (exec_load rfl rfl HLD.out) ?_)
      clear HLD
      go_wp2_with fail
      have hF4 := HF.out.below (below_alloc (Below.refl wr.heap.size wr) (.cells #[.int .i64 k, .int .i64 s] 53))
      have hb4 := blk_new wr (.cells #[.int .i64 k, .int .i64 s] 53)
      clear HF
      generalize wr.alloc (.cells #[.int .i64 k, .int .i64 s] 53) = W at *
      generalize wr.heap.size = g4 at *
      have hF5 := hF4.below (below_drew (Below.refl _ _))
      have hb5 := blk_drew hb4
      clear hF4 hb4
      refine RegionI.region_I (S := Loads go gt g4 v g k s) (D := fun j => j == 5 || j == 6) (by kernel_rfl) (loads_of hF5.out hF5.t hb5) ?_
      intro hS
      generalize W.drew = V at *
      refine RegionI.wpAnyI_take (i := 0) (v := v) rfl (by kernel_rfl) (by kernel_rfl) (by kernel_rfl) (by kernel_rfl) (by kernel_rfl) dPast (fun _ _ _ h => h) (by rfl) (fun w hw => exec_load rfl rfl hw.1) hS ?_
      refine RegionI.wpAnyI_take (i := 1) (v := .pointer (some ⟨g, 0, none⟩)) rfl (by kernel_rfl) (by kernel_rfl) (by kernel_rfl) (by kernel_rfl) (by kernel_rfl) dPast (fun _ _ _ h => h) (by rfl) (fun w hw => exec_load rfl rfl hw.2.1) hS ?_
      refine RegionI.wpAnyI_take (i := 2) (v := .agg #[.int .i64 k, .int .i64 s]) rfl (by kernel_rfl) (by kernel_rfl) (by kernel_rfl) (by kernel_rfl) (by kernel_rfl) dPast (fun _ _ _ h => h) (by rfl) (fun w hw => exec_load rfl rfl hw.2.2) hS ?_
      clear hS
      have hio : l.getD i (0, 0) = (k, s) := by rw [← HKS.out.1, ← HKS.out.2]
      have hle : l[i] = (k, s) := by rw [← hio, List.getD_eq_getElem?_getD, List.getElem?_eq_getElem hi]; rfl
      have hdrop : l.drop i = (k, s) :: l.drop (i + 1) := by rw [List.drop_eq_getElem_cons hi, hle]
      have hsb : -9223372036854775808 ≤ s ∧ s ≤ 9223372036854775807 := by
        have := HLB.out l[i] (List.getElem_mem hi)
        rwa [hle] at this
      have HP := Aside0.mk (piece_any g A c xs at_ k s V hF5.tape H.out.2.1 H.out.2.2.1 hsb)
      have HD := Aside0.mk hdrop
      have HF := Aside0.mk (And.intro hF5 hb5)
      clear hF5 hb5 hio hle hdrop hsb
      by_cases hp : (pieceR xs at_ k s).1 = 0
      · have hRC := runL_cons xs at_ (k, s) (l.drop (i + 1)) hp
        refine RegionI.wpAnyI_one (i := 3) (by kernel_rfl) rfl (fun K hK => ?_)
        go_simp
        refine HP.out.mono ?_
        intro e w1 h1
        unfold PPost at h1
        rw [if_pos hp] at h1
        obtain ⟨u, rfl, hO, hT, hg⟩ := h1
        have hRR : runL xs 0 l = ((vs ++ [((pieceR xs at_ k s).2.1, (pieceR xs at_ k s).2.2.1)]) ++ (runL xs (pieceR xs at_ k s).2.2.2 (l.drop (i + 1))).1, (runL xs (pieceR xs at_ k s).2.2.2 (l.drop (i + 1))).2) := by
          rw [HR.out.1, HD.out, hRC]; simp
        have hBl : (pieceR xs at_ k s).2.2.1.length ≤ 9223372036854775807 := hO.len63
        generalize (pieceR xs at_ k s).2.1 = N at *
        generalize (pieceR xs at_ k s).2.2.1 = B at *
        generalize (pieceR xs at_ k s).2.2.2 = at' at *
        obtain ⟨ub, uc, rfl, -, -⟩ := hO.reads hBl
        have hF6 := HF.out.1.read hT (.inr rfl) hg
        have hb6 := blk_grown HF.out.2 hg (by simpa using blk_ne HF.out.2 HF.out.1.tape.b (by decide))
        have hS6 : Kd.S dV 40 w1 w0.heap.size (fun q => True ∧ ¬ V.heap.size ≤ q) v vs :=
          Kd.S_mono (Kd.S_grown (Kd.S_bound (Kd.S_types HF.out.1.row HF.out.1.tape.b (by decide))) hg (fun q hq => by simpa using hq.1.2)) (fun q hq => ⟨trivial, by have := hq.2.2.1; omega⟩)
        have hlt : ∀ q, v.ownBlock = some q → q < V.heap.size := Kd.S_lt HF.out.1.row
        have hVb : w0.heap.size ≤ V.heap.size := HF.out.1.b.size
        have hM := dV.M_lower hVb (val_M (N := N) hO)
        have HG := Aside0.mk (And.intro hRR (And.intro hF6 (And.intro hS6 (And.intro hlt (And.intro hM hb6)))))
        have hvl := HR.out.2
        clear hRR hF6 hb6 hS6 hlt hM hO hT hg HP hRC HF hVb
        refine hK _ _ ⟨fun _ => loads_of HG.out.2.1.out HG.out.2.1.t HG.out.2.2.2.2.2, ?_⟩
        clear hK K
        refine RegionI.wpAnyI_one (i := 4) (by kernel_rfl) rfl (fun K hK => ?_)
        go_simp
        refine hK _ _ ⟨fun _ => loads_of (blk_alloc HG.out.2.1.out _) (blk_alloc HG.out.2.1.t _) (blk_alloc HG.out.2.2.2.2.2 _), ?_⟩
        clear hK K
        refine RegionI.wpAnyI_one (i := 5) (by kernel_rfl) rfl (fun K hK => ?_)
        refine Kd.S_append_step dV (w0 := w0) w0.heap.size (by rfl) (.tmp 11) (.tmp 15) 25 40 (.agg #[.int .u64 0, .slice none 0 0]) 32 rfl Try.underlying25 info_val rfl (by decide) (by decide) v vs (N, B) _ (fun _ => True) (fun q => V.heap.size ≤ q) rfl rfl HG.out.2.2.2.2.1
          (fun q hq => ⟨trivial, fun h => by have := HG.out.2.2.2.1 q h.symm; omega⟩) (fun _ _ => trivial) HG.out.2.2.1 HG.out.2.1.b HG.out.2.1.b.size (by omega) ?_
        intro v1 w2 hS1 hB1 hg1 hat
        refine hK _ _ ⟨fun h => absurd h (by decide), ?_⟩
        clear hK K
        obtain ⟨va, vc, rfl⟩ := Kd.S_slice hS1
        have ho := blk_grown HG.out.2.1.out hg1 (Kd.S_ne HG.out.2.1.row HG.out.2.1.out (by decide))
        have co := blk_cell ho 0
        have fo := blk_frozen ho 0
        have hF7 := HG.out.2.1.put hg1 hS1 hB1 H.out.1
        have HF7 := Aside0.mk hF7
        have hRR := HG.out.1
        have HRR := Aside0.mk hRR
        clear hF7 hS1 hB1 hg1 hat ho HG hRR
        generalize (vs ++ [(N, B)]).length = vn at *
        refine RegionI.wpAnyI_one (i := 6) (by kernel_rfl) rfl (fun K hK => ?_)
        go_simp
        refine hK _ _ ⟨fun h => absurd h (by decide), ?_⟩
        clear hK K
        refine RegionI.wpAnyI_done (by kernel_rfl) ?_ _
        clear co fo
        generalize World.setCell _ _ _ = Z at *
        go_wp2_with fail
        go_roundg kq
        case measure => omega
        case rel => exact ⟨i + 1, ⟨by have := HK.out; omega⟩, rfl, ⟨_, _, _, HF7.out, HRR.out, by simp [hvl]⟩⟩
      · have hRC := runL_stop xs at_ (k, s) (l.drop (i + 1)) hp
        refine RegionI.wpAnyI_one (i := 3) (by kernel_rfl) rfl (fun K hK => ?_)
        go_simp
        refine HP.out.mono ?_
        intro e w1 h1
        unfold PPost at h1
        rw [if_neg hp] at h1
        obtain ⟨rfl, hT, hg⟩ := h1
        have hF6 := HF.out.1.read hT (.inl rfl) hg
        have hRR : runL xs 0 l = (vs, at_, (pieceR xs at_ k s).1) := by rw [HR.out.1, HD.out, hRC]; simp
        have hE : RunE w0 go gt g ge A c xs l (pieceR xs at_ k s).1 w1 := ⟨v, by rw [hRR]; exact hF6, by rw [hRR]⟩
        exact ⟨rfl, .inr ⟨_, rfl, hE⟩⟩
end Go.Proofs.Ytcmibbhfocfccaa.Cur
