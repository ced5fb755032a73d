/- RunA: CurW6, CurW7, CurW8. -/
import Derived.Test.YtjidoedlmpjmnaaCurA
import Derived.Test.YtjidoedlmpjmnaaCurT
import Derived.Test.YtjidoedlmpjmnaaBase
import Derived.Test.YtjidoedlmpjmnaaWApart
import Derived.OwnWalk
namespace Go.Proofs.Ytjidoedlmpjmnaa.Cur
open Go.RowKit Go.Proofs.Ytjidoedlmpjmnaa.Segs Go.Proofs.Ytjidoedlmpjmnaa.Own Go.Proofs.Ytjidoedlmpjmnaa.CurP Go.Proofs.Ytjidoedlmpjmnaa.Mem Go.Proofs.Ytjidoedlmpjmnaa.Bits Go.Proofs.Ytjidoedlmpjmnaa.Help Go.Proofs.YtjidoedlmpjmnaaW.PrintWords Go.Proofs.YtjidoedlmpjmnaaW.PrintLast Go.Proofs.YtjidoedlmpjmnaaW.PrintMore
set_option linter.unusedVariables false
set_option linter.unusedSimpArgs false
structure RunF (w0 W : World) (go gt g ge : Nat) (A : Option Addr) (c : Nat) (xs : List Int) (v : Value) (vs : List (Int × List Int)) (at_ : Nat) : Prop where
  out : W.heap[go]? = some (.cells #[v] 57 (0, 0))
  t : W.heap[gt]? = some (.cells #[.pointer (some ⟨g, 0, none⟩)] 80 (0, 0))
  er : W.heap[ge]? = some (.cells #[.int .i64 0] 30 (0, 0))
  tape : Tape W g A c xs at_
  rd : Kd.C (Kd.int .u8) w0 A xs.length xs
  row : Kd.S dV 53 W w0.heap.size (fun _ => True) v vs
  b : Below w0.heap.size w0 W
  lo : w0.heap.size ≤ g
theorem RunF.below {w0 W W1 : World} {go gt g ge : Nat} {A : Option Addr} {c : Nat} {xs : List Int} {v : Value} {vs : List (Int × List Int)} {at_ : Nat} (h : RunF w0 W go gt g ge A c xs v vs at_) (hB : Below W.heap.size W W1) : RunF w0 W1 go gt g ge A c xs v vs at_ :=
  ⟨blk_below h.out hB, blk_below h.t hB, blk_below h.er hB, h.tape.below hB, h.rd, Kd.S_below h.row hB, below_step h.b hB, h.lo⟩
/-- A piece has been read. -/
theorem RunF.read {w0 W W1 : World} {go gt g ge : Nat} {A : Option Addr} {c : Nat} {xs : List Int} {v : Value} {vs : List (Int × List Int)} {at_ at' : Nat} (h : RunF w0 W go gt g ge A c xs v vs at_) (hT : Tape W1 g A c xs at') {row : Option Nat} (hr : row = none ∨ row = some g) (hg : W.grownBy W1 row) :
    RunF w0 W1 go gt g ge A c xs v vs at' := by
  have hg' : W.grownBy W1 (some g) := by
    rcases hr with rfl | rfl
    · exact grown0_any hg _
    · exact hg
  have hB : Below w0.heap.size w0 W1 := h.b.grown hg' h.b.size (fun k hk => by injection hk with hk; have := h.lo; omega)
  exact ⟨blk_grown h.out hg' (by simpa using blk_ne h.out h.tape.b (by decide)), blk_grown h.t hg' (by simpa using blk_ne h.t h.tape.b (by decide)), blk_grown h.er hg' (by simpa using blk_ne h.er h.tape.b (by decide)), hT, h.rd,
    Kd.S_mono (Kd.S_grown (Kd.S_types h.row h.tape.b (by decide)) hg' (fun k hk => by simpa using hk.2)) (fun _ _ => trivial), hB, h.lo⟩
/-- A value has been laid behind the others, and the row put where it belongs. -/
theorem RunF.put {w0 W W1 : World} {go gt g ge : Nat} {A : Option Addr} {c : Nat} {xs : List Int} {v v1 : Value} {vs vs1 : List (Int × List Int)} {at_ : Nat} (h : RunF w0 W go gt g ge A c xs v vs at_) (hg : W.grownBy W1 v.ownBlock) (hS : Kd.S dV 53 W1 w0.heap.size (fun _ => True) v1 vs1) (hB : Below w0.heap.size w0 W1) (hlo : w0.heap.size ≤ go) :
    RunF w0 (W1.setCell ⟨go, 0, none⟩ v1) go gt g ge A c xs v1 vs1 at_ := by
  have ho := blk_grown h.out hg (Kd.S_ne h.row h.out (by decide))
  have ht := blk_grown h.t hg (Kd.S_ne h.row h.t (by decide))
  have he := blk_grown h.er hg (Kd.S_ne h.row h.er (by decide))
  have hb := blk_grown h.tape.b hg (Kd.S_ne h.row h.tape.b (by decide))
  have hB2 : Below w0.heap.size w0 (W1.setCell ⟨go, 0, none⟩ v1) := hB.grown (setCells_grown W1 go [v1] 0) hB.size (fun k hk => by injection hk with hk; omega)
  refine ⟨?_, blk_far ht (by simpa using blk_ne ht ho (by decide)) _, blk_far he (by simpa using blk_ne he ho (by decide)) _, ⟨blk_far hb (by simpa using blk_ne hb ho (by decide)) _, Kd.C_below h.rd hB2, h.tape.le, h.tape.cap, h.tape.c63⟩, h.rd, Kd.S_set hS ho (by decide) 0 v1, hB2, h.lo⟩
  exact blk_set ho 0 v1
end Go.Proofs.Ytjidoedlmpjmnaa.Cur
namespace Go.Proofs.Ytjidoedlmpjmnaa.Cur
open Go.RowKit Go.Proofs.Ytjidoedlmpjmnaa.Segs Go.Proofs.Ytjidoedlmpjmnaa.Own Go.Proofs.Ytjidoedlmpjmnaa.CurP Go.Proofs.Ytjidoedlmpjmnaa.Mem Go.Proofs.Ytjidoedlmpjmnaa.Bits Go.Proofs.Ytjidoedlmpjmnaa.Help Go.Proofs.YtjidoedlmpjmnaaW.PrintWords Go.Proofs.YtjidoedlmpjmnaaW.PrintLast Go.Proofs.YtjidoedlmpjmnaaW.PrintMore
set_option linter.unusedVariables false
set_option linter.unusedSimpArgs false
def Loads (go gt g4 : Nat) (v : Value) (g : Nat) (k s : Int) (W : World) : Prop :=
  (loadVar 57 ⟨go, 0, none⟩).run Try.prog W = .ok v W ∧ (loadVar 80 ⟨gt, 0, none⟩).run Try.prog W = .ok (.pointer (some ⟨g, 0, none⟩)) W ∧ (loadVar 68 ⟨g4, 0, none⟩).run Try.prog W = .ok (.agg #[.int .i64 k, .int .i64 s]) W
theorem loads_of {W : World} {go gt g4 g : Nat} {v : Value} {k s : Int} (h1 : W.heap[go]? = some (.cells #[v] 57 (0, 0))) (h2 : W.heap[gt]? = some (.cells #[.pointer (some ⟨g, 0, none⟩)] 80 (0, 0))) (h3 : W.heap[g4]? = some (.cells #[.int .i64 k, .int .i64 s] 68 (0, 0))) :
    Loads go gt g4 v g k s W :=
  ⟨load_one (blk_cell h1 0) Try.underlying57 rfl, load_one (blk_cell h2 0) Try.underlying80 rfl,
   seg_whole (segs := [[.int .i64 k], [.int .i64 s]]) h3 Try.underlying68 rfl infoO rfl⟩
theorem runL_cons (xs : List Int) (at_ : Nat) (o : Int × Int) (os : List (Int × Int)) (h : (pieceR xs at_ o.1 o.2).1 = 0) :
    runL xs at_ (o :: os) = (((pieceR xs at_ o.1 o.2).2.1, (pieceR xs at_ o.1 o.2).2.2.1) :: (runL xs (pieceR xs at_ o.1 o.2).2.2.2 os).1, (runL xs (pieceR xs at_ o.1 o.2).2.2.2 os).2) := by
  rw [runL]; simp only [h, ↓reduceIte]
theorem runL_stop (xs : List Int) (at_ : Nat) (o : Int × Int) (os : List (Int × Int)) (h : (pieceR xs at_ o.1 o.2).1 ≠ 0) :
    runL xs at_ (o :: os) = ([], at_, (pieceR xs at_ o.1 o.2).1) := by
  rw [runL]; simp only [h, ↓reduceIte]
/-- What Run leaves. -/
def RunE (w0 : World) (go gt g ge : Nat) (A : Option Addr) (c : Nat) (xs : List Int) (l : List (Int × Int)) (k : Int) (W : World) : Prop :=
  ∃ v, RunF w0 W go gt g ge A c xs v (runL xs 0 l).1 (runL xs 0 l).2.1 ∧ k = (runL xs 0 l).2.2
/-- How far it has come. -/
def RunS (w0 W : World) (go gt g ge : Nat) (A : Option Addr) (c : Nat) (xs : List Int) (l : List (Int × Int)) (i : Nat) : Prop :=
  ∃ v vs at_, RunF w0 W go gt g ge A c xs v vs at_ ∧ runL xs 0 l = (vs ++ (runL xs at_ (l.drop i)).1, (runL xs at_ (l.drop i)).2) ∧ vs.length = i
set_option maxHeartbeats 8000000 in
theorem run1_any (w0 w : World) (gl go gt g ge : Nat) (A Al : Option Addr) (c cl : Nat) (xs : List Int) (l : List (Int × Int))
    (hl : w.heap[gl]? = some (.cells #[.slice Al l.length cl] 58 (0, 0))) (hc : dO.C w0 Al l.length l) (hlc : l.length ≤ cl) (hlb : ∀ o ∈ l, -9223372036854775808 ≤ o.2 ∧ o.2 ≤ 9223372036854775807)
    (hF : RunF w0 w go gt g ge A c xs (.slice none 0 0) [] 0) (hgo : w0.heap.size ≤ go) (hx : AllB xs) (hb : xs.length ≤ 140737488351232) (hsz : l.length * 32 ≤ 140737488355328) :
    Calls Try.prog 57 #[.pointer (some ⟨gl, 0, none⟩), .pointer (some ⟨go, 0, none⟩), .pointer (some ⟨gt, 0, none⟩)] w fun e W =>
      (e = .returned (.tuple #[]) ∧ RunE w0 go gt g ge A c xs l 0 W) ∨ ∃ k, e = stops k ∧ RunE w0 go gt g ge A c xs l k W := by
  have cl0 := blk_cell hl 0
  have HC := Aside0.mk hc
  have HLB := Aside0.mk hlb
  have H := Aside0.mk (And.intro hgo (And.intro hx (And.intro hb hsz)))
  have HF := Aside0.mk hF
  clear hc hlb hF hgo hx hb hl
  go_enter Try.func57, Try.ntmps57
  go_wp2_with fail
  go_loopg [7] l.length (fun kq v7 w' => ∃ i : Nat, Aside0 (kq + i = l.length) ∧ v7 = .int .i64 (i : Int) ∧ Aside0 (RunS w0 w' go gt g ge A c xs l i))
  case atStart => exact ⟨0, ⟨by simp⟩, rfl, ⟨_, _, _, HF.out, by simp, rfl⟩⟩
  case round =>
    clear HF cl0
    obtain ⟨i, HK, rfl, HS⟩ := hrel
    cases gk with
    | zero =>
      have hi : i = l.length := by have := HK.out; omega
      subst hi
      have hE : RunE w0 go gt g ge A c xs l 0 wr := by
        obtain ⟨v, vs, at_, h1, h2, h3⟩ := HS.out
        rw [List.drop_length] at h2
        have h2' : runL xs 0 l = (vs, at_, 0) := by rw [h2]; simp [runL]
        exact ⟨v, by rw [h2']; exact h1, by rw [h2']⟩
      have HE := Aside0.mk hE
      clear hE HS
      go_wp2_with fail
      exact bodyPost_end (results_none rfl _ _ _) rfl (.inl ⟨rfl, HE.out⟩)
    | succ kq =>
      have hi : i < l.length := by have := HK.out; omega
      have hi2 : ((i : Nat) : Int) < ((l.length : Nat) : Int) := by omega
      obtain ⟨v, vs, at_, hF, hR, hvl⟩ := HS.out
      obtain ⟨ad, rfl, hld⟩ := op_load (Kd.C_below HC.out hF.b) i hi
      have HLD := Aside0.mk hld
      clear hld HS
      have HF := Aside0.mk hF
      have HR := Aside0.mk (And.intro hR hvl)
      clear hF hR hvl
      generalize hk : (l.getD i (0, 0)).1 = k at *
      generalize hs : (l.getD i (0, 0)).2 = s at *
      have HKS := Aside0.mk (And.intro hk hs)
      clear hk hs
      go_wp2_with ((with_reducible refine gate_dst (N := 10) rfl ?_); refine Kd.event_run rfl (exec_load rfl rfl HLD.out) ?_)
      clear HLD
      go_wp2_with fail
      have hF4 := HF.out.below (below_alloc (Below.refl wr.heap.size wr) (.cells #[.int .i64 k, .int .i64 s] 68))
      have hb4 := blk_new wr (.cells #[.int .i64 k, .int .i64 s] 68)
      clear HF
      generalize wr.alloc (.cells #[.int .i64 k, .int .i64 s] 68) = W at *
      generalize wr.heap.size = g4 at *
      have hF5 := hF4.below (below_drew (Below.refl _ _))
      have hb5 := blk_drew hb4
      clear hF4 hb4
      refine RegionI.region_I (S := Loads go gt g4 v g k s) (D := fun j => j == 5 || j == 6) (by kernel_rfl) (loads_of hF5.out hF5.t hb5) ?_
      intro hS
      generalize W.drew = V at *
      refine RegionI.wpAnyI_take (i := 0) (v := v) rfl (by kernel_rfl) (by kernel_rfl) (by kernel_rfl) (by kernel_rfl) (by kernel_rfl) dPast (fun _ _ _ h => h) (by rfl) (fun w hw => exec_load rfl rfl hw.1) hS ?_
      refine RegionI.wpAnyI_take (i := 1) (v := .pointer (some ⟨g, 0, none⟩)) rfl (by kernel_rfl) (by kernel_rfl) (by kernel_rfl) (by kernel_rfl) (by kernel_rfl) dPast (fun _ _ _ h => h) (by rfl) (fun w hw => exec_load rfl rfl hw.2.1) hS ?_
      refine RegionI.wpAnyI_take (i := 2) (v := .agg #[.int .i64 k, .int .i64 s]) rfl (by kernel_rfl) (by kernel_rfl) (by kernel_rfl) (by kernel_rfl) (by kernel_rfl) dPast (fun _ _ _ h => h) (by rfl) (fun w hw => exec_load rfl rfl hw.2.2) hS ?_
      clear hS
      have hio : l.getD i (0, 0) = (k, s) := by rw [← HKS.out.1, ← HKS.out.2]
      have hle : l[i] = (k, s) := by rw [← hio, List.getD_eq_getElem?_getD, List.getElem?_eq_getElem hi]; rfl
      have hdrop : l.drop i = (k, s) :: l.drop (i + 1) := by rw [List.drop_eq_getElem_cons hi, hle]
      have hsb : -9223372036854775808 ≤ s ∧ s ≤ 9223372036854775807 := by
        have := HLB.out l[i] (List.getElem_mem hi)
        rwa [hle] at this
      have HP := Aside0.mk (piece_any g A c xs at_ k s V hF5.tape H.out.2.1 H.out.2.2.1 hsb)
      have HD := Aside0.mk hdrop
      have HF := Aside0.mk (And.intro hF5 hb5)
      clear hF5 hb5 hio hle hdrop hsb
      by_cases hp : (pieceR xs at_ k s).1 = 0
      · have hRC := runL_cons xs at_ (k, s) (l.drop (i + 1)) hp
        refine RegionI.wpAnyI_one (i := 3) (by kernel_rfl) rfl (fun K hK => ?_)
        go_simp
        refine HP.out.mono ?_
        intro e w1 h1
        unfold PPost at h1
        rw [if_pos hp] at h1
        obtain ⟨u, rfl, hO, hT, hg⟩ := h1
        have hRR : runL xs 0 l = ((vs ++ [((pieceR xs at_ k s).2.1, (pieceR xs at_ k s).2.2.1)]) ++ (runL xs (pieceR xs at_ k s).2.2.2 (l.drop (i + 1))).1, (runL xs (pieceR xs at_ k s).2.2.2 (l.drop (i + 1))).2) := by
          rw [HR.out.1, HD.out, hRC]; simp
        have hBl : (pieceR xs at_ k s).2.2.1.length ≤ 9223372036854775807 := hO.len63
        generalize (pieceR xs at_ k s).2.1 = N at *
        generalize (pieceR xs at_ k s).2.2.1 = B at *
        generalize (pieceR xs at_ k s).2.2.2 = at' at *
        obtain ⟨ub, uc, rfl, -, -⟩ := hO.reads hBl
        have hF6 := HF.out.1.read hT (.inr rfl) hg
        have hb6 := blk_grown HF.out.2 hg (by simpa using blk_ne HF.out.2 HF.out.1.tape.b (by decide))
        have hS6 : Kd.S dV 53 w1 w0.heap.size (fun q => True ∧ ¬ V.heap.size ≤ q) v vs :=
          Kd.S_mono (Kd.S_grown (Kd.S_bound (Kd.S_types HF.out.1.row HF.out.1.tape.b (by decide))) hg (fun q hq => by simpa using hq.1.2)) (fun q hq => ⟨trivial, by have := hq.2.2.1; omega⟩)
        have hlt : ∀ q, v.ownBlock = some q → q < V.heap.size := Kd.S_lt HF.out.1.row
        have hVb : w0.heap.size ≤ V.heap.size := HF.out.1.b.size
        have hM := dV.M_lower hVb (val_M (N := N) hO)
        have HG := Aside0.mk (And.intro hRR (And.intro hF6 (And.intro hS6 (And.intro hlt (And.intro hM hb6)))))
        have hvl := HR.out.2
        clear hRR hF6 hb6 hS6 hlt hM hO hT hg HP hRC HF hVb
        refine hK _ _ ⟨fun _ => loads_of HG.out.2.1.out HG.out.2.1.t HG.out.2.2.2.2.2, ?_⟩
        clear hK K
        refine RegionI.wpAnyI_one (i := 4) (by kernel_rfl) rfl (fun K hK => ?_)
        go_simp
        refine hK _ _ ⟨fun _ => loads_of (blk_alloc HG.out.2.1.out _) (blk_alloc HG.out.2.1.t _) (blk_alloc HG.out.2.2.2.2.2 _), ?_⟩
        clear hK K
        refine RegionI.wpAnyI_one (i := 5) (by kernel_rfl) rfl (fun K hK => ?_)
        refine Kd.S_append_step dV (w0 := w0) w0.heap.size (by rfl) (.tmp 11) (.tmp 15) 57 53 (.agg #[.int .u64 0, .slice none 0 0]) 32 rfl Try.underlying57 info_val rfl (by decide) (by decide) v vs (N, B) _ (fun _ => True) (fun q => V.heap.size ≤ q) rfl rfl HG.out.2.2.2.2.1
          (fun q hq => ⟨trivial, fun h => by have := HG.out.2.2.2.1 q h.symm; omega⟩) (fun _ _ => trivial) HG.out.2.2.1 HG.out.2.1.b HG.out.2.1.b.size (by omega) ?_
        intro v1 w2 hS1 hB1 hg1 hat
        refine hK _ _ ⟨fun h => absurd h (by decide), ?_⟩
        clear hK K
        obtain ⟨va, vc, rfl⟩ := Kd.S_slice hS1
        have ho := blk_grown HG.out.2.1.out hg1 (Kd.S_ne HG.out.2.1.row HG.out.2.1.out (by decide))
        have co := blk_cell ho 0
        have fo := blk_frozen ho 0
        have hF7 := HG.out.2.1.put hg1 hS1 hB1 H.out.1
        have HF7 := Aside0.mk hF7
        have hRR := HG.out.1
        have HRR := Aside0.mk hRR
        clear hF7 hS1 hB1 hg1 hat ho HG hRR
        generalize (vs ++ [(N, B)]).length = vn at *
        refine RegionI.wpAnyI_one (i := 6) (by kernel_rfl) rfl (fun K hK => ?_)
        go_simp
        refine hK _ _ ⟨fun h => absurd h (by decide), ?_⟩
        clear hK K
        refine RegionI.wpAnyI_done (by kernel_rfl) ?_ _
        clear co fo
        generalize World.setCell _ _ _ = Z at *
        go_wp2_with fail
        go_roundg kq
        case measure => omega
        case rel => exact ⟨i + 1, ⟨by have := HK.out; omega⟩, rfl, ⟨_, _, _, HF7.out, HRR.out, by simp [hvl]⟩⟩
      · have hRC := runL_stop xs at_ (k, s) (l.drop (i + 1)) hp
        refine RegionI.wpAnyI_one (i := 3) (by kernel_rfl) rfl (fun K hK => ?_)
        go_simp
        refine HP.out.mono ?_
        intro e w1 h1
        unfold PPost at h1
        rw [if_neg hp] at h1
        obtain ⟨rfl, hT, hg⟩ := h1
        have hF6 := HF.out.1.read hT (.inl rfl) hg
        have hRR : runL xs 0 l = (vs, at_, (pieceR xs at_ k s).1) := by rw [HR.out.1, HD.out, hRC]; simp
        have hE : RunE w0 go gt g ge A c xs l (pieceR xs at_ k s).1 w1 := ⟨v, by rw [hRR]; exact hF6, by rw [hRR]⟩
        exact ⟨rfl, .inr ⟨_, rfl, hE⟩⟩
end Go.Proofs.Ytjidoedlmpjmnaa.Cur
namespace Go.Proofs.Ytjidoedlmpjmnaa.Cur
open Go.RowKit Go.Proofs.Ytjidoedlmpjmnaa.Segs Go.Proofs.Ytjidoedlmpjmnaa.Own Go.Proofs.Ytjidoedlmpjmnaa.CurP Go.Proofs.Ytjidoedlmpjmnaa.Mem Go.Proofs.Ytjidoedlmpjmnaa.Bits Go.Proofs.Ytjidoedlmpjmnaa.Help Go.Proofs.YtjidoedlmpjmnaaW.PrintWords Go.Proofs.YtjidoedlmpjmnaaW.PrintLast Go.Proofs.YtjidoedlmpjmnaaW.PrintMore
set_option linter.unusedVariables false
set_option linter.unusedSimpArgs false
def RunPost (w : World) (xs : List Int) (l : List (Int × Int)) (e : Ending) (w' : World) : Prop :=
  ∃ v, e = .returned (.tuple #[v, .int .i64 ((runL xs 0 l).2.1 : Nat), .int .i64 (runL xs 0 l).2.2]) ∧ Kd.S dV 53 w' w.heap.size (fun _ => True) v (runL xs 0 l).1 ∧ Below w.heap.size w w'
set_option maxHeartbeats 8000000 in
theorem Run_any (w : World) (A Al : Option Addr) (c cl : Nat) (xs : List Int) (l : List (Int × Int)) (hr : Kd.C (Kd.int .u8) w A xs.length xs) (hc : xs.length ≤ c) (hc63 : xs.length ≤ 9223372036854775807)
    (ho : dO.C w Al l.length l) (hlc : l.length ≤ cl) (hlb : ∀ o ∈ l, -9223372036854775808 ≤ o.2 ∧ o.2 ≤ 9223372036854775807) (hx : AllB xs) (hb : xs.length ≤ 140737488351232) (hsz : l.length * 32 ≤ 140737488355328) :
    Calls Try.prog 51 #[.slice A xs.length c, .slice Al l.length cl] w (RunPost w xs l) := by
  have H := Aside0.mk (And.intro hr (And.intro hc (And.intro hc63 (And.intro ho (And.intro hlc (And.intro hlb (And.intro hx (And.intro hb hsz))))))))
  clear hr hc hc63 ho hlc hlb hx hb hsz
  go_enter Try.func51, Try.ntmps51
  go_wp2_with fail
  have hB : Below w.heap.size w ((((w.alloc (.cells #[.slice Al l.length cl] 58)).alloc (.cells #[.slice A xs.length c, .int .i64 0] 82)).alloc (.cells #[.pointer (some ⟨w.heap.size + 1, 0, none⟩)] 80)).alloc (.cells #[.slice none 0 0] 57)) := below_alloc (below_alloc (below_alloc (below_alloc (Below.refl _ _) _) _) _) _
  have b0 : ((((w.alloc (.cells #[.slice Al l.length cl] 58)).alloc (.cells #[.slice A xs.length c, .int .i64 0] 82)).alloc (.cells #[.pointer (some ⟨w.heap.size + 1, 0, none⟩)] 80)).alloc (.cells #[.slice none 0 0] 57)).heap[w.heap.size]? = some (.cells #[.slice Al l.length cl] 58 (0, 0)) := blk_alloc (blk_alloc (blk_alloc (blk_new w _) _) _) _
  have b1 : ((((w.alloc (.cells #[.slice Al l.length cl] 58)).alloc (.cells #[.slice A xs.length c, .int .i64 0] 82)).alloc (.cells #[.pointer (some ⟨w.heap.size + 1, 0, none⟩)] 80)).alloc (.cells #[.slice none 0 0] 57)).heap[w.heap.size + 1]? = some (.cells #[.slice A xs.length c, .int .i64 0] 82 (0, 0)) := blk_alloc (blk_alloc (blk_new_at (by rw [alloc_size])) _) _
  have b2 : ((((w.alloc (.cells #[.slice Al l.length cl] 58)).alloc (.cells #[.slice A xs.length c, .int .i64 0] 82)).alloc (.cells #[.pointer (some ⟨w.heap.size + 1, 0, none⟩)] 80)).alloc (.cells #[.slice none 0 0] 57)).heap[w.heap.size + 1 + 1]? = some (.cells #[.pointer (some ⟨w.heap.size + 1, 0, none⟩)] 80 (0, 0)) := blk_alloc (blk_new_at (by rw [alloc_size, alloc_size])) _
  have b3 : ((((w.alloc (.cells #[.slice Al l.length cl] 58)).alloc (.cells #[.slice A xs.length c, .int .i64 0] 82)).alloc (.cells #[.pointer (some ⟨w.heap.size + 1, 0, none⟩)] 80)).alloc (.cells #[.slice none 0 0] 57)).heap[w.heap.size + 1 + 1 + 1]? = some (.cells #[.slice none 0 0] 57 (0, 0)) := blk_new_at (by rw [alloc_size, alloc_size, alloc_size])
  generalize ((((w.alloc (.cells #[.slice Al l.length cl] 58)).alloc (.cells #[.slice A xs.length c, .int .i64 0] 82)).alloc (.cells #[.pointer (some ⟨w.heap.size + 1, 0, none⟩)] 80)).alloc (.cells #[.slice none 0 0] 57)) = W at *
  have e1 := blk_new W (.cells #[.int .i64 0] 30)
  have hB1 := below_alloc hB (.cells #[.int .i64 0] 30)
  have hF : RunF w (W.alloc (.cells #[.int .i64 0] 30)) (w.heap.size + 1 + 1 + 1) (w.heap.size + 1 + 1) (w.heap.size + 1) W.heap.size A c xs (.slice none 0 0) [] 0 :=
    ⟨blk_alloc b3 _, blk_alloc b2 _, e1, ⟨blk_alloc b1 _, Kd.C_below H.out.1 hB1, Nat.zero_le _, H.out.2.1, H.out.2.2.1⟩, H.out.1, Kd.S_nil _ _ _ _ _, hB1, by omega⟩
  have hrun := run1_any w (W.alloc (.cells #[.int .i64 0] 30)) w.heap.size (w.heap.size + 1 + 1 + 1) (w.heap.size + 1 + 1) (w.heap.size + 1) W.heap.size A Al c cl xs l (blk_alloc b0 _) H.out.2.2.2.1 H.out.2.2.2.2.1 H.out.2.2.2.2.2.1 hF (by omega) H.out.2.2.2.2.2.2.1 H.out.2.2.2.2.2.2.2.1 H.out.2.2.2.2.2.2.2.2
  have htry := try_any 57 _ W (RunE w (w.heap.size + 1 + 1 + 1) (w.heap.size + 1 + 1) (w.heap.size + 1) W.heap.size A c xs l) (fun w => by kernel_rfl) (fun k W ⟨v, h, _⟩ => h.er) hrun
  have hWs := hB.size
  clear hrun hF hB1 e1 b0 b1 b2 b3 hB
  refine htry.mono ?_
  rintro e w1 ⟨k, W1, rfl, ⟨v, hF, rfl⟩, hg⟩
  have hB := hF.b.grown hg hF.b.size (fun k hk => by injection hk with hk; omega)
  have c0 := blk_cell (blk_grown hF.out hg (by simpa using blk_ne hF.out hF.er (by decide))) 0
  have c1 := blk_cell (blk_grown hF.t hg (by simpa using blk_ne hF.t hF.er (by decide))) 0
  have c2 := blk_cell (blk_grown hF.tape.b hg (by simpa using blk_ne hF.tape.b hF.er (by decide))) 1
  have hS : Kd.S dV 53 w1 w.heap.size (fun _ => True) v (runL xs 0 l).1 := Kd.S_mono (Kd.S_grown (Kd.S_types hF.row hF.er (by decide)) hg (fun k hk => by simpa using hk.2)) (fun _ _ => trivial)
  obtain ⟨va, vc, rfl⟩ := Kd.S_slice hS
  have c0' : w1.cell? ⟨w.heap.size + 1 + 1 + 1, 0, none⟩ = some (.slice va (runL xs 0 l).1.length vc) := c0
  have c1' : w1.cell? ⟨w.heap.size + 1 + 1, 0, none⟩ = some (.pointer (some ⟨w.heap.size + 1, 0, none⟩)) := c1
  have c2' : w1.cell? ⟨w.heap.size + 1, 1, none⟩ = some (.int .i64 ((runL xs 0 l).2.1 : Nat)) := c2
  have HP : Aside0 (RunPost w xs l (.returned (.tuple #[.slice va (runL xs 0 l).1.length vc, .int .i64 ((runL xs 0 l).2.1 : Nat), .int .i64 (runL xs 0 l).2.2])) w1) := ⟨_, rfl, hS, hB⟩
  have HP2 : Aside0 (∀ n, RunPost w xs l (.returned (.tuple #[.slice va (runL xs 0 l).1.length vc, .int .i64 ((runL xs 0 l).2.1 : Nat), .int .i64 (runL xs 0 l).2.2])) (w1.drewN n)) := ⟨fun n => ⟨_, rfl, Kd.S_drewN hS n, pw_below_drewN hB n⟩⟩
  clear htry c0 c1 c2 hS hB hF hg
  generalize (runL xs 0 l).1.length = rl at *
  generalize hra : (runL xs 0 l).2.1 = ra at *
  generalize hrk : (runL xs 0 l).2.2 = rk at *
  have HRR := Aside0.mk (And.intro hra hrk)
  clear hra hrk
  go_wp2_with fail
  go_quiet (fail)
  go_wp2_with fail
  go_ret3
  exact HP2.out _
end Go.Proofs.Ytjidoedlmpjmnaa.Cur
