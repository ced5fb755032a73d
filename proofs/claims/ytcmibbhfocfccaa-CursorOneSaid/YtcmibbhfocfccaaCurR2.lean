/- The program's Reader: Num. -/
import Derived.Test.YtcmibbhfocfccaaCurR1
namespace Go.Proofs.Ytcmibbhfocfccaa.Cur
open Go.RowKit Go.Proofs.Ytcmibbhfocfccaa.Segs Go.Proofs.Ytcmibbhfocfccaa.Own Go.Proofs.Ytcmibbhfocfccaa.CurP Go.Proofs.Ytcmibbhfocfccaa.Mem Go.Proofs.Ytcmibbhfocfccaa.Bits Go.Proofs.Ytcmibbhfocfccaa.Help Go.Proofs.YtcmibbhfocfccaaW.PrintWords Go.Proofs.YtcmibbhfocfccaaW.PrintLast Go.Proofs.YtcmibbhfocfccaaW.PrintMore
set_option linter.unusedVariables false
set_option linter.unusedSimpArgs false
/-- What a number's attempt leaves: w the world ahead of Num, b3 where the number goes, ge the error's place. -/
structure NumR (w : World) (g b3 ge : Nat) (A : Option Addr) (c : Nat) (xs : List Int) (at_ : Nat) (s : Int) (k : Int) (W : World) : Prop where
  k : k = (pieceR xs at_ 0 s).1
  r : Rdr 0 W g A c xs (pieceR xs at_ 0 s).2.2.2
  n : W.heap[b3]? = some (.cells #[.int .u64 (pieceR xs at_ 0 s).2.1] 38 (0, 0))
  er : W.heap[ge]? = some (.cells #[.int .i64 0] 26 (0, 0))
  g : w.grownBy W (some g)
theorem num_at {xs : List Int} {at_ : Nat} {s : Int} (h : (pieceR xs at_ 0 s).1 ≠ 0) : (pieceR xs at_ 0 s).2.1 = 0 ∧ (pieceR xs at_ 0 s).2.2.2 = at_ := by
  unfold pieceR at h ⊢
  rw [if_pos rfl] at h ⊢
  split at h
  · rename_i h1; rw [if_pos h1]; exact ⟨rfl, rfl⟩
  · rename_i h1
    split at h
    · rename_i h2; rw [if_neg h1, if_pos h2]; exact ⟨rfl, rfl⟩
    · exact absurd rfl h
theorem dPast6 (j : Nat) (hj : 6 ≤ j) : (j == 4 || j == 5) = false := by simp; omega
set_option maxHeartbeats 4000000 in
theorem num1_any (w W : World) (g b1 b2 b3 ge : Nat) (A : Option Addr) (c : Nat) (xs : List Int) (at_ : Nat) (s : Int) (hx : AllB xs)
    (hT : Rdr 0 W g A c xs at_) (h1 : W.heap[b1]? = some (.cells #[.pointer (some ⟨g, 0, none⟩)] 54 (0, 0))) (h2 : W.heap[b2]? = some (.cells #[.int .i64 s] 3 (0, 0)))
    (h3 : W.heap[b3]? = some (.cells #[.int .u64 0] 38 (0, 0))) (he : W.heap[ge]? = some (.cells #[.int .i64 0] 26 (0, 0))) (hg : w.grownBy W (some g)) (h30 : w.heap.size ≤ b3) :
    Calls Try.prog 34 #[.pointer (some ⟨b1, 0, none⟩), .pointer (some ⟨b2, 0, none⟩), .pointer (some ⟨b3, 0, none⟩)] W fun e W' => (e = .returned (.tuple #[]) ∧ NumR w g b3 ge A c xs at_ s 0 W') ∨ ∃ k, e = stops k ∧ NumR w g b3 ge A c xs at_ s k W' := by
  have hld : (loadVar 54 ⟨b1, 0, none⟩).run Try.prog W.drew = .ok (.pointer (some ⟨g, 0, none⟩)) W.drew := load_one (blk_cell (blk_drew h1) 0) Try.underlying54 rfl
  have hls : (loadVar 3 ⟨b2, 0, none⟩).run Try.prog W.drew = .ok (.int .i64 s) W.drew := load_one (blk_cell (blk_drew h2) 0) Try.underlying3 rfl
  have HN := Aside0.mk (number_any g A c xs at_ s W.drew hT.drew hx)
  have HG := Aside0.mk (And.intro hT.drew (And.intro (blk_drew h3) (And.intro (blk_drew he) (And.intro (hg.trans (grown_drewN W 1 (some g))) h30))))
  clear hT h1 h2 h3 he hg h30 hx
  go_enter Try.func34, Try.ntmps34
  go_wp2_with fail
  refine RegionI.region_I (S := fun X => (loadVar 54 ⟨b1, 0, none⟩).run Try.prog X = .ok (.pointer (some ⟨g, 0, none⟩)) X ∧ (loadVar 3 ⟨b2, 0, none⟩).run Try.prog X = .ok (.int .i64 s) X) (D := fun j => j == 4 || j == 5) (by kernel_rfl) ⟨hld, hls⟩ ?_
  intro hS
  clear hld hls
  have HG2 : Aside0 (w.grownBy W.drew (some g)) := ⟨HG.out.2.2.2.1⟩
  generalize W.drew = V at *
  refine RegionI.wpAnyI_take (i := 0) (v := .pointer (some ⟨g, 0, none⟩)) rfl (by kernel_rfl) (by kernel_rfl) (by kernel_rfl) (by kernel_rfl) (by kernel_rfl) dPast6 (fun _ _ _ h => h) (by rfl) (fun w hw => exec_load rfl rfl hw.1) hS ?_
  refine RegionI.wpAnyI_take (i := 1) (v := ?_) rfl (by kernel_rfl) (by kernel_rfl) (by kernel_rfl) (by kernel_rfl) (by kernel_rfl) dPast6 (fun _ _ _ h => h) (by rfl) ?_ hS ?_
  rotate_left
  · (intro X hX; obtain ⟨hx0, hx1⟩ := hX; go_simp; try with_reducible rfl)
  refine RegionI.wpAnyI_take (i := 2) (v := ?_) rfl (by kernel_rfl) (by kernel_rfl) (by kernel_rfl) (by kernel_rfl) (by kernel_rfl) dPast6 (fun _ _ _ h => h) (by rfl) ?_ hS ?_
  rotate_left
  · (intro X hX; obtain ⟨hx0, hx1⟩ := hX; go_simp; try with_reducible rfl)
  refine RegionI.wpAnyI_take (i := 3) (v := .int .i64 s) rfl (by kernel_rfl) (by kernel_rfl) (by kernel_rfl) (by kernel_rfl) (by kernel_rfl) dPast6 (fun _ _ _ h => h) (by rfl) (fun w hw => exec_load rfl rfl hw.2) hS ?_
  clear hS
  refine RegionI.wpAnyI_one (i := 4) (by kernel_rfl) rfl (fun K hK => ?_)
  go_simp
  refine HN.out.mono ?_
  intro e w1 h1
  unfold NPost at h1
  by_cases hp : (pieceR xs at_ 0 s).1 = 0
  · rw [if_pos hp] at h1
    obtain ⟨rfl, hT, hg⟩ := h1
    have h3 := blk_grown HG.out.2.1 hg (by simpa using blk_ne HG.out.2.1 HG.out.1.b (by decide))
    have he := blk_grown HG.out.2.2.1 hg (by simpa using blk_ne HG.out.2.2.1 HG.out.1.b (by decide))
    have hG := HG2.out.trans hg
    have c3 := blk_cell h3 0
    have f3 := blk_frozen h3 0
    have hs3 := setCells_grown w1 b3 [.int .u64 (pieceR xs at_ 0 s).2.1] 0
    have HE : Aside0 (NumR w g b3 ge A c xs at_ s 0 (w1.setCell ⟨b3, 0, none⟩ (.int .u64 (pieceR xs at_ 0 s).2.1))) :=
      ⟨hp.symm, hT.grown_ne h3 (fun j n h => by rcases j with _ | j <;> simp at h) (blk_ne hT.b h3 (by decide)) hs3, by rw [blk_set h3]; rfl, blk_grown he hs3 (by simpa using blk_ne he h3 (by decide)),
       ⟨hs3.os.trans hG.os, hs3.tape.trans hG.tape, hs3.output.trans hG.output, Nat.le_trans hG.size hs3.size, fun k hk hne => (hs3.block k (Nat.lt_of_lt_of_le hk hG.size) (fun e => by injection e with e; have := HG.out.2.2.2.2; omega)).trans (hG.block k hk hne)⟩⟩
    refine hK _ _ ⟨fun h => absurd h (by decide), ?_⟩
    clear hK K hT hg h3 he hG hs3 hp HN
    generalize (pieceR xs at_ 0 s).2.1 = N at *
    refine RegionI.wpAnyI_one (i := 5) (by kernel_rfl) rfl (fun K hK => ?_)
    go_simp
    refine hK _ _ ⟨fun h => absurd h (by decide), ?_⟩
    clear hK K
    refine RegionI.wpAnyI_done (by kernel_rfl) ?_ _
    go_wp2_with fail
    exact bodyPost_end (results_none rfl _ _ _) rfl (.inl ⟨rfl, HE.out⟩)
  · rw [if_neg hp] at h1
    obtain ⟨rfl, ⟨q, rfl⟩⟩ := h1
    obtain ⟨e0, e1⟩ := num_at hp
    have HE : NumR w g b3 ge A c xs at_ s (pieceR xs at_ 0 s).1 (V.drewN q) := ⟨rfl, by rw [e1]; exact HG.out.1.drewN q, by rw [e0]; exact blk_drewN HG.out.2.1 q, blk_drewN HG.out.2.2.1 q, HG2.out.trans (grown_drewN V q _)⟩
    exact ⟨rfl, .inr ⟨_, rfl, HE⟩⟩
/-- One more made and a block written that is not w's: w grows as before. -/
theorem grown_new {w W W1 : World} {g q : Nat} (h : w.grownBy W (some g)) (hg : W.grownBy W1 (some q)) (hq : w.heap.size ≤ q) : w.grownBy W1 (some g) :=
  ⟨hg.os.trans h.os, hg.tape.trans h.tape, hg.output.trans h.output, Nat.le_trans h.size hg.size, fun k hk hne => (hg.block k (Nat.lt_of_lt_of_le hk h.size) (fun e => by injection e with e; omega)).trans (h.block k hk hne)⟩
set_option maxHeartbeats 4000000 in
theorem do_any (f : FuncId) (caps : Array Value) (w : World) (R : Int → World → Prop) (g : Nat) (A : Option Addr) (c : Nat) (xs : List Int) (at_ : Int → Nat) (at0 : Nat) (hT : Rdr 0 w g A c xs at0)
    (hf : ∀ w : World, (callFunc f caps).run Try.prog w = .ok (.enter f caps) w) (hR : ∀ k W, R k W → W.heap[w.heap.size]? = some (.cells #[.int .i64 0] 26 (0, 0))) (hRr : ∀ k W, R k W → Rdr 0 W g A c xs (at_ k))
    (h : Calls Try.prog f caps (w.alloc (.cells #[.int .i64 0] 26)) fun e W => (e = .returned (.tuple #[]) ∧ R 0 W) ∨ ∃ k, e = stops k ∧ R k W) :
    Calls Try.prog 33 #[.pointer (some ⟨g, 0, none⟩), .func (.func f) #[] caps] w fun e w' => e = .returned (.tuple #[]) ∧ ∃ k W W', R k W ∧ W.grownBy W' (some w.heap.size) ∧ Rdr 0 W' g A c xs (at_ k) ∧ w' = W'.setCell ⟨g, 2, none⟩ (.int .i64 k) := by
  have HTRY := Aside0.mk (try_any f caps w R hf hR h)
  have HR := Aside0.mk (And.intro hR hRr)
  have c2 := hT.why
  have hglt := blk_lt hT.b
  clear hT h hR hRr hf
  go_enter Try.func33, Try.ntmps33
  go_wp2_with fail
  refine HTRY.out.mono ?_
  rintro e W' ⟨k, W, rfl, hRk, hg⟩
  have her := HR.out.1 k W hRk
  have hRd : Rdr 0 W' g A c xs (at_ k) := (HR.out.2 k W hRk).grown_ne her (fun j n h => by rcases j with _ | j <;> simp at h) (blk_ne (HR.out.2 k W hRk).b her (by decide)) hg
  have d2 := hRd.why
  have f2 := blk_frozen hRd.b 2
  have HF := Aside0.mk (And.intro hRk (And.intro hg hRd))
  clear hRk hg hRd her c2
  go_wp2_with fail
  exact bodyPost_end (results_none rfl _ _ _) rfl ⟨rfl, k, W, W', HF.out.1, HF.out.2.1, HF.out.2.2, rfl⟩
set_option maxHeartbeats 4000000 in
theorem rdrNum_any (w : World) (g : Nat) (A : Option Addr) (c : Nat) (xs : List Int) (at_ : Nat) (s : Int) (hT : Rdr 0 w g A c xs at_) (hx : AllB xs) :
    Calls Try.prog 21 #[.pointer (some ⟨g, 0, none⟩), .int .i64 s] w fun e w' => e = .returned (.int .u64 (pieceR xs at_ 0 s).2.1) ∧ Rdr (pieceR xs at_ 0 s).1 w' g A c xs (pieceR xs at_ 0 s).2.2.2 ∧ w.grownBy w' (some g) := by
  have b1 : (((w.alloc (.cells #[.pointer (some ⟨g, 0, none⟩)] 54)).alloc (.cells #[.int .i64 s] 3)).alloc (.cells #[.int .u64 0] 38)).heap[w.heap.size]? = some (.cells #[.pointer (some ⟨g, 0, none⟩)] 54 (0, 0)) := blk_alloc (blk_alloc (blk_new w _) _) _
  have b2 : (((w.alloc (.cells #[.pointer (some ⟨g, 0, none⟩)] 54)).alloc (.cells #[.int .i64 s] 3)).alloc (.cells #[.int .u64 0] 38)).heap[w.heap.size + 1]? = some (.cells #[.int .i64 s] 3 (0, 0)) := blk_alloc (blk_new_at (by rw [alloc_size])) _
  have b3 : (((w.alloc (.cells #[.pointer (some ⟨g, 0, none⟩)] 54)).alloc (.cells #[.int .i64 s] 3)).alloc (.cells #[.int .u64 0] 38)).heap[w.heap.size + 1 + 1]? = some (.cells #[.int .u64 0] 38 (0, 0)) := blk_new_at (by rw [alloc_size, alloc_size])
  have hB : Below w.heap.size w (((w.alloc (.cells #[.pointer (some ⟨g, 0, none⟩)] 54)).alloc (.cells #[.int .i64 s] 3)).alloc (.cells #[.int .u64 0] 38)) := below_alloc (below_alloc (below_alloc (Below.refl _ _) _) _) _
  have cr := blk_cell b1 0
  have HX := Aside0.mk hx
  have HT := Aside0.mk hT
  clear hT hx
  have HH := Aside0.mk (And.intro b1 (And.intro b2 (And.intro b3 hB)))
  clear b1 b2 b3 hB cr
  go_enter Try.func21, Try.ntmps21
  go_wp2_with fail
  generalize (((w.alloc (.cells #[.pointer (some ⟨g, 0, none⟩)] 54)).alloc (.cells #[.int .i64 s] 3)).alloc (.cells #[.int .u64 0] 38)) = W0 at *
  have hT0 := HT.out.below HH.out.2.2.2
  have hg0 : w.grownBy W0 (some g) := by
    have := HH.out.2.2.2
    exact ⟨this.os, this.tape, this.output, this.size, fun k hk _ => this.block k hk⟩
  have hrun := num1_any w (W0.alloc (.cells #[.int .i64 0] 26)) g w.heap.size (w.heap.size + 1) (w.heap.size + 1 + 1) W0.heap.size A c xs at_ s HX.out (hT0.below (below_alloc (Below.refl _ _) _)) (blk_alloc HH.out.1 _) (blk_alloc HH.out.2.1 _) (blk_alloc HH.out.2.2.1 _) (blk_new W0 _) (hg0.trans (World.grownBy_alloc W0 _ _)) (by omega)
  have hdo := do_any 34 _ W0 (NumR w g (w.heap.size + 1 + 1) W0.heap.size A c xs at_ s) g A c xs (fun _ => (pieceR xs at_ 0 s).2.2.2) at_ hT0 (fun w => by kernel_rfl) (fun k W h => h.er) (fun k W h => h.r) hrun
  have HSZ := Aside0.mk HH.out.2.2.2.size
  clear hT0 hg0 hrun
  refine hdo.mono ?_
  rintro e w' ⟨rfl, k, W, W', hN, hg, hRd, rfl⟩
  have hn := blk_grown hN.n hg (by simpa using blk_ne hN.n hN.er (by decide))
  have hs2 := hRd.err k
  have hn2 := blk_grown hn hs2.2 (by simpa using blk_ne hn hRd.b (by decide))
  have c3 := blk_cell hn2 0
  have hgr : w.grownBy (W'.setCell ⟨g, 2, none⟩ (.int .i64 k)) (some g) := (grown_new hN.g hg HSZ.out).trans hs2.2
  have HF := Aside0.mk (And.intro hN.k (And.intro hs2.1 hgr))
  clear hn hs2 hn2 hgr hN hg hRd hdo
  generalize W'.setCell ⟨g, 2, none⟩ (.int .i64 k) = Z at *
  generalize hNN : (pieceR xs at_ 0 s).2.1 = N at *
  have HNN := Aside0.mk hNN
  clear hNN
  go_wp2_with fail
  go_ret
  exact ⟨by rw [HNN.out]; rfl, HF.out.1 ▸ HF.out.2.1, HF.out.2.2⟩
end Go.Proofs.Ytcmibbhfocfccaa.Cur
