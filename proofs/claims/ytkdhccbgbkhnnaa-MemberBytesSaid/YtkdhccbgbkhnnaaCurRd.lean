/- CurRd: CurR1, CurR2, CurR3, RefE. -/
import Derived.Test.YtkdhccbgbkhnnaaRunA
import Derived.Test.YtkdhccbgbkhnnaaRefB
namespace Go.Proofs.Ytkdhccbgbkhnnaa.Cur
open Go.RowKit Go.Proofs.Ytkdhccbgbkhnnaa.Segs Go.Proofs.Ytkdhccbgbkhnnaa.Own Go.Proofs.Ytkdhccbgbkhnnaa.CurP Go.Proofs.Ytkdhccbgbkhnnaa.Mem Go.Proofs.Ytkdhccbgbkhnnaa.Bits Go.Proofs.Ytkdhccbgbkhnnaa.Help Go.Proofs.YtkdhccbgbkhnnaaW.PrintWords Go.Proofs.YtkdhccbgbkhnnaaW.PrintLast Go.Proofs.YtkdhccbgbkhnnaaW.PrintMore
set_option linter.unusedVariables false
set_option linter.unusedSimpArgs false
/-- A Reader's block. -/
abbrev Rdr (why : Int) (W : World) (g : Nat) (A : Option Addr) (c : Nat) (xs : List Int) (at_ : Nat) : Prop := TapeG 114 [.int .i64 why] W g A c xs at_
theorem Rdr.why {why : Int} {W : World} {g : Nat} {A : Option Addr} {c : Nat} {xs : List Int} {at_ : Nat} (h : Rdr why W g A c xs at_) : W.cell? ⟨g, 2, none⟩ = some (.int .i64 why) := (blk_cell h.b 2).trans (by simp [tapeC])
theorem Rdr.err {why : Int} {W : World} {g : Nat} {A : Option Addr} {c : Nat} {xs : List Int} {at_ : Nat} (h : Rdr why W g A c xs at_) (k : Int) : Rdr k (W.setCell ⟨g, 2, none⟩ (.int .i64 k)) g A c xs at_ ∧ W.grownBy (W.setCell ⟨g, 2, none⟩ (.int .i64 k)) (some g) :=
  ⟨⟨by rw [blk_set h.b]; simp [tapeC], C_setCell (p := none) h.why (by simp) h.r, h.le, h.cap, h.c63⟩, setCells_grown W g [.int .i64 k] 2⟩
/-- What a number comes to. -/
def NPost (t : Nat) (more : List Value) (g : Nat) (A : Option Addr) (c : Nat) (xs : List Int) (at_ : Nat) (s : Int) (w : World) (e : Ending) (w' : World) : Prop :=
  if (pieceR xs at_ 0 s).1 = 0 then e = .returned (.int .u64 (pieceR xs at_ 0 s).2.1) ∧ TapeG t more w' g A c xs (pieceR xs at_ 0 s).2.2.2 ∧ w.grownBy w' (some g)
  else e = stops (pieceR xs at_ 0 s).1 ∧ Drawn0 w w'
theorem number_any (g : Nat) (A : Option Addr) (c : Nat) (xs : List Int) (at_ : Nat) (s : Int) (w : World) {t : Nat} {more : List Value} (hT : TapeG t more w g A c xs at_) (hx : AllB xs) :
    Calls Try.prog 59 #[.pointer (some ⟨g, 0, none⟩), .int .i64 s] w (NPost t more g A c xs at_ s w) := by
  by_cases h1 : s < 1 ∨ s > 8
  · have hp : pieceR xs at_ 0 s = (1, 0, [], at_) := by unfold pieceR; rw [if_pos rfl, if_pos h1]
    refine (number_bad g s w (by omega)).mono ?_
    intro e w' h
    unfold NPost
    rw [hp]; rw [if_neg (show ¬ ((1 : Int), (0 : Int), ([] : List Int), at_).1 = 0 from fun h => absurd h (by simp))]; exact h
  · by_cases h2 : s > (xs.length : Int) - at_
    · have hp : pieceR xs at_ 0 s = (10, 0, [], at_) := by unfold pieceR; rw [if_pos rfl, if_neg h1, if_pos h2]
      refine (number_many g A c xs at_ s w hT (by omega) (by omega) (by omega)).mono ?_
      intro e w' h
      unfold NPost
      rw [hp]; rw [if_neg (show ¬ ((10 : Int), (0 : Int), ([] : List Int), at_).1 = 0 from fun h => absurd h (by simp))]; exact h
    · obtain ⟨sn, rfl⟩ : ∃ sn : Nat, s = (sn : Int) := ⟨s.toNat, by omega⟩
      have hp : pieceR xs at_ 0 sn = (0, numL ((xs.drop at_).take sn), [], at_ + sn) := by unfold pieceR; rw [if_pos rfl, if_neg h1, if_neg h2, Int.toNat_natCast]
      refine (number_yes g A c xs at_ sn w hT hx (by omega) (by omega) (by omega)).mono ?_
      intro e w' h
      unfold NPost
      rw [hp, if_pos rfl]
      exact h
theorem own_empty (w : World) (base : Nat) (hb : base ≤ w.heap.size) : Owns (w.alloc (.cells #[] 5)) base (.slice (some ⟨w.heap.size, 0, none⟩) 0 0) [] :=
  ⟨rfl, .inr ⟨w.heap.size, 0, #[], rfl, hb, blk_new w _, Nat.le_refl _, by simp [maxLen], rfl, rfl⟩⟩
set_option maxHeartbeats 4000000 in
theorem New_any (w : World) (A : Option Addr) (c : Nat) (xs : List Int) (hr : Kd.C (Kd.int .u8) w A xs.length xs) (hb : xs.length ≤ 140737488351232) :
    Calls Try.prog 41 #[.slice A xs.length c] w fun e w' => ∃ wB B d, e = .returned (.pointer (some ⟨wB.heap.size, 0, none⟩)) ∧ Rdr 0 w' wB.heap.size B d xs 0 ∧ Kd.C (Kd.int .u8) wB B xs.length xs ∧ Below w.heap.size w wB ∧ Below wB.heap.size wB w' := by
  have h0 := own_empty w w.heap.size (Nat.le_refl _)
  obtain ⟨v1, w1, hrun, hO, hg, -⟩ := append_bytes (ty := 45) (c := c) h0 (Kd.C_alloc hr _) (by simp; omega) (by rw [alloc_size]; omega)
  rw [List.nil_append] at hO
  obtain ⟨B, d, rfl, hd, hrd⟩ := hO.reads (by omega)
  have hB : Below w.heap.size w w1 := h0.keeps (below_alloc (Below.refl _ _) _) hg
  have HRUN := Aside0.mk hrun
  have HF := Aside0.mk (And.intro hd (And.intro hrd (And.intro hB (show xs.length ≤ 9223372036854775807 by omega))))
  clear hrun hO hg hd hrd hB hr hb h0
  go_enter Try.func41, Try.ntmps41
  go_wp2_with ((with_reducible refine gate_dst (N := 5) rfl ?_); refine Kd.event_run rfl (exec_append rfl rfl rfl HRUN.out) ?_)
  go_ret
  exact ⟨w1, B, d, rfl, ⟨blk_new w1 _, Kd.C_below HF.out.2.1 (below_alloc (Below.refl _ _) _), Nat.zero_le _, HF.out.1, HF.out.2.2.2⟩, HF.out.2.1, HF.out.2.2.1, below_alloc (Below.refl _ _) _⟩
theorem Err_any (why : Int) (w : World) (g : Nat) (A : Option Addr) (c : Nat) (xs : List Int) (at_ : Nat) (h : Rdr why w g A c xs at_) :
    Calls Try.prog 43 #[.pointer (some ⟨g, 0, none⟩)] w fun e w' => e = .returned (.int .i64 why) ∧ w = w' := by
  have c2 := h.why
  clear h
  go_enter Try.func43, Try.ntmps43
  go_wp2_with fail
  go_ret
  exact ⟨rfl, rfl⟩
theorem Left_any (why : Int) (w : World) (g : Nat) (A : Option Addr) (c : Nat) (xs : List Int) (at_ : Nat) (h : Rdr why w g A c xs at_) :
    Calls Try.prog 60 #[.pointer (some ⟨g, 0, none⟩)] w fun e w' => e = .returned (.int .i64 ((xs.length : Int) - at_)) ∧ Drawn0 w w' := by
  obtain ⟨c0, c1⟩ := h.cells
  have hle := h.le
  have h63 := h.c63
  have hw : IntKind.i64.wrap ((xs.length : Int) - at_) = (xs.length : Int) - at_ := IntWalk.i64_in _ (by omega)
  clear h
  go_enter Try.func60, Try.ntmps60
  go_wp2_with fail
  go_quiet (fail)
  go_wp2_with fail
  go_ret
  exact ⟨rfl, ⟨_, rfl⟩⟩
/-- The error at the end. -/
def endE (xs : List Int) (at_ : Nat) (why : Int) : Int := if why ≠ 0 then why else if at_ = xs.length then 0 else 11
theorem End_any (why : Int) (w : World) (g : Nat) (A : Option Addr) (c : Nat) (xs : List Int) (at_ : Nat) (h : Rdr why w g A c xs at_) :
    Calls Try.prog 44 #[.pointer (some ⟨g, 0, none⟩)] w fun e w' => e = .returned (.int .i64 (endE xs at_ why)) ∧ Drawn0 w w' := by
  have HE := Aside0.mk (Err_any why w g A c xs at_ h)
  have HL := Aside0.mk (Left_any why w g A c xs at_ h)
  have hle := h.le
  by_cases hw : why = 0
  · subst hw
    by_cases ha : at_ = xs.length
    · have q : ((xs.length : Int) - at_ == 0) = true := by subst ha; simp
      have hz : (xs.length : Int) - at_ = 0 := by omega
      have HR : Aside0 (endE xs at_ 0 = 0) := ⟨by unfold endE; rw [if_neg (by decide), if_pos ha]⟩
      rw [hz] at HL
      clear h ha hle hz q
      go_enter Try.func44, Try.ntmps44
      go_wp2_with fail
      refine HE.out.mono ?_
      rintro e w' ⟨rfl, rfl⟩
      go_wp2_with fail
      refine HL.out.mono ?_
      rintro e w' ⟨rfl, hD⟩
      have HD := Aside0.mk hD
      clear hD
      go_wp2_with fail
      go_ret
      exact ⟨by rw [HR.out]; rfl, HD.out⟩
    · have q : ((xs.length : Int) - at_ == 0) = false := by simp; omega
      have HR : Aside0 (endE xs at_ 0 = 11) := ⟨by unfold endE; rw [if_neg (by decide), if_neg ha]⟩
      clear h ha hle
      generalize (xs.length : Int) - at_ = m at *
      go_enter Try.func44, Try.ntmps44
      go_wp2_with fail
      refine HE.out.mono ?_
      rintro e w' ⟨rfl, rfl⟩
      go_wp2_with fail
      refine HL.out.mono ?_
      rintro e w' ⟨rfl, hD⟩
      have HD := Aside0.mk hD
      clear hD
      go_wp2_with fail
      go_ret
      exact ⟨by rw [HR.out]; rfl, HD.out⟩
  · have q : (why != 0) = true := by simpa using hw
    have HR : Aside0 (endE xs at_ why = why) := ⟨by unfold endE; rw [if_pos hw]⟩
    clear h hle hw HL
    go_enter Try.func44, Try.ntmps44
    go_wp2_with fail
    refine HE.out.mono ?_
    rintro e w' ⟨rfl, rfl⟩
    go_wp2_with fail
    go_ret
    exact ⟨by rw [HR.out]; rfl, Drawn0.refl _⟩
end Go.Proofs.Ytkdhccbgbkhnnaa.Cur
namespace Go.Proofs.Ytkdhccbgbkhnnaa.Cur
open Go.RowKit Go.Proofs.Ytkdhccbgbkhnnaa.Segs Go.Proofs.Ytkdhccbgbkhnnaa.Own Go.Proofs.Ytkdhccbgbkhnnaa.CurP Go.Proofs.Ytkdhccbgbkhnnaa.Mem Go.Proofs.Ytkdhccbgbkhnnaa.Bits Go.Proofs.Ytkdhccbgbkhnnaa.Help Go.Proofs.YtkdhccbgbkhnnaaW.PrintWords Go.Proofs.YtkdhccbgbkhnnaaW.PrintLast Go.Proofs.YtkdhccbgbkhnnaaW.PrintMore
set_option linter.unusedVariables false
set_option linter.unusedSimpArgs false
/-- What a number's attempt leaves: w the world ahead of Num, b3 where the number goes, ge the error's place. -/
structure NumR (w : World) (g b3 ge : Nat) (A : Option Addr) (c : Nat) (xs : List Int) (at_ : Nat) (s : Int) (k : Int) (W : World) : Prop where
  k : k = (pieceR xs at_ 0 s).1
  r : Rdr 0 W g A c xs (pieceR xs at_ 0 s).2.2.2
  n : W.heap[b3]? = some (.cells #[.int .u64 (pieceR xs at_ 0 s).2.1] 81 (0, 0))
  er : W.heap[ge]? = some (.cells #[.int .i64 0] 35 (0, 0))
  g : w.grownBy W (some g)
theorem num_at {xs : List Int} {at_ : Nat} {s : Int} (h : (pieceR xs at_ 0 s).1 ≠ 0) : (pieceR xs at_ 0 s).2.1 = 0 ∧ (pieceR xs at_ 0 s).2.2.2 = at_ := by
  unfold pieceR at h ⊢
  rw [if_pos rfl] at h ⊢
  split at h
  · rename_i h1; rw [if_pos h1]; exact ⟨rfl, rfl⟩
  · rename_i h1
    split at h
    · rename_i h2; rw [if_neg h1, if_pos h2]; exact ⟨rfl, rfl⟩
    · exact absurd rfl h
theorem dPast6 (j : Nat) (hj : 6 ≤ j) : (j == 4 || j == 5) = false := by simp; omega
set_option maxHeartbeats 4000000 in
theorem num1_any (w W : World) (g b1 b2 b3 ge : Nat) (A : Option Addr) (c : Nat) (xs : List Int) (at_ : Nat) (s : Int) (hx : AllB xs)
    (hT : Rdr 0 W g A c xs at_) (h1 : W.heap[b1]? = some (.cells #[.pointer (some ⟨g, 0, none⟩)] 79 (0, 0))) (h2 : W.heap[b2]? = some (.cells #[.int .i64 s] 3 (0, 0)))
    (h3 : W.heap[b3]? = some (.cells #[.int .u64 0] 81 (0, 0))) (he : W.heap[ge]? = some (.cells #[.int .i64 0] 35 (0, 0))) (hg : w.grownBy W (some g)) (h30 : w.heap.size ≤ b3) :
    Calls Try.prog 58 #[.pointer (some ⟨b1, 0, none⟩), .pointer (some ⟨b2, 0, none⟩), .pointer (some ⟨b3, 0, none⟩)] W fun e W' => (e = .returned (.tuple #[]) ∧ NumR w g b3 ge A c xs at_ s 0 W') ∨ ∃ k, e = stops k ∧ NumR w g b3 ge A c xs at_ s k W' := by
  have hld : (loadVar 79 ⟨b1, 0, none⟩).run Try.prog W.drew = .ok (.pointer (some ⟨g, 0, none⟩)) W.drew := load_one (blk_cell (blk_drew h1) 0) Try.underlying79 rfl
  have hls : (loadVar 3 ⟨b2, 0, none⟩).run Try.prog W.drew = .ok (.int .i64 s) W.drew := load_one (blk_cell (blk_drew h2) 0) Try.underlying3 rfl
  have HN := Aside0.mk (number_any g A c xs at_ s W.drew hT.drew hx)
  have HG := Aside0.mk (And.intro hT.drew (And.intro (blk_drew h3) (And.intro (blk_drew he) (And.intro (hg.trans (grown_drewN W 1 (some g))) h30))))
  clear hT h1 h2 h3 he hg h30 hx
  go_enter Try.func58, Try.ntmps58
  go_wp2_with fail
  refine RegionI.region_I (S := fun X => (loadVar 79 ⟨b1, 0, none⟩).run Try.prog X = .ok (.pointer (some ⟨g, 0, none⟩)) X ∧ (loadVar 3 ⟨b2, 0, none⟩).run Try.prog X = .ok (.int .i64 s) X) (D := fun j => j == 4 || j == 5) (by kernel_rfl) ⟨hld, hls⟩ ?_
  intro hS
  clear hld hls
  have HG2 : Aside0 (w.grownBy W.drew (some g)) := ⟨HG.out.2.2.2.1⟩
  generalize W.drew = V at *
  refine RegionI.wpAnyI_take (i := 0) (v := .pointer (some ⟨g, 0, none⟩)) rfl (by kernel_rfl) (by kernel_rfl) (by kernel_rfl) (by kernel_rfl) (by kernel_rfl) dPast6 (fun _ _ _ h => h) (by rfl) (fun w hw => exec_load rfl rfl hw.1) hS ?_
  refine RegionI.wpAnyI_take (i := 1) (v := ?_) rfl (by kernel_rfl) (by kernel_rfl) (by kernel_rfl) (by kernel_rfl) (by kernel_rfl) dPast6 (fun _ _ _ h => h) (by rfl) ?_ hS ?_
  rotate_left
  · (intro X hX; obtain ⟨hx0, hx1⟩ := hX; go_simp; try with_reducible rfl)
  refine RegionI.wpAnyI_take (i := 2) (v := ?_) rfl (by kernel_rfl) (by kernel_rfl) (by kernel_rfl) (by kernel_rfl) (by kernel_rfl) dPast6 (fun _ _ _ h => h) (by rfl) ?_ hS ?_
  rotate_left
  · (intro X hX; obtain ⟨hx0, hx1⟩ := hX; go_simp; try with_reducible rfl)
  refine RegionI.wpAnyI_take (i := 3) (v := .int .i64 s) rfl (by kernel_rfl) (by kernel_rfl) (by kernel_rfl) (by kernel_rfl) (by kernel_rfl) dPast6 (fun _ _ _ h => h) (by rfl) (fun w hw => exec_load rfl rfl hw.2) hS ?_
  clear hS
  refine RegionI.wpAnyI_one (i := 4) (by kernel_rfl) rfl (fun K hK => ?_)
  go_simp
  refine HN.out.mono ?_
  intro e w1 h1
  unfold NPost at h1
  by_cases hp : (pieceR xs at_ 0 s).1 = 0
  · rw [if_pos hp] at h1
    obtain ⟨rfl, hT, hg⟩ := h1
    have h3 := blk_grown HG.out.2.1 hg (by simpa using blk_ne HG.out.2.1 HG.out.1.b (by decide))
    have he := blk_grown HG.out.2.2.1 hg (by simpa using blk_ne HG.out.2.2.1 HG.out.1.b (by decide))
    have hG := HG2.out.trans hg
    have c3 := blk_cell h3 0
    have f3 := blk_frozen h3 0
    have hs3 := setCells_grown w1 b3 [.int .u64 (pieceR xs at_ 0 s).2.1] 0
    have HE : Aside0 (NumR w g b3 ge A c xs at_ s 0 (w1.setCell ⟨b3, 0, none⟩ (.int .u64 (pieceR xs at_ 0 s).2.1))) :=
      ⟨hp.symm, hT.grown_ne h3 (fun j n h => by rcases j with _ | j <;> simp at h) (blk_ne hT.b h3 (by decide)) hs3, by rw [blk_set h3]; rfl, blk_grown he hs3 (by simpa using blk_ne he h3 (by decide)),
       ⟨hs3.os.trans hG.os, hs3.tape.trans hG.tape, hs3.output.trans hG.output, Nat.le_trans hG.size hs3.size, fun k hk hne => (hs3.block k (Nat.lt_of_lt_of_le hk hG.size) (fun e => by injection e with e; have := HG.out.2.2.2.2; omega)).trans (hG.block k hk hne)⟩⟩
    refine hK _ _ ⟨fun h => absurd h (by decide), ?_⟩
    clear hK K hT hg h3 he hG hs3 hp HN
    generalize (pieceR xs at_ 0 s).2.1 = N at *
    refine RegionI.wpAnyI_one (i := 5) (by kernel_rfl) rfl (fun K hK => ?_)
    go_simp
    refine hK _ _ ⟨fun h => absurd h (by decide), ?_⟩
    clear hK K
    refine RegionI.wpAnyI_done (by kernel_rfl) ?_ _
    go_wp2_with fail
    exact bodyPost_end (results_none rfl _ _ _) rfl (.inl ⟨rfl, HE.out⟩)
  · rw [if_neg hp] at h1
    obtain ⟨rfl, ⟨q, rfl⟩⟩ := h1
    obtain ⟨e0, e1⟩ := num_at hp
    have HE : NumR w g b3 ge A c xs at_ s (pieceR xs at_ 0 s).1 (V.drewN q) := ⟨rfl, by rw [e1]; exact HG.out.1.drewN q, by rw [e0]; exact blk_drewN HG.out.2.1 q, blk_drewN HG.out.2.2.1 q, HG2.out.trans (grown_drewN V q _)⟩
    exact ⟨rfl, .inr ⟨_, rfl, HE⟩⟩
/-- One more made and a block written that is not w's: w grows as before. -/
theorem grown_new {w W W1 : World} {g q : Nat} (h : w.grownBy W (some g)) (hg : W.grownBy W1 (some q)) (hq : w.heap.size ≤ q) : w.grownBy W1 (some g) :=
  ⟨hg.os.trans h.os, hg.tape.trans h.tape, hg.output.trans h.output, Nat.le_trans h.size hg.size, fun k hk hne => (hg.block k (Nat.lt_of_lt_of_le hk h.size) (fun e => by injection e with e; omega)).trans (h.block k hk hne)⟩
set_option maxHeartbeats 4000000 in
theorem do_any (f : FuncId) (caps : Array Value) (w : World) (R : Int → World → Prop) (g : Nat) (A : Option Addr) (c : Nat) (xs : List Int) (at_ : Int → Nat) (at0 : Nat) (hT : Rdr 0 w g A c xs at0)
    (hf : ∀ w : World, (callFunc f caps).run Try.prog w = .ok (.enter f caps) w) (hR : ∀ k W, R k W → W.heap[w.heap.size]? = some (.cells #[.int .i64 0] 35 (0, 0))) (hRr : ∀ k W, R k W → Rdr 0 W g A c xs (at_ k))
    (h : Calls Try.prog f caps (w.alloc (.cells #[.int .i64 0] 35)) fun e W => (e = .returned (.tuple #[]) ∧ R 0 W) ∨ ∃ k, e = stops k ∧ R k W) :
    Calls Try.prog 57 #[.pointer (some ⟨g, 0, none⟩), .func (.func f) #[] caps] w fun e w' => e = .returned (.tuple #[]) ∧ ∃ k W W', R k W ∧ W.grownBy W' (some w.heap.size) ∧ Rdr 0 W' g A c xs (at_ k) ∧ w' = W'.setCell ⟨g, 2, none⟩ (.int .i64 k) := by
  have HTRY := Aside0.mk (try_any f caps w R hf hR h)
  have HR := Aside0.mk (And.intro hR hRr)
  have c2 := hT.why
  have hglt := blk_lt hT.b
  clear hT h hR hRr hf
  go_enter Try.func57, Try.ntmps57
  go_wp2_with fail
  refine HTRY.out.mono ?_
  rintro e W' ⟨k, W, rfl, hRk, hg⟩
  have her := HR.out.1 k W hRk
  have hRd : Rdr 0 W' g A c xs (at_ k) := (HR.out.2 k W hRk).grown_ne her (fun j n h => by rcases j with _ | j <;> simp at h) (blk_ne (HR.out.2 k W hRk).b her (by decide)) hg
  have d2 := hRd.why
  have f2 := blk_frozen hRd.b 2
  have HF := Aside0.mk (And.intro hRk (And.intro hg hRd))
  clear hRk hg hRd her c2
  go_wp2_with fail
  exact bodyPost_end (results_none rfl _ _ _) rfl ⟨rfl, k, W, W', HF.out.1, HF.out.2.1, HF.out.2.2, rfl⟩
set_option maxHeartbeats 4000000 in
theorem rdrNum_any (w : World) (g : Nat) (A : Option Addr) (c : Nat) (xs : List Int) (at_ : Nat) (s : Int) (hT : Rdr 0 w g A c xs at_) (hx : AllB xs) :
    Calls Try.prog 42 #[.pointer (some ⟨g, 0, none⟩), .int .i64 s] w fun e w' => e = .returned (.int .u64 (pieceR xs at_ 0 s).2.1) ∧ Rdr (pieceR xs at_ 0 s).1 w' g A c xs (pieceR xs at_ 0 s).2.2.2 ∧ w.grownBy w' (some g) := by
  have b1 : (((w.alloc (.cells #[.pointer (some ⟨g, 0, none⟩)] 79)).alloc (.cells #[.int .i64 s] 3)).alloc (.cells #[.int .u64 0] 81)).heap[w.heap.size]? = some (.cells #[.pointer (some ⟨g, 0, none⟩)] 79 (0, 0)) := blk_alloc (blk_alloc (blk_new w _) _) _
  have b2 : (((w.alloc (.cells #[.pointer (some ⟨g, 0, none⟩)] 79)).alloc (.cells #[.int .i64 s] 3)).alloc (.cells #[.int .u64 0] 81)).heap[w.heap.size + 1]? = some (.cells #[.int .i64 s] 3 (0, 0)) := blk_alloc (blk_new_at (by rw [alloc_size])) _
  have b3 : (((w.alloc (.cells #[.pointer (some ⟨g, 0, none⟩)] 79)).alloc (.cells #[.int .i64 s] 3)).alloc (.cells #[.int .u64 0] 81)).heap[w.heap.size + 1 + 1]? = some (.cells #[.int .u64 0] 81 (0, 0)) := blk_new_at (by rw [alloc_size, alloc_size])
  have hB : Below w.heap.size w (((w.alloc (.cells #[.pointer (some ⟨g, 0, none⟩)] 79)).alloc (.cells #[.int .i64 s] 3)).alloc (.cells #[.int .u64 0] 81)) := below_alloc (below_alloc (below_alloc (Below.refl _ _) _) _) _
  have cr := blk_cell b1 0
  have HX := Aside0.mk hx
  have HT := Aside0.mk hT
  clear hT hx
  have HH := Aside0.mk (And.intro b1 (And.intro b2 (And.intro b3 hB)))
  clear b1 b2 b3 hB cr
  go_enter Try.func42, Try.ntmps42
  go_wp2_with fail
  generalize (((w.alloc (.cells #[.pointer (some ⟨g, 0, none⟩)] 79)).alloc (.cells #[.int .i64 s] 3)).alloc (.cells #[.int .u64 0] 81)) = W0 at *
  have hT0 := HT.out.below HH.out.2.2.2
  have hg0 : w.grownBy W0 (some g) := by
    have := HH.out.2.2.2
    exact ⟨this.os, this.tape, this.output, this.size, fun k hk _ => this.block k hk⟩
  have hrun := num1_any w (W0.alloc (.cells #[.int .i64 0] 35)) g w.heap.size (w.heap.size + 1) (w.heap.size + 1 + 1) W0.heap.size A c xs at_ s HX.out (hT0.below (below_alloc (Below.refl _ _) _)) (blk_alloc HH.out.1 _) (blk_alloc HH.out.2.1 _) (blk_alloc HH.out.2.2.1 _) (blk_new W0 _) (hg0.trans (World.grownBy_alloc W0 _ _)) (by omega)
  have hdo := do_any 58 _ W0 (NumR w g (w.heap.size + 1 + 1) W0.heap.size A c xs at_ s) g A c xs (fun _ => (pieceR xs at_ 0 s).2.2.2) at_ hT0 (fun w => by kernel_rfl) (fun k W h => h.er) (fun k W h => h.r) hrun
  have HSZ := Aside0.mk HH.out.2.2.2.size
  clear hT0 hg0 hrun
  refine hdo.mono ?_
  rintro e w' ⟨rfl, k, W, W', hN, hg, hRd, rfl⟩
  have hn := blk_grown hN.n hg (by simpa using blk_ne hN.n hN.er (by decide))
  have hs2 := hRd.err k
  have hn2 := blk_grown hn hs2.2 (by simpa using blk_ne hn hRd.b (by decide))
  have c3 := blk_cell hn2 0
  have hgr : w.grownBy (W'.setCell ⟨g, 2, none⟩ (.int .i64 k)) (some g) := (grown_new hN.g hg HSZ.out).trans hs2.2
  have HF := Aside0.mk (And.intro hN.k (And.intro hs2.1 hgr))
  clear hn hs2 hn2 hgr hN hg hRd hdo
  generalize W'.setCell ⟨g, 2, none⟩ (.int .i64 k) = Z at *
  generalize hNN : (pieceR xs at_ 0 s).2.1 = N at *
  have HNN := Aside0.mk hNN
  clear hNN
  go_wp2_with fail
  go_ret
  exact ⟨by rw [HNN.out]; rfl, HF.out.1 ▸ HF.out.2.1, HF.out.2.2⟩
end Go.Proofs.Ytkdhccbgbkhnnaa.Cur
namespace Go.Proofs.Ytkdhccbgbkhnnaa.Cur
open Go.RowKit Go.Proofs.Ytkdhccbgbkhnnaa.Segs Go.Proofs.Ytkdhccbgbkhnnaa.Own Go.Proofs.Ytkdhccbgbkhnnaa.CurP Go.Proofs.Ytkdhccbgbkhnnaa.Mem Go.Proofs.Ytkdhccbgbkhnnaa.Bits Go.Proofs.Ytkdhccbgbkhnnaa.Help Go.Proofs.YtkdhccbgbkhnnaaW.PrintWords Go.Proofs.YtkdhccbgbkhnnaaW.PrintLast Go.Proofs.YtkdhccbgbkhnnaaW.PrintMore
set_option linter.unusedVariables false
set_option linter.unusedSimpArgs false
/-- A number read, and where the reader is then: its place, its error. -/
def nextN (xs : List Int) (st : Nat × Int) (s : Int) : Int × (Nat × Int) :=
  if st.2 ≠ 0 then (0, st) else ((pieceR xs st.1 0 s).2.1, ((pieceR xs st.1 0 s).2.2.2, (pieceR xs st.1 0 s).1))
theorem do_idle (f : FuncId) (caps : Array Value) (why : Int) (w : World) (g : Nat) (A : Option Addr) (c : Nat) (xs : List Int) (at_ : Nat) (h : Rdr why w g A c xs at_) (hw : why ≠ 0) :
    Calls Try.prog 57 #[.pointer (some ⟨g, 0, none⟩), .func (.func f) #[] caps] w fun e w' => e = .returned (.tuple #[]) ∧ w = w' := by
  have c2 := h.why
  have q : (why == 0) = false := by simpa using hw
  clear h
  go_enter Try.func57, Try.ntmps57
  go_wp2_with fail
  exact bodyPost_end (results_none rfl _ _ _) rfl ⟨rfl, rfl⟩
theorem rdrNum_err (why : Int) (w : World) (g : Nat) (A : Option Addr) (c : Nat) (xs : List Int) (at_ : Nat) (s : Int) (h : Rdr why w g A c xs at_) (hw : why ≠ 0) :
    Calls Try.prog 42 #[.pointer (some ⟨g, 0, none⟩), .int .i64 s] w fun e w' => e = .returned (.int .u64 0) ∧ Below w.heap.size w w' := by
  have hB : Below w.heap.size w (((w.alloc (.cells #[.pointer (some ⟨g, 0, none⟩)] 79)).alloc (.cells #[.int .i64 s] 3)).alloc (.cells #[.int .u64 0] 81)) := below_alloc (below_alloc (below_alloc (Below.refl _ _) _) _) _
  have HT := Aside0.mk (h.below hB)
  have HW := Aside0.mk hw
  have HB := Aside0.mk hB
  clear h hw hB
  go_enter Try.func42, Try.ntmps42
  go_wp2_with fail
  refine (do_idle _ _ why _ g A c xs at_ HT.out HW.out).mono ?_
  rintro e w' ⟨rfl, rfl⟩
  go_wp2_with fail
  go_ret
  exact ⟨rfl, HB.out⟩
/-- The program's, whatever was before. -/
theorem rdrNum_all (w : World) (g : Nat) (A : Option Addr) (c : Nat) (xs : List Int) (st : Nat × Int) (s : Int) (hT : Rdr st.2 w g A c xs st.1) (hx : AllB xs) :
    Calls Try.prog 42 #[.pointer (some ⟨g, 0, none⟩), .int .i64 s] w fun e w' => e = .returned (.int .u64 (nextN xs st s).1) ∧ Rdr (nextN xs st s).2.2 w' g A c xs (nextN xs st s).2.1 ∧ w.grownBy w' (some g) := by
  obtain ⟨at_, why⟩ := st
  unfold nextN
  dsimp only at hT ⊢
  by_cases hw : why = 0
  · subst hw
    rw [if_neg (by decide)]
    exact rdrNum_any w g A c xs at_ s hT hx
  · rw [if_pos hw]
    refine (rdrNum_err why w g A c xs at_ s hT hw).mono ?_
    rintro e w' ⟨rfl, hB⟩
    exact ⟨rfl, hT.below hB, ⟨hB.os, hB.tape, hB.output, hB.size, fun k hk _ => hB.block k hk⟩⟩
/-- The reference's, whatever was before. -/
theorem rnum_all (w : World) (g : Nat) (A : Option Addr) (c : Nat) (xs : List Int) (st : Nat × Int) (s : Int) (hT : RefR w g A c xs st.1 st.2) (hx : AllB xs) :
    Calls Try.prog 46 #[.pointer (some ⟨g, 0, none⟩), .int .i64 s] w fun e w' => e = .returned (.int .u64 (nextN xs st s).1) ∧ RefR w' g A c xs (nextN xs st s).2.1 (nextN xs st s).2.2 ∧ w.grownBy w' (some g) := by
  obtain ⟨at_, why⟩ := st
  unfold nextN
  dsimp only at hT ⊢
  by_cases hw : why = 0
  · subst hw
    rw [if_neg (by decide)]
    by_cases hf : fitsE xs at_ 0 s (decide (1 ≤ s) && decide (s ≤ 8)) = 0
    · obtain ⟨h1, h8, hn, hp⟩ := num_yes hf
      rw [hp]
      obtain ⟨sn, rfl⟩ : ∃ sn : Nat, s = (sn : Int) := ⟨s.toNat, by omega⟩
      rw [Int.toNat_natCast]
      exact rnum_yes g A c xs at_ sn w hT hx (by omega) (by omega) (by omega)
    · have hp := num_no hf
      obtain ⟨e0, e1⟩ := num_at (xs := xs) (at_ := at_) (s := s) (by rw [hp]; exact hf)
      rw [e0, e1, hp]
      exact rnum_no g A c xs at_ 0 s w hT hf
  · rw [if_pos hw]
    have hf : fitsE xs at_ why s (decide (1 ≤ s) && decide (s ≤ 8)) = why := by unfold fitsE; rw [if_pos hw]
    have := rnum_no g A c xs at_ why s w hT (by rw [hf]; exact hw)
    rw [hf] at this
    exact this
/-- How far it may go. -/
theorem nextN_le {xs : List Int} {st : Nat × Int} (s : Int) (h : st.1 ≤ xs.length) : (nextN xs st s).2.1 ≤ xs.length := by
  unfold nextN
  split
  · exact h
  · by_cases hp : (pieceR xs st.1 0 s).1 = 0
    · exact pieceR_le h hp
    · rw [(num_at hp).2]; exact h
theorem nextN_bd {xs : List Int} (hx : AllB xs) (st : Nat × Int) (s : Nat) : 0 ≤ (nextN xs st s).1 ∧ (nextN xs st s).1 < 256 ^ s := by
  have hp : (0 : Int) < 256 ^ s := Int.pow_pos (by decide)
  unfold nextN
  split
  · exact ⟨Int.le_refl _, hp⟩
  · unfold pieceR
    rw [if_pos rfl]
    split
    · exact ⟨Int.le_refl _, hp⟩
    · split
      · exact ⟨Int.le_refl _, hp⟩
      · have := numL_bd ((xs.drop st.1).take s) ((hx.drop _).take _)
        rename_i h1 h2
        rw [show ((xs.drop st.1).take s).length = s by simp; omega] at this
        simpa using this
end Go.Proofs.Ytkdhccbgbkhnnaa.Cur
namespace Go.Proofs.Ytkdhccbgbkhnnaa.Cur
open Go.RowKit Go.Proofs.Ytkdhccbgbkhnnaa.Segs Go.Proofs.Ytkdhccbgbkhnnaa.Own Go.Proofs.Ytkdhccbgbkhnnaa.CurP Go.Proofs.Ytkdhccbgbkhnnaa.Mem Go.Proofs.Ytkdhccbgbkhnnaa.Bits Go.Proofs.Ytkdhccbgbkhnnaa.Help Go.Proofs.YtkdhccbgbkhnnaaW.PrintWords Go.Proofs.YtkdhccbgbkhnnaaW.PrintLast Go.Proofs.YtkdhccbgbkhnnaaW.PrintMore
set_option linter.unusedVariables false
set_option linter.unusedSimpArgs false
theorem refEnd_any (e : Int) (w : World) (g : Nat) (A : Option Addr) (c : Nat) (xs : List Int) (at_ : Nat) (h : RefR w g A c xs at_ e) :
    Calls Try.prog 47 #[.pointer (some ⟨g, 0, none⟩)] w fun r w' => r = .returned (.int .i64 (endE xs at_ e)) ∧ Drawn0 w w' := by
  obtain ⟨c0, c1, c2⟩ := h.cells
  have hle := h.le
  clear h
  by_cases he : e = 0
  · subst he
    have q0 : ((0 : Int) == 0) = true := rfl
    by_cases ha : at_ = xs.length
    · have hd : decide ((at_ : Int) < (xs.length : Int)) = false := by simp; omega
      have hd2 : ¬ (at_ : Int) < (xs.length : Int) := by omega
      have HR : Aside0 (endE xs at_ 0 = 0) := ⟨by unfold endE; rw [if_neg (by decide), if_pos ha]⟩
      clear ha hle
      go_enter Try.func47, Try.ntmps47
      go_wp2_with fail
      go_quiet (fail)
      go_wp2_with fail
      go_ret
      exact ⟨by rw [HR.out]; rfl, ⟨_, rfl⟩⟩
    · have hd : (at_ : Int) < (xs.length : Int) := by omega
      have HR : Aside0 (endE xs at_ 0 = 11) := ⟨by unfold endE; rw [if_neg (by decide), if_neg ha]⟩
      clear ha hle
      go_enter Try.func47, Try.ntmps47
      go_wp2_with fail
      go_quiet (fail)
      go_wp2_with fail
      go_ret
      exact ⟨by rw [HR.out]; rfl, ⟨_, rfl⟩⟩
  · have q0 : (e == 0) = false := by simpa using he
    have HR : Aside0 (endE xs at_ e = e) := ⟨by unfold endE; rw [if_pos he]⟩
    clear hle he
    go_enter Try.func47, Try.ntmps47
    go_wp2_with fail
    go_quiet (fail)
    go_wp2_with fail
    go_ret
    exact ⟨by rw [HR.out]; rfl, ⟨_, rfl⟩⟩
end Go.Proofs.Ytkdhccbgbkhnnaa.Cur
