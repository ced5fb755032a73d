/- The tape: a piece. -/
import Derived.Test.YtcmibbhfocfccaaCurW3
import Derived.Test.YtcmibbhfocfccaaSegs
import Derived.Test.YtcmibbhfocfccaaBase
namespace Go.Proofs.Ytcmibbhfocfccaa.Cur
open Go.RowKit Go.Proofs.Ytcmibbhfocfccaa.Segs Go.Proofs.Ytcmibbhfocfccaa.Own Go.Proofs.Ytcmibbhfocfccaa.CurP Go.Proofs.Ytcmibbhfocfccaa.Mem Go.Proofs.Ytcmibbhfocfccaa.Bits Go.Proofs.Ytcmibbhfocfccaa.Help Go.Proofs.YtcmibbhfocfccaaW.PrintWords Go.Proofs.YtcmibbhfocfccaaW.PrintLast Go.Proofs.YtcmibbhfocfccaaW.PrintMore
set_option linter.unusedVariables false
set_option linter.unusedSimpArgs false
/-- A block without bytes. -/
def NoB (cs : Array Value) : Prop := ∀ (j : Nat) (x : Int), cs[j]? ≠ some (.int .u8 x)
theorem C_grown_ne {W W2 : World} {q : Nat} {cs : Array Value} {t : TypeId} {A : Option Addr} {n : Nat} {xs : List Int} (hb : W.heap[q]? = some (.cells cs t (0, 0))) (hn : NoB cs) (hg : W.grownBy W2 (some q)) (h : Kd.C (Kd.int .u8) W A n xs) : Kd.C (Kd.int .u8) W2 A n xs := by
  obtain ⟨h1, h2, h3⟩ := Kd.reads_of_C (d := (0 : Int)) h
  refine Kd.C_of_reads (d := (0 : Int)) (h1 := fun _ => rfl) ⟨h1, h2, fun hp => ?_⟩
  obtain ⟨ad, rfl, hcl⟩ := h3 hp
  refine ⟨ad, rfl, fun j hj => ?_⟩
  have hj1 := hcl j hj
  refine hg.cell hj1 ?_
  intro e
  have e : (ad.add j).block = q := by simpa using e
  have := hj1
  unfold World.cell? at this
  rw [e, hb] at this
  simp only at this
  split at this
  · cases this
  · exact hn _ _ this
theorem noB2 {x y : Value} (hx : ∀ n, x ≠ .int .u8 n) (hy : ∀ n, y ≠ .int .u8 n) : NoB #[x, y] := by
  intro j n h
  match j with
  | 0 => exact hx n (by simpa using h)
  | 1 => exact hy n (by simpa using h)
  | j + 2 => simp at h
theorem Tape.grown_ne {W W2 : World} {q g : Nat} {cs : Array Value} {t : TypeId} {A : Option Addr} {c : Nat} {xs : List Int} {at_ : Nat} (h : Tape W g A c xs at_) (hb : W.heap[q]? = some (.cells cs t (0, 0))) (hn : NoB cs) (hq : g ≠ q) (hg : W.grownBy W2 (some q)) : Tape W2 g A c xs at_ :=
  ⟨blk_grown h.b hg (by simpa using hq), C_grown_ne hb hn hg h.r, h.le, h.cap, h.c63⟩
theorem infoV : (Try.prog.info? 40).map (·.size) = some 2 := by kernel_rfl
/-- A Val stored over another one. -/
theorem val_over {W : World} {q : Nat} {x y x' y' : Value} (hb : W.heap[q]? = some (.cells #[x, y] 40 (0, 0))) (hx : x'.oneCell' = true) (hy : y'.oneCell' = true) :
    ∃ W1, (storeVar 40 ⟨q, 0, none⟩ (.agg #[x', y'])).run Try.prog W = .ok () W1 ∧ W1.heap[q]? = some (.cells #[x', y'] 40 (0, 0)) ∧ W.grownBy W1 (some q) := by
  have h := seg_over (P := Try.prog) (ty := 40) (segs := [[x], [y]]) (segs' := [[x'], [y']]) hb rfl infoV rfl (by simp [hx, hy])
  exact ⟨_, h, setRow_heap _ _ _ _ _ _ hb, ⟨rfl, rfl, rfl, by simp, fun k _ hk => setRow_other W q k _ (fun e => hk (by simp [e]))⟩⟩
/-- What a piece comes to. -/
def PPost (g : Nat) (A : Option Addr) (c : Nat) (xs : List Int) (at_ : Nat) (k s : Int) (w : World) (e : Ending) (w' : World) : Prop :=
  if (pieceR xs at_ k s).1 = 0 then ∃ v, e = .returned (.agg #[.int .u64 (pieceR xs at_ k s).2.1, v]) ∧ Owns w' w.heap.size v (pieceR xs at_ k s).2.2.1 ∧ Tape w' g A c xs (pieceR xs at_ k s).2.2.2 ∧ w.grownBy w' (some g)
  else e = stops (pieceR xs at_ k s).1 ∧ Tape w' g A c xs at_ ∧ w.grownBy w' none
theorem PPost.yes {g : Nat} {A : Option Addr} {c : Nat} {xs : List Int} {at_ : Nat} {k s : Int} {w : World} {e : Ending} {w' : World} {N : Int} {B : List Int} {m : Nat} {v : Value} (hr : pieceR xs at_ k s = (0, N, B, m)) (he : e = .returned (.agg #[.int .u64 N, v])) (hO : Owns w' w.heap.size v B) (hT : Tape w' g A c xs m) (hg : w.grownBy w' (some g)) : PPost g A c xs at_ k s w e w' := by
  unfold PPost; rw [hr, if_pos rfl]; exact ⟨v, he, hO, hT, hg⟩
theorem PPost.no {g : Nat} {A : Option Addr} {c : Nat} {xs : List Int} {at_ : Nat} {k s : Int} {w : World} {e : Ending} {w' : World} {E : Int} (hr : (pieceR xs at_ k s).1 = E) (h0 : E ≠ 0) (he : e = stops E) (hT : Tape w' g A c xs at_) (hg : w.grownBy w' none) : PPost g A c xs at_ k s w e w' := by
  unfold PPost; rw [if_neg (by rw [hr]; exact h0), hr]; exact ⟨he, hT, hg⟩
theorem wantN_zero {xs : List Int} {at_ : Nat} {s : Int} (h : wantN xs at_ s = 0) : ∃ n : Nat, s = n ∧ (at_ ≤ xs.length → at_ + n ≤ xs.length) := by
  unfold wantN at h
  split at h
  · omega
  · split at h
    · omega
    · exact ⟨s.toNat, by omega, fun hl => by omega⟩
theorem grown2 {w W w1 W2 : World} {g q : Nat} (h0 : w.grownBy W (some g)) (h1 : W.grownBy w1 (some g)) (h2 : w1.grownBy W2 (some q)) (hq : w.heap.size ≤ q) : w.grownBy W2 (some g) := by
  have h := h0.trans h1
  exact ⟨h2.os.trans h.os, h2.tape.trans h.tape, h2.output.trans h.output, Nat.le_trans h.size h2.size, fun k hk hne => by
    rw [h2.block k (Nat.lt_of_lt_of_le hk h.size) (by simp; omega)]
    exact h.block k hk hne⟩
theorem results_val {fn : Func} {p : Tmp} (h : fn.results = #[.cell p 40]) (tmps : Array Value) (w : World) (q : Nat) {x y : Value} (hp : tmps.getD p undef = .pointer (some ⟨q, 0, none⟩)) (hb : w.heap[q]? = some (.cells #[x, y] 40 (0, 0))) :
    (results fn tmps).run Try.prog w = .ok (.agg #[x, y]) w :=
  results_cell_row h tmps w q _ _ (0, 0) _ hp hb Try.underlying40 rfl (by rw [infoV]; rfl)
set_option maxHeartbeats 8000000 in
theorem piece_any (g : Nat) (A : Option Addr) (c : Nat) (xs : List Int) (at_ : Nat) (k s : Int) (w : World) (hT : Tape w g A c xs at_) (hx : AllB xs) (hb : xs.length ≤ 140737488351232) (hs : -9223372036854775808 ≤ s ∧ s ≤ 9223372036854775807) :
    Calls Try.prog 25 #[.pointer (some ⟨g, 0, none⟩), .agg #[.int .i64 k, .int .i64 s]] w (PPost g A c xs at_ k s w) := by
  have hlt : g < w.heap.size := blk_lt hT.b
  have hT0 : Tape ((w.alloc (.cells #[.int .i64 k, .int .i64 s] 53)).alloc (.cells #[.int .u64 0, .slice none 0 0] 40)) g A c xs at_ := hT.below (below_alloc (below_alloc (Below.refl _ _) _) _)
  have hV : ((w.alloc (.cells #[.int .i64 k, .int .i64 s] 53)).alloc (.cells #[.int .u64 0, .slice none 0 0] 40)).heap[w.heap.size + 1]? = some (.cells #[.int .u64 0, .slice none 0 0] 40 (0, 0)) := blk_new_at (Array.size_push _).symm
  have hO : ((w.alloc (.cells #[.int .i64 k, .int .i64 s] 53)).alloc (.cells #[.int .u64 0, .slice none 0 0] 40)).heap[w.heap.size]? = some (.cells #[.int .i64 k, .int .i64 s] 53 (0, 0)) := blk_alloc (blk_new w _) _
  have hB : Below w.heap.size w ((w.alloc (.cells #[.int .i64 k, .int .i64 s] 53)).alloc (.cells #[.int .u64 0, .slice none 0 0] 40)) := below_alloc (below_alloc (Below.refl _ _) _) _
  have hsz : ((w.alloc (.cells #[.int .i64 k, .int .i64 s] 53)).alloc (.cells #[.int .u64 0, .slice none 0 0] 40)).heap.size = w.heap.size + 2 := by show ((w.heap.push _).push _).size = _; rw [Array.size_push, Array.size_push]
  go_enter Try.func25, Try.ntmps25
  go_upto_region 1 with fail
  generalize (w.alloc (.cells #[.int .i64 k, .int .i64 s] 53)).alloc (.cells #[.int .u64 0, .slice none 0 0] 40) = W at *
  have ck := blk_cell hO 0
  have cs := blk_cell hO 1
  have hg0 : w.grownBy W none := ⟨hB.os, hB.tape, hB.output, hB.size, fun k hk _ => hB.block k hk⟩
  have H := Aside0.mk (And.intro hx (And.intro hb (And.intro hs (And.intro hT0 (And.intro hV (And.intro hg0 (And.intro hlt hsz)))))))
  clear hx hb hs hT0 hV hO hB hsz hT hlt hg0
  by_cases k0 : k = 0
  · subst k0
    have q0 : ((0 : Int) == 0) = true := rfl
    by_cases hbad : s < 1 ∨ 8 < s
    · have HR : Aside0 ((pieceR xs at_ 0 s).1 = 1) := ⟨by rw [pieceR, if_pos rfl, if_pos (by omega)]⟩
      have HN := Aside0.mk (number_bad g s W hbad)
      clear hbad
      go_wp2_with fail
      refine HN.out.mono ?_
      rintro e w1 ⟨rfl, ⟨n, rfl⟩⟩
      refine ⟨rfl, PPost.no HR.out (by decide) rfl (H.out.2.2.2.1.drewN n) ?_⟩
      exact H.out.2.2.2.2.2.1.trans (grown_drewN W n none)
    · by_cases hm : (xs.length : Int) - at_ < s
      · have HR : Aside0 ((pieceR xs at_ 0 s).1 = 10) := ⟨by rw [pieceR, if_pos rfl, if_neg (by omega), if_pos (by omega)]⟩
        have HN := Aside0.mk (number_many g A c xs at_ s W H.out.2.2.2.1 (by omega) (by omega) hm)
        clear hbad hm
        go_wp2_with fail
        refine HN.out.mono ?_
        rintro e w1 ⟨rfl, ⟨n, rfl⟩⟩
        refine ⟨rfl, PPost.no HR.out (by decide) rfl (H.out.2.2.2.1.drewN n) ?_⟩
        exact H.out.2.2.2.2.2.1.trans (grown_drewN W n none)
      · obtain ⟨n, rfl⟩ : ∃ n : Nat, s = n := ⟨s.toNat, by omega⟩
        have HR : Aside0 (pieceR xs at_ 0 (n : Int) = (0, numL ((xs.drop at_).take n), [], at_ + n)) := ⟨by rw [pieceR, if_pos rfl, if_neg (by omega), if_neg (by omega)]; simp⟩
        have HN := Aside0.mk (number_yes g A c xs at_ n W H.out.2.2.2.1 H.out.1 (by omega) (by omega) (by omega))
        generalize numL ((xs.drop at_).take n) = N at *
        clear hbad hm
        go_wp2_with fail
        refine HN.out.mono ?_
        rintro e w1 ⟨rfl, hT1, hg1⟩
        have hv1 := blk_grown H.out.2.2.2.2.1 hg1 (by have := H.out.2.2.2.2.2.2; simp; omega)
        obtain ⟨W2, hst, hv2, hg2⟩ := val_over (x' := .int .u64 N) (y' := .slice none 0 0) hv1 rfl rfl
        have hT2 := hT1.grown_ne hv1 (noB2 (by simp) (by simp)) (by have := H.out.2.2.2.2.2.2; omega) hg2
        have HST := Aside0.mk hst
        have HF := Aside0.mk (And.intro hv2 (And.intro hT2 (grown2 (grown0_any H.out.2.2.2.2.2.1 (some g)) hg1 hg2 (by omega))))
        clear hT1 hg1 hv1 hst hv2 hg2 hT2 HN
        go_wp2_with ((with_reducible refine gate_store (t := 40) rfl ?_); refine event_skip rfl (exec_store rfl rfl rfl HST.out) ?_)
        exact bodyPost_ret (results_val rfl _ _ (w.heap.size + 1) rfl HF.out.1) rfl (PPost.yes HR.out rfl (Owns.nil _ _) HF.out.2.1 HF.out.2.2)
  · have q0 : (k == 0) = false := by simpa using k0
    have HK0 := Aside0.mk k0
    clear k0
    by_cases k1 : k = 1
    · subst k1
      by_cases hw : wantN xs at_ s = 0
      · obtain ⟨n, hsn, hn⟩ := wantN_zero hw
        have HR : Aside0 (pieceR xs at_ 1 s = (0, 0, (xs.drop at_).take n, at_ + n)) := ⟨by subst hsn; rw [pieceR, if_neg (by decide), if_pos rfl, if_pos hw]; simp⟩
        subst hsn
        have HN := Aside0.mk (bytes_yes g A c xs at_ n W H.out.2.2.2.1 (hn H.out.2.2.2.1.le) (by have := hn H.out.2.2.2.1.le; have := H.out.2.1; omega))
        have hBl : ((xs.drop at_).take n).length ≤ 9223372036854775807 := by have := H.out.2.1; simp; omega
        generalize (xs.drop at_).take n = B at *
        clear hw hn
        go_wp2_with fail
        refine HN.out.mono ?_
        rintro e w1 ⟨v, rfl, hO1, hT1, hg1⟩
        obtain ⟨B1, e1, rfl, -, -⟩ := hO1.reads hBl
        have hv1 := blk_grown H.out.2.2.2.2.1 hg1 (by have := H.out.2.2.2.2.2.2; simp; omega)
        obtain ⟨W2, hst, hv2, hg2⟩ := val_over (x' := .int .u64 0) (y' := _) hv1 rfl hO1.one
        have hT2 := hT1.grown_ne hv1 (noB2 (by simp) (by simp)) (by have := H.out.2.2.2.2.2.2; omega) hg2
        have hO2 := (hO1.lower (b := w.heap.size) (by have := H.out.2.2.2.2.2.2; omega)).kept hg2 (hO1.apart hv1 (by decide))
        have HST := Aside0.mk hst
        have HF := Aside0.mk (And.intro hv2 (And.intro hT2 (And.intro (grown2 (grown0_any H.out.2.2.2.2.2.1 (some g)) hg1 hg2 (by omega)) hO2)))
        clear hT1 hg1 hv1 hst hv2 hg2 hT2 HN hO1 hO2
        go_wp2_with ((with_reducible refine gate_store (t := 40) rfl ?_); refine event_skip rfl (exec_store rfl rfl rfl HST.out) ?_)
        exact bodyPost_ret (results_val rfl _ _ (w.heap.size + 1) rfl HF.out.1) rfl (PPost.yes HR.out rfl HF.out.2.2.2 HF.out.2.1 HF.out.2.2.1)
      · have HR : Aside0 ((pieceR xs at_ 1 s).1 = wantN xs at_ s) := ⟨by rw [pieceR, if_neg (by decide), if_pos rfl, if_neg hw]⟩
        have HN := Aside0.mk (bytes_no g A c xs at_ s W H.out.2.2.2.1 hw)
        have HW := Aside0.mk hw
        clear hw
        go_wp2_with fail
        refine HN.out.mono ?_
        rintro e w1 ⟨rfl, ⟨n, rfl⟩⟩
        refine ⟨rfl, PPost.no HR.out HW.out rfl (H.out.2.2.2.1.drewN n) ?_⟩
        exact H.out.2.2.2.2.2.1.trans (grown_drewN W n none)
    · have q1 : (k == 1) = false := by simpa using k1
      have HK1 := Aside0.mk k1
      clear k1
      by_cases k2 : k = 2
      · subst k2
        by_cases hw : wantN xs at_ s = 0
        · obtain ⟨n, hsn, hn⟩ := wantN_zero hw
          have HR : Aside0 (pieceR xs at_ 2 s = (0, 0, [], at_ + n)) := ⟨by subst hsn; rw [pieceR, if_neg (by decide), if_neg (by decide), if_pos rfl, if_pos hw]; simp⟩
          subst hsn
          have HN := Aside0.mk (bytes_yes g A c xs at_ n W H.out.2.2.2.1 (hn H.out.2.2.2.1.le) (by have := hn H.out.2.2.2.1.le; have := H.out.2.1; omega))
          generalize (xs.drop at_).take n = B at *
          clear hw hn
          go_wp2_with fail
          refine HN.out.mono ?_
          rintro e w1 ⟨v, rfl, -, hT1, hg1⟩
          have hv1 := blk_grown H.out.2.2.2.2.1 hg1 (by have := H.out.2.2.2.2.2.2; simp; omega)
          obtain ⟨W2, hst, hv2, hg2⟩ := val_over (x' := .int .u64 0) (y' := .slice none 0 0) hv1 rfl rfl
          have hT2 := hT1.grown_ne hv1 (noB2 (by simp) (by simp)) (by have := H.out.2.2.2.2.2.2; omega) hg2
          have HST := Aside0.mk hst
          have HF := Aside0.mk (And.intro hv2 (And.intro hT2 (grown2 (grown0_any H.out.2.2.2.2.2.1 (some g)) hg1 hg2 (by omega))))
          clear hT1 hg1 hv1 hst hv2 hg2 hT2 HN
          go_wp2_with ((with_reducible refine gate_store (t := 40) rfl ?_); refine event_skip rfl (exec_store rfl rfl rfl HST.out) ?_)
          exact bodyPost_ret (results_val rfl _ _ (w.heap.size + 1) rfl HF.out.1) rfl (PPost.yes HR.out rfl (Owns.nil _ _) HF.out.2.1 HF.out.2.2)
        · have HR : Aside0 ((pieceR xs at_ 2 s).1 = wantN xs at_ s) := ⟨by rw [pieceR, if_neg (by decide), if_neg (by decide), if_pos rfl, if_neg hw]⟩
          have HN := Aside0.mk (bytes_no g A c xs at_ s W H.out.2.2.2.1 hw)
          have HW := Aside0.mk hw
          clear hw
          go_wp2_with fail
          refine HN.out.mono ?_
          rintro e w1 ⟨rfl, ⟨n, rfl⟩⟩
          refine ⟨rfl, PPost.no HR.out HW.out rfl (H.out.2.2.2.1.drewN n) ?_⟩
          exact H.out.2.2.2.2.2.1.trans (grown_drewN W n none)
      · have q2 : (k == 2) = false := by simpa using k2
        have HK2 := Aside0.mk k2
        clear k2
        by_cases k3 : k = 3
        · subst k3
          by_cases hw : wantN xs at_ s = 0
          · obtain ⟨n, hsn, hn⟩ := wantN_zero hw
            subst hsn
            have HN := Aside0.mk (zero_yes g A c xs at_ n W H.out.2.2.2.1 (hn H.out.2.2.2.1.le))
            by_cases hz : ((xs.drop at_).take n).all (· == 0) = true
            · have HR : Aside0 (pieceR xs at_ 3 (n : Int) = (0, 0, [], at_ + n)) := ⟨by rw [pieceR, if_neg (by decide), if_neg (by decide), if_neg (by decide), if_pos rfl, if_pos hw]; simp only [Int.toNat_natCast]; rw [if_pos hz]⟩
              have HZ : Aside0 (∀ e w1, ZPost g A c xs at_ n W e w1 → e = .returned (.tuple #[]) ∧ Tape w1 g A c xs (at_ + n) ∧ W.grownBy w1 (some g)) := ⟨fun e w1 h => by unfold ZPost at h; rwa [if_pos hz] at h⟩
              clear hw hn hz
              go_wp2_with fail
              refine HN.out.mono ?_
              rintro e w1 hp
              obtain ⟨rfl, hT1, hg1⟩ := HZ.out e w1 hp
              have hv1 := blk_grown H.out.2.2.2.2.1 hg1 (by have := H.out.2.2.2.2.2.2; simp; omega)
              obtain ⟨W2, hst, hv2, hg2⟩ := val_over (x' := .int .u64 0) (y' := .slice none 0 0) hv1 rfl rfl
              have hT2 := hT1.grown_ne hv1 (noB2 (by simp) (by simp)) (by have := H.out.2.2.2.2.2.2; omega) hg2
              have HST := Aside0.mk hst
              have HF := Aside0.mk (And.intro hv2 (And.intro hT2 (grown2 (grown0_any H.out.2.2.2.2.2.1 (some g)) hg1 hg2 (by omega))))
              clear hT1 hg1 hv1 hst hv2 hg2 hT2 HN hp HZ
              go_wp2_with ((with_reducible refine gate_store (t := 40) rfl ?_); refine event_skip rfl (exec_store rfl rfl rfl HST.out) ?_)
              exact bodyPost_ret (results_val rfl _ _ (w.heap.size + 1) rfl HF.out.1) rfl (PPost.yes HR.out rfl (Owns.nil _ _) HF.out.2.1 HF.out.2.2)
            · have HR : Aside0 ((pieceR xs at_ 3 (n : Int)).1 = 11) := ⟨by rw [pieceR, if_neg (by decide), if_neg (by decide), if_neg (by decide), if_pos rfl, if_pos hw]; simp only [Int.toNat_natCast]; rw [if_neg hz]⟩
              have HZ : Aside0 (∀ e w1, ZPost g A c xs at_ n W e w1 → e = stops 11 ∧ Drawn0 W w1) := ⟨fun e w1 h => by unfold ZPost at h; rwa [if_neg hz] at h⟩
              clear hw hn hz
              go_wp2_with fail
              refine HN.out.mono ?_
              rintro e w1 hp
              obtain ⟨rfl, ⟨m, rfl⟩⟩ := HZ.out e w1 hp
              refine ⟨rfl, PPost.no HR.out (by decide) rfl (H.out.2.2.2.1.drewN m) ?_⟩
              exact H.out.2.2.2.2.2.1.trans (grown_drewN W m none)
          · have HR : Aside0 ((pieceR xs at_ 3 s).1 = wantN xs at_ s) := ⟨by rw [pieceR, if_neg (by decide), if_neg (by decide), if_neg (by decide), if_pos rfl, if_neg hw]⟩
            have HN := Aside0.mk (zero_no g A c xs at_ s W H.out.2.2.2.1 hw)
            have HW := Aside0.mk hw
            clear hw
            go_wp2_with fail
            refine HN.out.mono ?_
            rintro e w1 ⟨rfl, ⟨n, rfl⟩⟩
            refine ⟨rfl, PPost.no HR.out HW.out rfl (H.out.2.2.2.1.drewN n) ?_⟩
            exact H.out.2.2.2.2.2.1.trans (grown_drewN W n none)
        · have q3 : (k == 3) = false := by simpa using k3
          have HK3 := Aside0.mk k3
          clear k3
          by_cases k4 : k = 4
          · subst k4
            by_cases hs0 : s = 0
            · subst hs0
              have HR : Aside0 (pieceR xs at_ 4 0 = (0, 0, xs.drop at_, xs.length)) := ⟨by rw [pieceR, if_neg (by decide), if_neg (by decide), if_neg (by decide), if_neg (by decide), if_pos ⟨rfl, rfl⟩]⟩
              have hle := H.out.2.2.2.1.le
              have qs : ((0 : Int) == 0) = true := rfl
              obtain ⟨c0, c1⟩ := H.out.2.2.2.1.drew.cells
              have hsub : IntKind.i64.wrap ((xs.length : Int) - (at_ : Int)) = (xs.length : Int) - (at_ : Int) := IntWalk.i64_in _ (by have := H.out.2.1; omega)
              have HN := Aside0.mk (bytes_yes g A c xs at_ (xs.length - at_) W.drew H.out.2.2.2.1.drew (by omega) (by have := H.out.2.1; omega))
              rw [show ((xs.length - at_ : Nat) : Int) = (xs.length : Int) - (at_ : Int) by omega] at HN
              have HTK : Aside0 ((xs.drop at_).take (xs.length - at_) = xs.drop at_) := ⟨List.take_of_length_le (by simp)⟩
              rw [HTK.out, show at_ + (xs.length - at_) = xs.length by omega] at HN
              have hBl : (xs.drop at_).length ≤ 9223372036854775807 := by have := H.out.2.1; simp; omega
              have HV := Aside0.mk (blk_drew H.out.2.2.2.2.1)
              have HG := Aside0.mk (H.out.2.2.2.2.2.1.trans (show W.grownBy W.drew none from ⟨rfl, rfl, rfl, Nat.le_refl _, fun _ _ _ => rfl⟩))
              have HS : Aside0 (g < w.heap.size ∧ W.drew.heap.size = w.heap.size + 2) := ⟨H.out.2.2.2.2.2.2⟩
              have hle2 : (at_ : Int) ≤ (xs.length : Int) := by omega
              clear HTK
              go_upto_region 14 with fail
              refine RegionF.region_F (F := (fun X => X = W.drew)) 11 (by kernel_rfl) (by kernel_rfl) rfl ?_
              simp only [List.take_succ_cons, List.take_zero, List.drop_succ_cons, List.drop_zero]
              generalize W.drew = Y at *
              apply RegionF.wpF_step
              · rfl
              · (intro X hX; subst hX; go_simp; exact RegionF.GivesF.value rfl rfl)
              refine RegionF.wpF_put (fun K' hK' => ?_)
              go_simp
              refine hK' _ ?_
              clear hK' K'
              apply RegionF.wpF_step
              · rfl
              · (intro X hX; subst hX; go_simp; exact RegionF.GivesF.value rfl rfl)
              refine RegionF.wpF_put (fun K' hK' => ?_)
              go_simp
              refine hK' _ ?_
              clear hK' K'
              apply RegionF.wpF_step
              · rfl
              · (intro X hX; subst hX; go_simp; exact RegionF.GivesF.value rfl rfl)
              refine RegionF.wpF_put (fun K' hK' => ?_)
              go_simp
              refine hK' _ ?_
              clear hK' K'
              apply RegionF.wpF_step
              · rfl
              · (intro X hX; subst hX; go_simp; exact RegionF.GivesF.value rfl rfl)
              refine RegionF.wpF_put (fun K' hK' => ?_)
              go_simp
              refine hK' _ ?_
              clear hK' K'
              apply RegionF.wpF_step
              · rfl
              · (intro X hX; subst hX; go_simp; exact RegionF.GivesF.value rfl rfl)
              refine RegionF.wpF_put (fun K' hK' => ?_)
              go_simp
              refine hK' _ ?_
              clear hK' K'
              apply RegionF.wpF_step
              · rfl
              · (intro X hX; subst hX; go_simp; exact RegionF.GivesF.value rfl rfl)
              refine RegionF.wpF_put (fun K' hK' => ?_)
              go_simp
              refine hK' _ ?_
              clear hK' K'
              apply RegionF.wpF_step
              · rfl
              · (intro X hX; subst hX; go_simp; exact RegionF.GivesF.value rfl rfl)
              refine RegionF.wpF_put (fun K' hK' => ?_)
              go_simp
              refine hK' _ ?_
              clear hK' K'
              apply RegionF.wpF_step
              · rfl
              · (intro X hX; subst hX; go_simp; exact RegionF.GivesF.value rfl rfl)
              refine RegionF.wpF_put (fun K' hK' => ?_)
              go_simp
              refine hK' _ ?_
              clear hK' K'
              apply RegionF.wpF_step
              · rfl
              · (intro X hX; subst hX; go_simp; exact RegionF.GivesF.value rfl rfl)
              refine RegionF.wpF_put (fun K' hK' => ?_)
              go_simp
              refine hK' _ ?_
              clear hK' K'
              apply RegionF.wpF_step
              · rfl
              · (intro X hX; subst hX; go_simp; exact RegionF.GivesF.value rfl rfl)
              refine RegionF.wpF_put (fun K' hK' => ?_)
              go_simp
              refine hK' _ ?_
              clear hK' K'
              apply RegionF.wpF_step
              · rfl
              · (intro X hX; subst hX; go_simp; exact RegionF.GivesF.value rfl rfl)
              refine RegionF.wpF_put (fun K' hK' => ?_)
              go_simp
              refine hK' _ ?_
              clear hK' K'
              refine RegionF.wpF_nil (fun X hX => ?_)
              subst hX
              generalize xs.drop at_ = B at *
              go_wp2_with fail
              refine HN.out.mono ?_
              rintro e w1 ⟨v, rfl, hO1, hT1, hg1⟩
              obtain ⟨B1, e1, rfl, -, -⟩ := hO1.reads hBl
              have hv1 := blk_grown HV.out hg1 (by have := HS.out; simp; omega)
              obtain ⟨W2, hst, hv2, hg2⟩ := val_over (x' := .int .u64 0) (y' := _) hv1 rfl hO1.one
              have hT2 := hT1.grown_ne hv1 (noB2 (by simp) (by simp)) (by have := HS.out; omega) hg2
              have hO2 := (hO1.lower (b := w.heap.size) (by have := HS.out; omega)).kept hg2 (hO1.apart hv1 (by decide))
              have HST := Aside0.mk hst
              have HF := Aside0.mk (And.intro hv2 (And.intro hT2 (And.intro (grown2 (grown0_any HG.out (some g)) hg1 hg2 (by omega)) hO2)))
              clear hT1 hg1 hv1 hst hv2 hg2 hT2 HN hO1 hO2
              go_wp2_with ((with_reducible refine gate_store (t := 40) rfl ?_); refine event_skip rfl (exec_store rfl rfl rfl HST.out) ?_)
              exact bodyPost_ret (results_val rfl _ _ (w.heap.size + 1) rfl HF.out.1) rfl (PPost.yes HR.out rfl HF.out.2.2.2 HF.out.2.1 HF.out.2.2.1)
            · have HR : Aside0 ((pieceR xs at_ 4 s).1 = 1) := ⟨by rw [pieceR, if_neg (by decide), if_neg (by decide), if_neg (by decide), if_neg (by decide), if_neg (fun h => hs0 h.2)]⟩
              have qs : (s == 0) = false := by simpa using hs0
              clear hs0
              go_wp2_with fail
              exact ⟨rfl, PPost.no HR.out (by decide) rfl H.out.2.2.2.1 H.out.2.2.2.2.2.1⟩
          · have q4 : (k == 4) = false := by simpa using k4
            have HR : Aside0 ((pieceR xs at_ k s).1 = 1) := ⟨by rw [pieceR, if_neg HK0.out, if_neg HK1.out, if_neg HK2.out, if_neg HK3.out, if_neg (fun h => k4 h.1)]⟩
            clear k4
            go_wp2_with fail
            exact ⟨rfl, PPost.no HR.out (by decide) rfl H.out.2.2.2.1 H.out.2.2.2.2.2.1⟩
end Go.Proofs.Ytcmibbhfocfccaa.Cur
