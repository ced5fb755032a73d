/- CurT: CurD, CurW5. -/
import Derived.Test.YtjidoedlmpjmnaaProg
import Derived.Test.YtjidoedlmpjmnaaWMore
import Derived.Test.YtjidoedlmpjmnaaWGuard
import Derived.Test.YtjidoedlmpjmnaaBase
import Derived.Test.YtjidoedlmpjmnaaBits
import Derived.Test.YtjidoedlmpjmnaaCurQ
import Derived.Deep.RegionHeld3
import Derived.Deep.CutRange
import Derived.WalkLawsBesides
import Derived.IntWalk
import Derived.Deep.Slices
import Derived.Deep.QuietTactic
import Derived.BigQuiet
import Derived.Test.YtjidoedlmpjmnaaWApart
import Derived.Defers
import Derived.Recover
import Derived.Laws.Pointers
namespace Go.Proofs.Ytjidoedlmpjmnaa.Cur
open Go.RowKit Go.Proofs.Ytjidoedlmpjmnaa.Segs Go.Proofs.Ytjidoedlmpjmnaa.Own Go.Proofs.Ytjidoedlmpjmnaa.CurP Go.Proofs.Ytjidoedlmpjmnaa.Mem Go.Proofs.Ytjidoedlmpjmnaa.Bits Go.Proofs.Ytjidoedlmpjmnaa.Help Go.Proofs.YtjidoedlmpjmnaaW.PrintWords Go.Proofs.YtjidoedlmpjmnaaW.PrintLast Go.Proofs.YtjidoedlmpjmnaaW.PrintMore
set_option linter.unusedVariables false
set_option linter.unusedSimpArgs false
/-- Somebody gives up, and why. -/
def stopV (k : Int) : Value := .iface 71 (.agg #[.int .i64 k])
def stops (k : Int) : Ending := .panicked [{ v := stopV k, recovered := false }]
theorem C_zero (w : World) (A : Option Addr) : Kd.C (Kd.int .u8) w A 0 [] :=
  Kd.C_of_reads (d := (0 : Int)) (h1 := fun _ => rfl) ⟨rfl, by simp, fun h => absurd h (by simp)⟩
/-- A part of bytes that are read. -/
theorem C_cut {w : World} {A : Option Addr} {xs : List Int} (h : Kd.C (Kd.int .u8) w A xs.length xs) (k n : Nat) (hn : k + n ≤ xs.length) : Kd.C (Kd.int .u8) w (A.map (·.add k)) n ((xs.drop k).take n) := by
  have hl : ((xs.drop k).take n).length = n := by simp; omega
  rcases Nat.eq_zero_or_pos n with rfl | hp
  · rw [List.take_zero]; exact C_zero _ _
  · obtain ⟨h1, h2, h3⟩ := Kd.reads_of_C (d := (0 : Int)) h
    obtain ⟨ad, rfl, hc⟩ := h3 (by omega)
    refine Kd.C_of_reads (d := (0 : Int)) (h1 := fun _ => rfl) ⟨by rw [hl], by omega, fun _ => ⟨_, rfl, fun j hj => ?_⟩⟩
    have := hc (k + j) (by omega)
    rw [Deep.add_add, this]
    simp [List.getD_eq_getElem?_getD, List.getElem?_take, hj]
theorem C_setCell {W : World} {A p : Option Addr} {q : Addr} {n : Nat} {xs : List Int} {y v : Value} (hc : W.cell? q = some y) (hy : ∀ x, y ≠ .int .u8 x) (h : Kd.C (Kd.int .u8) W A n xs) : Kd.C (Kd.int .u8) (W.setCell q v) A n xs := by
  obtain ⟨h1, h2, h3⟩ := Kd.reads_of_C (d := (0 : Int)) h
  refine Kd.C_of_reads (d := (0 : Int)) (h1 := fun _ => rfl) ⟨h1, h2, fun hp => ?_⟩
  obtain ⟨ad, rfl, hcl⟩ := h3 hp
  refine ⟨ad, rfl, fun j hj => ?_⟩
  have hj1 := hcl j hj
  rw [World.cell?_setCell_other]
  · exact hj1
  · intro e
    rw [← e, hc] at hj1
    exact hy _ (Option.some.inj hj1)
theorem grown_drewN (w : World) (n : Nat) (row : Option Nat) : w.grownBy (w.drewN n) row := ⟨rfl, rfl, rfl, Nat.le_refl _, fun _ _ _ => rfl⟩
theorem grown0_any {w w1 : World} (h : w.grownBy w1 none) (row : Option Nat) : w.grownBy w1 row := ⟨h.os, h.tape, h.output, h.size, fun k hk _ => h.block k hk (by simp)⟩
theorem below_grown0 {w w1 : World} (h : w.grownBy w1 none) : Below w.heap.size w w1 := ⟨h.os, h.tape, h.output, h.size, fun k hk => h.block k hk (by simp)⟩
theorem take_snoc {l : List Int} {i : Nat} (h : i < l.length) : l.take (i + 1) = l.take i ++ [l.getD i 0] := by
  rw [List.take_succ_eq_append_getElem h, List.getD_eq_getElem?_getD, List.getElem?_eq_getElem h]; rfl
/-- A block without bytes. -/
def NoB (cs : Array Value) : Prop := ∀ (j : Nat) (x : Int), cs[j]? ≠ some (.int .u8 x)
theorem C_grown_ne {W W2 : World} {q : Nat} {cs : Array Value} {t : TypeId} {A : Option Addr} {n : Nat} {xs : List Int} (hb : W.heap[q]? = some (.cells cs t (0, 0))) (hn : NoB cs) (hg : W.grownBy W2 (some q)) (h : Kd.C (Kd.int .u8) W A n xs) : Kd.C (Kd.int .u8) W2 A n xs := by
  obtain ⟨h1, h2, h3⟩ := Kd.reads_of_C (d := (0 : Int)) h
  refine Kd.C_of_reads (d := (0 : Int)) (h1 := fun _ => rfl) ⟨h1, h2, fun hp => ?_⟩
  obtain ⟨ad, rfl, hcl⟩ := h3 hp
  refine ⟨ad, rfl, fun j hj => ?_⟩
  have hj1 := hcl j hj
  refine hg.cell hj1 ?_
  intro e
  have e : (ad.add j).block = q := by simpa using e
  have := hj1
  unfold World.cell? at this
  rw [e, hb] at this
  simp only at this
  split at this
  · cases this
  · exact hn _ _ this
theorem noB2 {x y : Value} (hx : ∀ n, x ≠ .int .u8 n) (hy : ∀ n, y ≠ .int .u8 n) : NoB #[x, y] := by
  intro j n h
  match j with
  | 0 => exact hx n (by simpa using h)
  | 1 => exact hy n (by simpa using h)
  | j + 2 => simp at h
theorem infoV : (Try.prog.info? 53).map (·.size) = some 2 := by kernel_rfl
/-- An operation's kind and size, as they lie; a value's number and bytes. -/
def dO : Kd (Int × Int) := Kd.pair (Kd.int .i64) (Kd.int .i64)
def dV : Kd (Int × List Int) := Kd.pair (Kd.int .u64) (Kd.slice 5 (Kd.int .u8))
theorem load_at {P : Program} {W : World} {ty : TypeId} {ad : Addr} {cs : List Value} {d : TypeDesc} {n : Nat} (hc : ∀ j v, cs[j]? = some v → W.cell? (ad.add j) = some v)
    (hu : P.underlying ty = some d) (hd : d.isRow = true) (hi : (P.info? ty).map (·.size) = some n) (hn : cs.length = n) : (loadVar ty ad).run P W = .ok (.agg cs.toArray) W := by
  have hl := run_loadCells_list (P := P) (w := W) ad cs hc
  cases hq : P.info? ty with
  | none => simp [hq] at hi
  | some i =>
    have hs : i.size = cs.length := by rw [hn]; simpa [hq] using hi
    have hg : (isAgg ty).run P W = .ok true W := by
      unfold isAgg
      rw [Sem.run_bind, run_underlying hu W]
      cases d <;> simp_all
    simp [loadVar, Sem.run_bind, hg, sizeOf, typeInfo, hq, hs, hl]
theorem infoO : (Try.prog.info? 68).map (·.size) = some 2 := by kernel_rfl
theorem op_load {w : World} {A : Option Addr} {l : List (Int × Int)} (h : dO.C w A l.length l) (i : Nat) (hi : i < l.length) :
    ∃ ad, A = some ad ∧ (loadVar 68 (ad.add (i * 2))).run Try.prog w = .ok (.agg #[.int .i64 (l.getD i (0, 0)).1, .int .i64 (l.getD i (0, 0)).2]) w := by
  obtain ⟨ad, c, h1, h2, h3, h4⟩ := Kd.C_get h (0, 0) (i : Int) (by omega) (by omega)
  obtain ⟨c0, c1, rfl, h5, h6⟩ := h3
  rw [Int.toNat_natCast] at *
  have h5' : c0 = [.int .i64 (l.getD i (0, 0)).1] := h5
  have h6' : c1 = [.int .i64 (l.getD i (0, 0)).2] := h6
  subst h5' h6'
  refine ⟨ad, h1, load_at (cs := [_, _]) (fun j v hj => ?_) Try.underlying68 rfl infoO rfl⟩
  have := h4 j v hj
  rw [Deep.add_add]
  exact this
/-- A value made from base on. -/
theorem val_M {W : World} {base : Nat} {v : Value} {B : List Int} {N : Int} (h : Owns W base v B) : dV.M W base (fun k => base ≤ k) (N, B) [.int .u64 N, v] :=
  ⟨[.int .u64 N], [v], rfl, rfl, v, rfl, fun k hk => own_base h k hk, _, h, Kd.reps_scalar B⟩
theorem load_one {P : Program} {W : World} {ty : TypeId} {ad : Addr} {v : Value} {d : TypeDesc} (hc : W.cell? ad = some v) (hu : P.underlying ty = some d) (hd : d.isRow = false) : (loadVar ty ad).run P W = .ok v W := by
  have hg : (isAgg ty).run P W = .ok false W := by
    unfold isAgg
    rw [Sem.run_bind, run_underlying hu W]
    cases d <;> simp_all
  simp [loadVar, Sem.run_bind, hg, hc]
theorem _root_.Go.Proofs.Ytjidoedlmpjmnaa.Own.Owns.len63 {w : World} {base : Nat} {v : Value} {xs : List Int} (h : Owns w base v xs) : xs.length ≤ 9223372036854775807 := by
  rcases h.2 with ⟨_, h⟩ | ⟨g, cap, cur, _, _, _, h1, h2, _⟩
  · omega
  · simp only [maxLen] at h2; omega
theorem dPast (j : Nat) (hj : 7 ≤ j) : (j == 5 || j == 6) = false := by simp; omega
theorem info_val : (Try.prog.info? 53).map (fun i => (i.zero, i.size, i.bytes)) = some (some (.agg #[.int .u64 0, .slice none 0 0]), dV.sz, 32) := by kernel_rfl
theorem alloc_size (w : World) (o : Obj) : (w.alloc o).heap.size = w.heap.size + 1 := Array.size_push _
theorem op_cells {w : World} {A : Option Addr} {l : List (Int × Int)} (h : dO.C w A l.length l) (i : Nat) (hi : i < l.length) :
    ∃ ad, A = some ad ∧ w.cell? (ad.add (i * 2)) = some (.int .i64 l[i].1) ∧ w.cell? ⟨(ad.add (i * 2)).block, (ad.add (i * 2)).off + 1, none⟩ = some (.int .i64 l[i].2) := by
  obtain ⟨ad, c, h1, h2, h3, h4⟩ := Kd.C_get h (0, 0) (i : Int) (by omega) (by omega)
  obtain ⟨c0, c1, rfl, h5, h6⟩ := h3
  rw [Int.toNat_natCast] at *
  have hg : l.getD i (0, 0) = l[i] := by rw [List.getD_eq_getElem?_getD, List.getElem?_eq_getElem hi]; rfl
  rw [hg] at h5 h6
  have h5' : c0 = [.int .i64 l[i].1] := h5
  have h6' : c1 = [.int .i64 l[i].2] := h6
  subst h5' h6'
  exact ⟨ad, h1, h4 0 _ rfl, by have := h4 1 _ rfl; rw [← Deep.add_add] at this; exact this⟩
theorem op_M (W : World) (base : Nat) (ok : Nat → Prop) (k s : Int) : dO.M W base ok (k, s) [.int .i64 k, .int .i64 s] := ⟨[_], [_], rfl, rfl, rfl⟩
theorem val_cells {w : World} {A : Option Addr} {l : List (Int × List Int)} (h : dV.C w A l.length l) (i : Nat) (hi : i < l.length) :
    ∃ ad B c, A = some ad ∧ w.cell? (ad.add (i * 2)) = some (.int .u64 l[i].1) ∧ w.cell? ⟨(ad.add (i * 2)).block, (ad.add (i * 2)).off + 1, none⟩ = some (.slice B l[i].2.length c) ∧ l[i].2.length ≤ c ∧ Kd.C (Kd.int .u8) w B l[i].2.length l[i].2 := by
  obtain ⟨ad, c, h1, h2, h3, h4⟩ := Kd.C_get h (0, []) (i : Int) (by omega) (by omega)
  obtain ⟨c0, c1, rfl, h5, h6⟩ := h3
  rw [Int.toNat_natCast] at *
  have hg : l.getD i (0, []) = l[i] := by rw [List.getD_eq_getElem?_getD, List.getElem?_eq_getElem hi]; rfl
  rw [hg] at h5 h6
  have h5' : c0 = [.int .u64 l[i].1] := h5
  obtain ⟨B, c, rfl, h7, h8⟩ := h6
  subst h5'
  exact ⟨ad, B, c, h1, h4 0 _ rfl, by have := h4 1 _ rfl; rw [← Deep.add_add] at this; exact this, h7, h8⟩
end Go.Proofs.Ytjidoedlmpjmnaa.Cur
namespace Go.Proofs.Ytjidoedlmpjmnaa.Cur
open Go.RowKit Go.Proofs.Ytjidoedlmpjmnaa.Segs Go.Proofs.Ytjidoedlmpjmnaa.Own Go.Proofs.Ytjidoedlmpjmnaa.CurP Go.Proofs.Ytjidoedlmpjmnaa.Mem Go.Proofs.Ytjidoedlmpjmnaa.Bits Go.Proofs.Ytjidoedlmpjmnaa.Help Go.Proofs.YtjidoedlmpjmnaaW.PrintWords Go.Proofs.YtjidoedlmpjmnaaW.PrintLast Go.Proofs.YtjidoedlmpjmnaaW.PrintMore
set_option linter.unusedVariables false
set_option linter.unusedSimpArgs false
theorem catch_idle (p : Addr) (w : World) :
    CallsD Try.prog 56 #[.pointer (some p)] .returning w fun e u' w' => e = .returned (.tuple #[]) ∧ u' = .returning ∧ w' = w := by
  refine callsD_of_wpS Try.func56 rfl fun c₀ cs hu => ?_
  apply wpS_seq
  apply wpS_region
  simp [wpOpsS, go_sem, recoverD, hu, Try.ntmps56, Exit.thenS]
  have ht : (#[Value.pointer (some p)] ++ (Array.replicate 11 undef).setIfInBounds 3 (Value.nilIface)) = #[.pointer (some p), undef, undef, undef, Value.nilIface, undef, undef, undef, undef, undef, undef, undef] := rfl
  rw [ht]
  refine wpS_of_wp ?_
  go_wp2_with fail
  cases c₀
  simp_all [bodyPostS, results, Try.results56]
theorem catch_stop (b : Nat) (k x : Int) (older : List PanicEntry) (w : World) (hb : w.heap[b]? = some (.cells #[.int .i64 x] 30 (0, 0))) :
    CallsD Try.prog 56 #[.pointer (some ⟨b, 0, none⟩)] (.panicking ({ v := stopV k, recovered := false } :: older)) w fun e u' w' =>
      e = .returned (.tuple #[]) ∧ u' = .panicking ({ v := stopV k, recovered := true } :: older) ∧ w' = (w.alloc (.cells #[.int .i64 k] 71)).setCell ⟨b, 0, none⟩ (.int .i64 k) := by
  have hc : (w.alloc (.cells #[.int .i64 k] 71)).cell? ⟨b, 0, none⟩ = some (.int .i64 x) := blk_cell (blk_alloc hb _) 0
  have hz : (w.alloc (.cells #[.int .i64 k] 71)).frozen? ⟨b, 0, none⟩ = false := blk_frozen (blk_alloc hb _) 0
  have hta : ∀ w : World, (Instr.typeAssert (.iface 71 (.agg #[.int .i64 k])) 20 71 true).run Try.prog w = .ok (.tuple #[.agg #[.int .i64 k], .bool true]) w := fun w => by kernel_rfl
  refine callsD_of_wpS Try.func56 rfl fun c₀ cs hu => ?_
  apply wpS_seq
  apply wpS_region
  simp [wpOpsS, go_sem, recoverD, hu, Try.ntmps56, Exit.thenS, stopV]
  have ht : (#[Value.pointer (some ⟨b, 0, none⟩)] ++ (Array.replicate 11 undef).setIfInBounds 3 (Value.iface 71 (.agg #[.int .i64 k]))) = #[.pointer (some ⟨b, 0, none⟩), undef, undef, undef, Value.iface 71 (.agg #[.int .i64 k]), undef, undef, undef, undef, undef, undef, undef] := rfl
  rw [ht]
  refine wpS_of_wp ?_
  go_wp2_with fail
  cases c₀
  simp_all [bodyPostS, results, Try.results56]
/-- What try comes to: R says of the world behind what was tried how it ended. -/
theorem try_any (f : FuncId) (caps : Array Value) (w : World) (R : Int → World → Prop)
    (hf : ∀ w : World, (callFunc f caps).run Try.prog w = .ok (.enter f caps) w) (hR : ∀ k W, R k W → W.heap[w.heap.size]? = some (.cells #[.int .i64 0] 30 (0, 0)))
    (h : Calls Try.prog f caps (w.alloc (.cells #[.int .i64 0] 30)) fun e W => (e = .returned (.tuple #[]) ∧ R 0 W) ∨ ∃ k, e = stops k ∧ R k W) :
    Calls Try.prog 41 #[.func (.func f) #[] caps] w fun e w' => ∃ k W, e = .returned (.int .i64 k) ∧ R k W ∧ W.grownBy w' (some w.heap.size) := by
  have hmf : ∀ (fn : Fn) (first cap : Array Value) (w : World), (Instr.makeFunc fn first cap).run Try.prog w = .ok (.func fn first cap) w := fun _ _ _ _ => rfl
  have H := Aside0.mk h
  have HR := Aside0.mk hR
  clear h hR
  go_enter_defers Try.func41, Try.ntmps41
  go_wp2_with fail
  refine H.out.mono ?_
  rintro e W (⟨rfl, hW⟩ | ⟨k, rfl, hW⟩)
  · have hb := HR.out 0 W hW
    have cb := blk_cell hb 0
    have fb := blk_frozen hb 0
    have HW := Aside0.mk (And.intro hW hb)
    clear hW hb
    go_wp2_with fail
    refine leaves_cons (f := 56) (args := #[.pointer (some ⟨w.heap.size, 0, none⟩)]) (by simp) (by simp [go_sem]) ?_
    refine (catch_idle ⟨w.heap.size, 0, none⟩ _).mono ?_
    rintro e u' w'' ⟨rfl, rfl, rfl⟩
    have hcc := blk_cell (blk_set HW.out.2 0 (.int .i64 0)) 0
    have hcc2 : (W.setCell ⟨w.heap.size, 0, none⟩ (.int .i64 0)).cell? ⟨w.heap.size, 0, none⟩ = some (.int .i64 0) := by rw [hcc]; rfl
    have hfin : ∃ W', R 0 W' ∧ W'.grownBy (W.setCell ⟨w.heap.size, 0, none⟩ (.int .i64 0)) (some w.heap.size) := ⟨W, HW.out.1, setCells_grown W w.heap.size [.int .i64 0] 0⟩
    clear hcc cb fb HW
    generalize W.setCell ⟨w.heap.size, 0, none⟩ (.int .i64 0) = Y at *
    simp [Leaves, settle, results, Try.results41, go_sem, hcc2]
    exact hfin
  · have hb := HR.out k W hW
    have HW := Aside0.mk (And.intro hW hb)
    clear hW hb
    unfold stops
    go_wp2_with fail
    refine leaves_cons (f := 56) (args := #[.pointer (some ⟨w.heap.size, 0, none⟩)]) (by simp) (by simp [go_sem]) ?_
    refine (catch_stop w.heap.size k 0 [] _ HW.out.2).mono ?_
    rintro e u' w'' ⟨rfl, rfl, rfl⟩
    have hcc := blk_cell (blk_set (blk_alloc HW.out.2 (.cells #[.int .i64 k] 71)) 0 (.int .i64 k)) 0
    have hcc2 : ((W.alloc (.cells #[.int .i64 k] 71)).setCell ⟨w.heap.size, 0, none⟩ (.int .i64 k)).cell? ⟨w.heap.size, 0, none⟩ = some (.int .i64 k) := by rw [hcc]; rfl
    have hfin : ∃ W', R k W' ∧ W'.grownBy ((W.alloc (.cells #[.int .i64 k] 71)).setCell ⟨w.heap.size, 0, none⟩ (.int .i64 k)) (some w.heap.size) := ⟨W, HW.out.1, (World.grownBy_alloc W _ _).trans (setCells_grown _ w.heap.size [.int .i64 k] 0)⟩
    clear hcc HW
    generalize (W.alloc (.cells #[.int .i64 k] 71)).setCell ⟨w.heap.size, 0, none⟩ (.int .i64 k) = Y at *
    simp [Leaves, settle, results, Try.results41, go_sem, hcc2]
    exact hfin
end Go.Proofs.Ytjidoedlmpjmnaa.Cur
