/- AddrL: AddrEq, AddrM, AddrW1, AddrW2, AddrW3, AddrW7. -/
import Derived.Test.YtjidoedlmpjmnaaProg
import Derived.Test.YtjidoedlmpjmnaaArrEq
import Derived.Test.YtjidoedlmpjmnaaBase
import Derived.Test.YtjidoedlmpjmnaaBits
import Derived.Test.YtjidoedlmpjmnaaWMore
import Derived.Deep.RegionHeld3
import Derived.Deep.CutRange
import Derived.Deep.RegionLaw
import Derived.Laws.ResultCell
namespace Go.Proofs.Ytjidoedlmpjmnaa.AddrEq
open Go.RowKit Go.Proofs.Ytjidoedlmpjmnaa.ArrEq Go.Proofs.YtjidoedlmpjmnaaW.PrintWords
set_option linter.unusedVariables false
set_option linter.unusedSimpArgs false
theorem part_u8 (cs : Array Value) (i : Nat) (v : Value) (w : World) (h : cs[i]? = some v) : (part 5 cs (i * 1)).run Try.prog w = .ok v w := by
  have hu := Try.underlying5
  rw [Nat.mul_one]
  simp [part, isAgg, run_underlying hu, h, go_sem]
theorem eq_u8 (d : Nat) (a b : Int) (w : World) : (Op.equalIn (d + 1) 5 (.int .u8 a) (.int .u8 b)).run Try.prog w = .ok (a == b) w := by
  have hu := Try.underlying5
  simp [Op.equalIn, run_underlying hu, go_sem]
theorem eqItems_u8 (d : Nat) (xs ys : List Int) (w : World) : ∀ (is : List Nat), (∀ i ∈ is, i < xs.length ∧ i < ys.length) →
    (Op.eqItems (d + 1) 5 1 (nums .u8 xs).toArray (nums .u8 ys).toArray is).run Try.prog w = .ok (is.all fun i => xs.getD i 0 == ys.getD i 0) w := by
  intro is
  induction is with
  | nil => intro _; simp [Op.eqItems]
  | cons i is ih =>
    intro h
    obtain ⟨h1, h2⟩ := h i List.mem_cons_self
    rw [List.all_cons]
    refine eqi_cons (part_u8 _ i (.int .u8 (xs.getD i 0)) w ?_) (part_u8 _ i (.int .u8 (ys.getD i 0)) w ?_) (eq_u8 d _ _ w) (ih fun j hj => h j (List.mem_cons_of_mem _ hj))
    · simp [nums, List.getElem?_eq_getElem h1, List.getD_eq_getElem?_getD]
    · simp [nums, List.getElem?_eq_getElem h2, List.getD_eq_getElem?_getD]
theorem all_eq {n : Nat} {xs ys : List Int} (hx : xs.length = n) (hy : ys.length = n) : ((List.range n).all fun i => xs.getD i 0 == ys.getD i 0) = decide (xs = ys) := by
  rw [Bool.eq_iff_iff, List.all_eq_true, decide_eq_true_iff]
  constructor
  · intro h
    apply List.ext_getElem (by omega)
    intro i h1 h2
    have := h i (List.mem_range.2 (by omega))
    simpa [List.getD_eq_getElem?_getD, List.getElem?_eq_getElem h1, List.getElem?_eq_getElem h2] using this
  · rintro rfl i _
    simp
theorem eq_b16 (d : Nat) {xs ys : List Int} (hx : xs.length = 16) (hy : ys.length = 16) (w : World) :
    (Op.equalIn (d + 2) 22 (.agg (nums .u8 xs).toArray) (.agg (nums .u8 ys).toArray)).run Try.prog w = .ok (decide (xs = ys)) w := by
  have hc : Try.prog.cellsOf 5 = 1 := by kernel_rfl
  have hi : (Try.prog.info? 5).isSome = true := by kernel_rfl
  refine eqArr_of (d := d + 1) (List.range 16) Try.underlying22 hi hc rfl ?_
  rw [eqItems_u8 d xs ys w _ (fun i hi => by have := List.mem_range.1 hi; omega), all_eq hx hy]
theorem exec_eql {P : Program} {o : Oper} {a : Act} {W : World} {x y : Operand} {t u : TypeId} {cs ds : Array Value} {b : Bool} (hg : P.eqGuardType P.depth t = false) (ho : o.op = .binOp .eql t x y u) (hx : a.eval x = .agg cs) (hy : a.eval y = .agg ds)
    (h : (Op.equalIn 10000 t (.agg cs) (.agg ds)).run P W = .ok b W) : (execOp a.eval o).run P W = .ok (.value (.bool b)) W := by
  simp only [execOp, ho, hx, hy, Sem.run_bind, run_eqGuard_agg _ _ _ _ _ _ _ hg, run_eql_struct, h, Result.andThen_ok, Sem.run_pure]
theorem exec_neq {P : Program} {o : Oper} {a : Act} {W : World} {x y : Operand} {t u : TypeId} {cs ds : Array Value} {b : Bool} (hg : P.eqGuardType P.depth t = false) (ho : o.op = .binOp .neq t x y u) (hx : a.eval x = .agg cs) (hy : a.eval y = .agg ds)
    (h : (Op.equalIn 10000 t (.agg cs) (.agg ds)).run P W = .ok b W) : (execOp a.eval o).run P W = .ok (.value (.bool (!b))) W := by
  simp only [execOp, ho, hx, hy, Sem.run_bind, run_eqGuard_agg _ _ _ _ _ _ _ hg, run_neq_struct, h, Result.andThen_ok, Sem.run_pure]
end Go.Proofs.Ytjidoedlmpjmnaa.AddrEq
namespace Go.Proofs.Ytjidoedlmpjmnaa.AddrM
open Go.RowKit Go.Proofs.Ytjidoedlmpjmnaa.Bits
set_option linter.unusedVariables false
set_option linter.unusedSimpArgs false
def bitN (b : Int) (r : Nat) : Int := bits .and .u8 (b / 2 ^ (7 - r)) 1
/-- The first k bits of a byte. -/
def bm (b : Int) (k : Nat) : Int := b - b % 2 ^ (8 - k)
def AllB (bs : List Int) : Prop := ∀ x ∈ bs, 0 ≤ x ∧ x < 256
instance (bs : List Int) : Decidable (AllB bs) := by unfold AllB; infer_instance
def maskL (bs : List Int) (n : Nat) : List Int := (List.range 16).map fun j => bm (bs.getD j 0) (n - 8 * j)
theorem getD_b {bs : List Int} (h : AllB bs) (j : Nat) : 0 ≤ bs.getD j 0 ∧ bs.getD j 0 < 256 := by
  rw [List.getD_eq_getElem?_getD]
  rcases Nat.lt_or_ge j bs.length with hj | hj
  · rw [List.getElem?_eq_getElem hj]; exact h _ (List.getElem_mem hj)
  · rw [List.getElem?_eq_none hj]; exact ⟨Int.le_refl _, by decide⟩
theorem byte_of {b : Int} (h : 0 ≤ b ∧ b < 256) : ∃ x : Fin 256, b = (x.val : Int) := ⟨⟨b.toNat, by omega⟩, by simp; omega⟩
theorem bm_zero {b : Int} (h : 0 ≤ b ∧ b < 256) : bm b 0 = 0 := by unfold bm; omega
theorem bm_full (b : Int) {k : Nat} (hk : 8 ≤ k) : bm b k = b - 0 := by unfold bm; rw [show 8 - k = 0 by omega]; simp
theorem bm_all (b : Int) {k : Nat} (hk : 8 ≤ k) : bm b k = b := by rw [bm_full b hk]; omega
theorem bm_cap (b : Int) (k : Nat) : bm b k = bm b (min k 8) := by
  rcases Nat.lt_or_ge k 8 with h | h
  · rw [Nat.min_eq_left (by omega)]
  · rw [Nat.min_eq_right h, bm_all b h, bm_all b (Nat.le_refl _)]
theorem bm_in0 : ∀ b : Fin 256, ∀ r : Fin 9, 0 ≤ bm (b.val : Int) r.val ∧ bm (b.val : Int) r.val < 256 := by decide +kernel
theorem bm_in {b : Int} (h : 0 ≤ b ∧ b < 256) (k : Nat) : 0 ≤ bm b k ∧ bm b k < 256 := by
  obtain ⟨x, rfl⟩ := byte_of h
  rw [bm_cap]
  exact bm_in0 x ⟨min k 8, by omega⟩
theorem or_step : ∀ b : Fin 256, ∀ r : Fin 8, bits .or .u8 (bm (b.val : Int) r.val) (IntKind.u8.wrap (bitN (b.val : Int) r.val * 2 ^ (7 - r.val))) = bm (b.val : Int) (r.val + 1) := by decide +kernel
theorem not_step : ∀ b : Fin 256, ∀ r : Fin 8, bits .andNot .u8 (b.val : Int) (255 / 2 ^ r.val) = bm (b.val : Int) r.val := by decide +kernel
theorem bm_bm0 : ∀ b : Fin 256, ∀ r : Fin 9, ∀ s : Fin 9, bm (bm (b.val : Int) r.val) s.val = bm (b.val : Int) (min r.val s.val) := by decide +kernel
theorem bm_bm {b : Int} (h : 0 ≤ b ∧ b < 256) (r s : Nat) : bm (bm b r) s = bm b (min r s) := by
  obtain ⟨x, rfl⟩ := byte_of h
  rw [bm_cap _ r, bm_cap _ s, bm_cap _ (min r s)]
  have := bm_bm0 x ⟨min r 8, by omega⟩ ⟨min s 8, by omega⟩
  simp only at this
  rw [this]
  congr 1
  omega
/-- An address that is well formed. -/
structure OkA (bs : List Int) : Prop where
  l : bs.length = 16
  a : AllB bs
theorem mask_len (bs : List Int) (n : Nat) : (maskL bs n).length = 16 := by simp [maskL]
theorem mask_getD (bs : List Int) (n : Nat) {j : Nat} (hj : j < 16) : (maskL bs n).getD j 0 = bm (bs.getD j 0) (n - 8 * j) := by
  simp [maskL, List.getD_eq_getElem?_getD, hj]
theorem list_ext {xs ys : List Int} (hx : xs.length = 16) (hy : ys.length = 16) (h : ∀ j, j < 16 → xs.getD j 0 = ys.getD j 0) : xs = ys := by
  apply List.ext_getElem (by omega)
  intro i h1 h2
  have := h i (by omega)
  simpa [List.getD_eq_getElem?_getD, List.getElem?_eq_getElem h1, List.getElem?_eq_getElem h2] using this
theorem mask_all {bs : List Int} (h : AllB bs) (n : Nat) : AllB (maskL bs n) := by
  intro x hx
  simp only [maskL, List.mem_map, List.mem_range] at hx
  obtain ⟨j, _, rfl⟩ := hx
  exact bm_in (getD_b h j) _
theorem mask_zero {bs : List Int} (h : AllB bs) : maskL bs 0 = List.replicate 16 0 := by
  refine list_ext (mask_len _ _) (by simp) fun j hj => ?_
  rw [mask_getD _ _ hj, Nat.zero_sub, bm_zero (getD_b h j)]
  rw [List.getD_eq_getElem?_getD, List.getElem?_replicate]
  split <;> rfl
theorem mask_full {bs : List Int} (hl : bs.length = 16) {n : Nat} (hn : 128 ≤ n) : maskL bs n = bs := by
  refine list_ext (mask_len _ _) hl fun j hj => ?_
  rw [mask_getD _ _ hj, bm_all _ (by omega)]
theorem mask_mask {bs : List Int} (h : AllB bs) (n m : Nat) : maskL (maskL bs n) m = maskL bs (min n m) := by
  refine list_ext (mask_len _ _) (mask_len _ _) fun j hj => ?_
  rw [mask_getD _ _ hj, mask_getD _ _ hj, mask_getD _ _ hj, bm_bm (getD_b h j)]
  congr 1
  omega
theorem getD_set (xs : List Int) (i : Nat) (x : Int) (j : Nat) : (xs.set i x).getD j 0 = if i = j ∧ i < xs.length then x else xs.getD j 0 := by
  simp only [List.getD_eq_getElem?_getD, List.getElem?_set]
  by_cases h : i = j
  · subst h
    by_cases hi : i < xs.length
    · simp [hi]
    · simp [hi]
  · simp [h]
theorem mask_succ {bs : List Int} (h : AllB bs) (i : Nat) (hi : i < 128) : (maskL bs i).set (i / 8) (bm (bs.getD (i / 8) 0) (i % 8 + 1)) = maskL bs (i + 1) := by
  refine list_ext (by simp [maskL]) (mask_len _ _) fun j hj => ?_
  rw [getD_set, mask_len, mask_getD _ _ hj, mask_getD _ _ hj]
  by_cases e : i / 8 = j
  · rw [if_pos ⟨e, by omega⟩, ← e]; congr 1; omega
  · rw [if_neg (by omega)]
    rcases Nat.lt_or_ge j (i / 8) with h1 | h1
    · rw [bm_all _ (by omega), bm_all _ (by omega)]
    · congr 1; omega
/-- The whole bytes, and one more. -/
theorem mask_whole {bs : List Int} (h : AllB bs) (hl : bs.length = 16) (q : Nat) (hq : q ≤ 16) : maskL bs (8 * q) = bs.take q ++ List.replicate (16 - q) 0 := by
  refine list_ext (mask_len _ _) (by simp [hl]; omega) fun j hj => ?_
  rw [mask_getD _ _ hj]
  simp only [List.getD_eq_getElem?_getD, List.getElem?_append, List.length_take, hl, Nat.min_eq_left hq]
  by_cases e : j < q
  · rw [if_pos e, bm_all _ (by omega), List.getElem?_take, if_pos e]
  · have hb := getD_b h j
    rw [List.getD_eq_getElem?_getD] at hb
    rw [if_neg e, show 8 * q - 8 * j = 0 by omega, bm_zero hb]
    rw [List.getElem?_replicate]
    split <;> rfl
theorem mask_rest {bs : List Int} (h : AllB bs) (n : Nat) (hn : n < 128) (hr : 0 < n % 8) : (maskL bs (8 * (n / 8))).set (n / 8) (bm (bs.getD (n / 8) 0) (n % 8)) = maskL bs n := by
  refine list_ext (by simp [maskL]) (mask_len _ _) fun j hj => ?_
  rw [getD_set, mask_len, mask_getD _ _ hj, mask_getD _ _ hj]
  by_cases e : n / 8 = j
  · rw [if_pos ⟨e, by omega⟩, ← e]; congr 1; omega
  · rw [if_neg (by omega)]
    rcases Nat.lt_or_ge j (n / 8) with h1 | h1
    · rw [bm_all _ (by omega), bm_all _ (by omega)]
    · congr 1; omega
end Go.Proofs.Ytjidoedlmpjmnaa.AddrM
namespace Go.Proofs.Ytjidoedlmpjmnaa.AddrW
open Go.RowKit Go.Proofs.Ytjidoedlmpjmnaa.Bits Go.Proofs.Ytjidoedlmpjmnaa.Help Go.Proofs.YtjidoedlmpjmnaaW.PrintWords Go.Proofs.YtjidoedlmpjmnaaW.PrintLast Go.Proofs.YtjidoedlmpjmnaaW.PrintMore
set_option linter.unusedVariables false
set_option linter.unusedSimpArgs false
/-- An address' cells. -/
def av (v : Bool) (bs : List Int) : Array Value := (Value.bool v :: nums .u8 bs).toArray
def sz (v : Bool) : Nat := if v then 16 else 4
theorem av_at0 (v : Bool) (bs : List Int) : (av v bs)[0]? = some (.bool v) := rfl
theorem av_at (v : Bool) {bs : List Int} {i : Nat} (h : i < bs.length) : (av v bs)[1 + i]? = some (.int .u8 (bs.getD i 0)) := by
  rw [av, List.getElem?_toArray, Nat.add_comm, List.getElem?_cons_succ]
  simp [nums, List.getElem?_eq_getElem h, List.getD_eq_getElem?_getD]
theorem size_any (v : Bool) (bs : List Int) (w : World) : Calls Try.prog 40 #[.agg (av v bs)] w fun e w' => e = .returned (.int .i64 (sz v : Nat)) ∧ Below w.heap.size w w' := by
  have hc : (w.alloc (.cells (av v bs) 24)).cell? ⟨w.heap.size, 0, none⟩ = some (.bool v) := (blk_cell (blk_new w _) 0).trans (av_at0 v bs)
  go_enter Try.func40, Try.ntmps40
  cases v with
  | true =>
    go_wp2_with fail
    go_ret
    exact ⟨rfl, below_alloc (Below.refl _ _) _⟩
  | false =>
    go_wp2_with fail
    go_ret
    exact ⟨rfl, below_alloc (Below.refl _ _) _⟩
theorem refsize_any (v : Bool) (bs : List Int) (w : World) : Calls Try.prog 50 #[.agg (av v bs)] w fun e w' => e = .returned (.int .i64 (sz v : Nat)) ∧ Below w.heap.size w w' := by
  have hc : (w.alloc (.cells (av v bs) 24)).cell? ⟨w.heap.size, 0, none⟩ = some (.bool v) := (blk_cell (blk_new w _) 0).trans (av_at0 v bs)
  go_enter Try.func50, Try.ntmps50
  cases v with
  | true =>
    go_wp2_with fail
    go_ret
    exact ⟨rfl, below_alloc (Below.refl _ _) _⟩
  | false =>
    go_wp2_with fail
    go_ret
    exact ⟨rfl, below_alloc (Below.refl _ _) _⟩
end Go.Proofs.Ytjidoedlmpjmnaa.AddrW
namespace Go.Proofs.Ytjidoedlmpjmnaa.AddrW
open Go.RowKit Go.Proofs.Ytjidoedlmpjmnaa.Bits Go.Proofs.Ytjidoedlmpjmnaa.Help Go.Proofs.YtjidoedlmpjmnaaW.PrintWords Go.Proofs.YtjidoedlmpjmnaaW.PrintLast Go.Proofs.YtjidoedlmpjmnaaW.PrintMore
set_option linter.unusedVariables false
set_option linter.unusedSimpArgs false
def rightB (v : Bool) (bs : List Int) : Bool := (bs.drop (sz v)).all (· == 0)
theorem sz_le (v : Bool) : sz v ≤ 16 := by cases v <;> decide
theorem info_addr : (Try.prog.info? 24).map (·.size) = some 17 := by kernel_rfl
theorem av_size (v : Bool) {bs : List Int} (h : bs.length = 16) : (av v bs).size = 17 := by simp [av, nums, h]
/-- A load of an address out of its block. -/
theorem load_addr {w : World} {g : Nat} {v : Bool} {bs : List Int} (hl : bs.length = 16) {t : TypeId} (hb : w.heap[g]? = some (.cells (av v bs) t (0, 0))) : (loadVar 24 ⟨g, 0, none⟩).run Try.prog w = .ok (.agg (av v bs)) w :=
  run_loadVar_row w g t 24 (av v bs) (0, 0) _ hb Try.underlying24 rfl (by rw [info_addr, av_size v hl])
theorem refRight_any (v : Bool) (bs : List Int) (w : World) (hl : bs.length = 16) : Calls Try.prog 48 #[.agg (av v bs)] w fun e w' => e = .returned (.bool (rightB v bs)) ∧ Below w.heap.size w w' := by
  have hb := blk_new w (.cells (av v bs) 24)
  have HB := Aside0.mk hb
  have HL := Aside0.mk hl
  have HLD := Aside0.mk (load_addr hl hb)
  clear hl hb
  go_enter Try.func48, Try.ntmps48
  go_wp2_with ((with_reducible refine gate_dst (N := 4) rfl ?_); refine Kd.event_run rfl (exec_load rfl rfl HLD.out) ?_)
  refine (refsize_any v bs _).mono ?_
  rintro e w1 ⟨rfl, hB⟩
  have HB1 := Aside0.mk (blk_below HB.out hB)
  have HW := Aside0.mk (below_step (below_alloc (Below.refl w.heap.size w) _) hB)
  clear HB HLD hB
  go_wp2_with fail
  go_loop [3] (fun v3 => ∃ i : Nat, i ≤ 16 ∧ sz v ≤ i ∧ v3 = .int .i64 (i : Int) ∧ Aside0 (rightB v bs = (bs.drop i).all (· == 0))) (fun v3 => 16 - (intOf v3).toNat)
  case atStart => exact ⟨sz v, sz_le v, Nat.le_refl _, rfl, ⟨rfl⟩⟩
  case round =>
    obtain ⟨i, hi, hs, rfl, HR⟩ := hrel
    by_cases hlt : i < 16
    · have hlen := HL.out
      have hc : w1.cell? ⟨w.heap.size, 1 + i, none⟩ = some (.int .u8 (bs.getD i 0)) := (blk_cell HB1.out _).trans (av_at v (by omega))
      have hd : bs.drop i = bs.getD i 0 :: bs.drop (i + 1) := by
        rw [List.drop_eq_getElem_cons (by omega), List.getD_eq_getElem?_getD, List.getElem?_eq_getElem (by omega)]; rfl
      have HD := Aside0.mk hd
      clear hd hlen
      generalize bs.getD i 0 = x at *
      by_cases hx : x = 0
      · subst hx
        go_wp2_with fail
        go_round
        case rel =>
          refine ⟨i + 1, by omega, by omega, rfl, ⟨?_⟩⟩
          rw [HR.out, HD.out]; rfl
        case measure => simp [intOf]; omega
      · have hx0 : (x == 0) = false := by simpa using hx
        go_wp2_with fail
        go_ret
        refine ⟨?_, HW.out⟩
        rw [HR.out, HD.out, List.all_cons, hx0]
        rfl
    · obtain rfl : i = 16 := by omega
      go_wp2_with fail
      go_ret
      refine ⟨?_, HW.out⟩
      rw [HR.out, List.drop_of_length_le (by rw [HL.out]; exact Nat.le_refl _)]
      rfl
end Go.Proofs.Ytjidoedlmpjmnaa.AddrW
namespace Go.Proofs.Ytjidoedlmpjmnaa.AddrW
open Go.RowKit Go.Proofs.Ytjidoedlmpjmnaa.AddrEq Go.Proofs.Ytjidoedlmpjmnaa.Bits Go.Proofs.Ytjidoedlmpjmnaa.Help Go.Proofs.YtjidoedlmpjmnaaW.PrintWords Go.Proofs.YtjidoedlmpjmnaaW.PrintLast Go.Proofs.YtjidoedlmpjmnaaW.PrintMore
set_option linter.unusedVariables false
set_option linter.unusedSimpArgs false
theorem Right_any (v : Bool) (bs : List Int) (w : World) (hl : bs.length = 16) : Calls Try.prog 38 #[.agg (av v bs)] w fun e w' => e = .returned (.bool (rightB v bs)) ∧ Below w.heap.size w w' := by
  have hb := blk_new w (.cells (av v bs) 24)
  have HB := Aside0.mk hb
  have HL := Aside0.mk hl
  clear hl hb
  go_enter Try.func38, Try.ntmps38
  go_wp2_with fail
  have hb : ((w.alloc (.cells (av v bs) 24)).alloc (.cells (nums .u8 (List.replicate 16 0)).toArray 22)).heap[w.heap.size]? = some (.cells (av v bs) 24 (0, 0)) := blk_alloc HB.out _
  have hz : ((w.alloc (.cells (av v bs) 24)).alloc (.cells (nums .u8 (List.replicate 16 0)).toArray 22)).heap[w.heap.size + 1]? = some (.cells (nums .u8 (List.replicate 16 0)).toArray 22 (0, 0)) := blk_new_at (Array.size_push _).symm
  have hW : Below w.heap.size w ((w.alloc (.cells (av v bs) 24)).alloc (.cells (nums .u8 (List.replicate 16 0)).toArray 22)) := below_alloc (below_alloc (Below.refl _ _) _) _
  have hex : ∃ W, W = (w.alloc (.cells (av v bs) 24)).alloc (.cells (nums .u8 (List.replicate 16 0)).toArray 22) := ⟨_, rfl⟩
  obtain ⟨W, hWe⟩ := hex
  rw [← hWe] at hb hz hW
  change Code.wp _ _ _ _ ((w.alloc (.cells (av v bs) 24)).alloc (.cells (nums .u8 (List.replicate 16 0)).toArray 22))
  rw [← hWe]
  clear hWe
  have HLD := Aside0.mk (load_addr (w := W.drew) HL.out hb)
  refine wp_region_any (by kernel_rfl) ?_
  change wpAny _ _ _ _ _ _ _ (World.drew _)
  have HZ := Aside0.mk (blk_drew hz)
  have HW := Aside0.mk (Below.drew hW)
  replace HB := Aside0.mk (blk_drew hb)
  clear hb hz hW
  generalize W.drew = W at *
  refine wpAny_take (i := 0) (v := ?_) rfl (by kernel_rfl) (by kernel_rfl) (by kernel_rfl) (fun _ _ _ h => h) (Or.inl ⟨by rfl, ?_⟩) ?_
  rotate_left
  · (intro w; go_simp; try with_reducible rfl)
  refine wpAny_take (i := 1) (v := ?_) rfl (by kernel_rfl) (by kernel_rfl) (by kernel_rfl) (fun _ _ _ h => h) (Or.inl ⟨by rfl, ?_⟩) ?_
  rotate_left
  · (intro w; go_simp; try with_reducible rfl)
  refine wpAny_ready (rs := [2]) (by kernel_rfl) (by simp) (AllReady.cons rfl (fun K hK => ?_) AllReady.nil)
  refine event_step rfl (exec_load rfl rfl HLD.out) ?_
  refine hK _ _ ?_
  clear hK K
  refine wpAny_ready (rs := [3]) (by kernel_rfl) (by simp) (AllReady.cons rfl (fun K hK => ?_) AllReady.nil)
  go_simp
  refine (size_any v bs _).mono ?_
  rintro e w1 ⟨rfl, hB⟩
  refine hK _ _ ?_
  clear hK K
  have hb := blk_below HB.out hB
  have hz := blk_below HZ.out hB
  replace HW := Aside0.mk (below_step HW.out hB)
  clear HB HZ HLD hB
  have HB := Aside0.mk hb
  have HZ := Aside0.mk hz
  clear hb hz
  have hinf1 : (Try.prog.info? 5).map (·.size) = some 1 := by kernel_rfl
  have hcp : ∃ w2 cs', (Builtin.copy_ #[25, 25] 3 #[.slice (some ⟨w.heap.size + 1, 0, none⟩) 16 16, .slice (some ⟨w.heap.size, 1 + sz v, none⟩) (16 - sz v) (16 - sz v)]).run Try.prog w1 = .ok (.int .i64 ((16 - sz v : Nat) : Int)) w2 ∧
      w2.heap[w.heap.size + 1]? = some (.cells cs' 22 (0, 0)) ∧ cs' = (nums .u8 (bs.drop (sz v) ++ List.replicate (sz v) 0)).toArray ∧ Below w.heap.size w w2 := by
    have hs := sz_le v
    have hl := HL.out
    have hxl : (bs.drop (sz v)).length = 16 - sz v := by rw [List.length_drop, hl]
    have hr : Kd.C (Kd.int .u8) w1 (some ⟨w.heap.size, 1 + sz v, none⟩) (bs.drop (sz v)).length (bs.drop (sz v)) := by
      refine C_of_block HB.out (by omega) fun j hj => ?_
      rw [Nat.add_assoc, av_at v (by omega)]
      simp [List.getD_eq_getElem?_getD, List.getElem?_drop]
    obtain ⟨w2, hrun, ⟨cs', hc', hcs⟩, hg⟩ := copy_reads (P := Try.prog) (dT := 25) (sT := 25) (ty := 3) (dLen := 16) (dCap := 16) (c := 16 - sz v) Try.underlying25 hinf1 HZ.out hr (m := 16 - sz v) (by rw [hxl]; exact (Nat.min_eq_left (by omega)).symm) (by rw [Nat.zero_add]; exact Nat.sub_le _ _)
    rw [hxl] at hrun
    refine ⟨w2, cs', hrun, hc', ?_, HW.out.grown hg HW.out.size (fun k hk => by cases hk; exact Nat.le_succ _)⟩
    apply Array.ext'
    rw [hcs]
    simp only [splice, List.take_of_length_le (Nat.le_of_eq hxl)]
    simp only [List.take_zero, List.nil_append, nums, List.map_append]
    refine congrArg _ ?_
    rw [List.length_map, hxl, ← List.map_drop, List.drop_replicate]
    congr 2
    omega
  obtain ⟨w2, cs', hrun, hc', rfl, hB2⟩ := hcp
  have HRUN := Aside0.mk hrun
  have HB2 := Aside0.mk hB2
  have HLD2 := Aside0.mk (run_loadVar_row w2 (w.heap.size + 1) 22 22 (nums .u8 (bs.drop (sz v) ++ List.replicate (sz v) 0)).toArray (0, 0) _ hc' Try.underlying22 rfl (by
    have h : (Try.prog.info? 22).map (·.size) = some 16 := by kernel_rfl
    rw [h]; have := sz_le v; have := HL.out; simp only [nums, List.size_toArray, List.length_map, List.length_append, List.length_drop, List.length_replicate]; congr 1; omega))
  have HEQ := Aside0.mk (show (Op.equalIn 10000 22 (.agg (nums .u8 (bs.drop (sz v) ++ List.replicate (sz v) 0)).toArray) (.agg #[.int .u8 0, .int .u8 0, .int .u8 0, .int .u8 0, .int .u8 0, .int .u8 0, .int .u8 0, .int .u8 0, .int .u8 0, .int .u8 0, .int .u8 0, .int .u8 0, .int .u8 0, .int .u8 0, .int .u8 0, .int .u8 0])).run Try.prog w2 = .ok (decide (bs.drop (sz v) ++ List.replicate (sz v) 0 = List.replicate 16 0)) w2 from eq_b16 9998 (xs := bs.drop (sz v) ++ List.replicate (sz v) 0) (ys := List.replicate 16 0) (by have := sz_le v; have := HL.out; rw [List.length_append, List.length_drop, List.length_replicate]; omega) (by simp) w2)
  have hfin : decide (bs.drop (sz v) ++ List.replicate (sz v) 0 = List.replicate 16 0) = rightB v bs := by
    have hs := sz_le v
    have hl := HL.out
    have e : List.replicate 16 (0 : Int) = List.replicate (16 - sz v) 0 ++ List.replicate (sz v) 0 := by
      rw [List.replicate_append_replicate]; congr 1; omega
    rw [e, Bool.eq_iff_iff, decide_eq_true_iff, List.append_left_inj, rightB, List.all_eq_true, List.eq_replicate_iff]
    constructor
    · rintro ⟨_, h⟩ x hx; simpa using h x hx
    · intro h; exact ⟨by rw [List.length_drop, hl], fun x hx => by simpa using h x hx⟩
  have HFIN := Aside0.mk hfin
  clear hrun hB2 hc' hinf1 HB HZ hfin
  cases v with
  | true =>
    have hs : ((sz true : Nat) : Int) = 16 := rfl
    refine wpAny_ready (rs := [4]) (by kernel_rfl) (by simp) (AllReady.cons rfl (fun K hK => ?_) AllReady.nil)
    go_simp
    refine hK _ _ ?_
    clear hK K
    refine wpAny_ready (rs := [5]) (by kernel_rfl) (by simp) (AllReady.cons rfl (fun K hK => ?_) AllReady.nil)
    refine event_step rfl (exec_copy rfl rfl rfl HRUN.out) ?_
    refine hK _ _ ?_
    clear hK K
    refine wpAny_done (by kernel_rfl) ?_ _
    go_wp2_with (first | ((with_reducible refine gate_dst (N := 10) rfl ?_); refine Kd.event_run rfl (exec_load rfl rfl HLD2.out) ?_) | ((with_reducible refine gate_dst (N := 12) rfl ?_); refine Kd.event_run rfl (exec_eql Try.eqGuardType22 rfl rfl rfl HEQ.out) ?_))
    go_ret
    exact ⟨by rw [← HFIN.out]; rfl, HB2.out⟩
  | false =>
    have hs : ((sz false : Nat) : Int) = 4 := rfl
    refine wpAny_ready (rs := [4]) (by kernel_rfl) (by simp) (AllReady.cons rfl (fun K hK => ?_) AllReady.nil)
    go_simp
    refine hK _ _ ?_
    clear hK K
    refine wpAny_ready (rs := [5]) (by kernel_rfl) (by simp) (AllReady.cons rfl (fun K hK => ?_) AllReady.nil)
    refine event_step rfl (exec_copy rfl rfl rfl HRUN.out) ?_
    refine hK _ _ ?_
    clear hK K
    refine wpAny_done (by kernel_rfl) ?_ _
    go_wp2_with (first | ((with_reducible refine gate_dst (N := 10) rfl ?_); refine Kd.event_run rfl (exec_load rfl rfl HLD2.out) ?_) | ((with_reducible refine gate_dst (N := 12) rfl ?_); refine Kd.event_run rfl (exec_eql Try.eqGuardType22 rfl rfl rfl HEQ.out) ?_))
    go_ret
    exact ⟨by rw [← HFIN.out]; rfl, HB2.out⟩
end Go.Proofs.Ytjidoedlmpjmnaa.AddrW
namespace Go.Proofs.Ytjidoedlmpjmnaa.AddrW
open Go.RowKit Go.Proofs.Ytjidoedlmpjmnaa.Bits Go.Proofs.Ytjidoedlmpjmnaa.Help Go.Proofs.YtjidoedlmpjmnaaW.PrintWords Go.Proofs.YtjidoedlmpjmnaaW.PrintLast Go.Proofs.YtjidoedlmpjmnaaW.PrintMore
set_option linter.unusedVariables false
set_option linter.unusedSimpArgs false
def zs (n : Nat) : List Int := List.replicate n 0
/-- An address of bytes; errno. -/
def ofV (xs : List Int) : Bool := decide (xs.length = 16)
def ofB (xs : List Int) : List Int := if xs.length = 4 ∨ xs.length = 16 then xs ++ zs (16 - xs.length) else zs 16
def ofE (xs : List Int) : Int := if xs.length = 4 ∨ xs.length = 16 then 0 else 3
theorem av_splice (v : Bool) (xs : List Int) (h : xs.length ≤ 16) : splice (av v (zs 16)).toList 1 (nums .u8 xs) = (av v (xs ++ zs (16 - xs.length))).toList := by
  have e : List.drop (1 + xs.length) (Value.bool v :: nums .u8 (zs 16)) = nums .u8 (zs (16 - xs.length)) := by
    rw [Nat.add_comm, List.drop_succ_cons]
    rw [nums, nums, zs, zs, ← List.map_drop, List.drop_replicate]
  simp only [av, splice, List.take_succ_cons, List.take_zero]
  rw [show (nums .u8 xs).length = xs.length by simp [nums], e]
  simp [nums]
theorem info_b : (Try.prog.info? 5).map (·.size) = some 1 := by kernel_rfl
/-- Bytes copied into an address of noughts. -/
theorem copy_in {W : World} {A : Option Addr} {c g : Nat} {v : Bool} {xs : List Int} (hg : W.heap[g]? = some (.cells (av v (zs 16)) 24 (0, 0))) (hr : Kd.C (Kd.int .u8) W A xs.length xs) (hl : xs.length ≤ 16) :
    ∃ w1, (Builtin.copy_ #[25, 25] 3 #[.slice (some ⟨g, 1, none⟩) 16 16, .slice A xs.length c]).run Try.prog W = .ok (.int .i64 (xs.length : Int)) w1 ∧ w1.heap[g]? = some (.cells (av v (xs ++ zs (16 - xs.length))) 24 (0, 0)) ∧ W.grownBy w1 (some g) := by
  obtain ⟨w1, h, ⟨cs', h1, h2⟩, h3⟩ := copy_reads (P := Try.prog) (dT := 25) (sT := 25) (ty := 3) (dLen := 16) (dCap := 16) (c := c) (o := 1) Try.underlying25 info_b hg hr (m := xs.length) (by exact (Nat.min_eq_left hl).symm) (by simp [av, nums, zs]; omega)
  refine ⟨w1, h, ?_, h3⟩
  rw [h1, show cs' = av v (xs ++ zs (16 - xs.length)) from Array.ext' (by rw [h2, List.take_of_length_le (Nat.le_refl _), av_splice v xs hl])]
theorem results_addr {fn : Func} {p u : Tmp} (h : fn.results = #[.cell p 24, .tmp u]) (tmps : Array Value) (w : World) (g : Nat) {v : Bool} {bs : List Int} (hl : bs.length = 16) {t : TypeId} (hp : tmps.getD p undef = .pointer (some ⟨g, 0, none⟩)) (hb : w.heap[g]? = some (.cells (av v bs) t (0, 0))) :
    (results fn tmps).run Try.prog w = .ok (.tuple #[.agg (av v bs), tmps.getD u undef]) w := by
  rw [results_cell_tmp h, hp]
  simp only [asAddr, Sem.run_pure, Result.andThen_ok, load_addr hl hb]
theorem av_oneCell (v : Bool) (bs : List Int) : (av v bs).all (·.oneCell') = true := by
  rw [Array.all_eq_true_iff_forall_mem]
  intro x hx
  simp only [av, nums, List.mem_toArray, List.mem_cons, List.mem_map] at hx
  rcases hx with rfl | ⟨q, _, rfl⟩ <;> rfl
/-- An address stored whole over another one. -/
theorem store_addr {w : World} {g : Nat} {v u : Bool} {bs cs : List Int} (hl : bs.length = 16) (hm : cs.length = 16) {t : TypeId} (hb : w.heap[g]? = some (.cells (av u cs) t (0, 0))) :
    (storeVar 24 ⟨g, 0, none⟩ (.agg (av v bs))).run Try.prog w = .ok () (w.setRow g (av v bs)) :=
  run_storeVar_row w g t 24 _ _ hb (by rw [info_addr, av_size v hl]) (by rw [av_size v hl, av_size u hm]) (av_oneCell v bs)
theorem World.grownBy_setRow' (w : World) (g : Nat) (cs : Array Value) : w.grownBy (w.setRow g cs) (some g) :=
  ⟨rfl, rfl, rfl, by simp, fun k _ hk => setRow_other w g k _ (fun e => hk (by simp [e]))⟩
/-- An address stored into a block that was made just now. -/
theorem store_new (w : World) {g : Nat} (hg : g = w.heap.size) {v u : Bool} {bs cs : List Int} (hl : bs.length = 16) (hm : cs.length = 16) :
    (storeVar 24 ⟨g, 0, none⟩ (.agg (av v bs))).run Try.prog (w.alloc (.cells (av u cs) 24)) = .ok () (w.alloc (.cells (av v bs) 24)) := by
  subst hg
  rw [store_addr hl hm (blk_new w _), setRow_alloc]
theorem zs16 : (zs 16).length = 16 := by simp [zs]
end Go.Proofs.Ytjidoedlmpjmnaa.AddrW
