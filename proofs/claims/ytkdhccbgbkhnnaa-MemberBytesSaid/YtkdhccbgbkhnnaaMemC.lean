/- Lists of how some are seen, read; Count; one stored over another. -/
import Derived.Test.YtkdhccbgbkhnnaaMemS
import Derived.Test.YtkdhccbgbkhnnaaSegs
import Derived.Deep.Slices
namespace Go.Proofs.Ytkdhccbgbkhnnaa.Memb
open Go.RowKit Go.Proofs.Ytkdhccbgbkhnnaa.Segs Go.Proofs.Ytkdhccbgbkhnnaa.MapI Go.Proofs.Ytkdhccbgbkhnnaa.Mem Go.Proofs.Ytkdhccbgbkhnnaa.Help Go.Proofs.YtkdhccbgbkhnnaaW.PrintWords Go.Proofs.YtkdhccbgbkhnnaaW.PrintLast Go.Proofs.YtkdhccbgbkhnnaaW.PrintMore
set_option linter.unusedVariables false
set_option linter.unusedSimpArgs false
def dI : Kd (Int × Int) := Kd.pair (Kd.int .i64) (Kd.int .i64)
theorem infoR : (Try.prog.info? 23).map (·.size) = some 2 := by kernel_rfl
theorem infoM : (Try.prog.info? 24).map (·.size) = some 2 := by kernel_rfl
theorem load_atI {P : Program} {W : World} {ty : TypeId} {ad : Addr} {cs : List Value} {d : TypeDesc} {n : Nat} (hc : ∀ j v, cs[j]? = some v → W.cell? (ad.add j) = some v)
    (hu : P.underlying ty = some d) (hd : d.isRow = true) (hi : (P.info? ty).map (·.size) = some n) (hn : cs.length = n) : (loadVar ty ad).run P W = .ok (.agg cs.toArray) W := by
  have hl := run_loadCells_list (P := P) (w := W) ad cs hc
  cases hq : P.info? ty with
  | none => simp [hq] at hi
  | some i =>
    have hs : i.size = cs.length := by rw [hn]; simpa [hq] using hi
    have hg : (isAgg ty).run P W = .ok true W := by
      unfold isAgg
      rw [Sem.run_bind, run_underlying hu W]
      cases d <;> simp_all
    simp [loadVar, Sem.run_bind, hg, sizeOf, typeInfo, hq, hs, hl]
theorem inf_load {w : World} {A : Option Addr} {l : List (Int × Int)} (h : dI.C w A l.length l) (i : Nat) (hi : i < l.length) :
    ∃ ad, A = some ad ∧ (loadVar 23 (ad.add (i * 2))).run Try.prog w = .ok (.agg #[.int .i64 (l.getD i (0, 0)).1, .int .i64 (l.getD i (0, 0)).2]) w := by
  obtain ⟨ad, c, h1, h2, h3, h4⟩ := Kd.C_get h (0, 0) (i : Int) (by omega) (by omega)
  obtain ⟨c0, c1, rfl, h5, h6⟩ := h3
  rw [Int.toNat_natCast] at *
  have h5' : c0 = [.int .i64 (l.getD i (0, 0)).1] := h5
  have h6' : c1 = [.int .i64 (l.getD i (0, 0)).2] := h6
  subst h5' h6'
  refine ⟨ad, h1, load_atI (cs := [_, _]) (fun j v hj => ?_) Try.underlying23 rfl infoR rfl⟩
  have := h4 j v hj
  rw [Deep.add_add]
  exact this
/-- One stored over another. -/
theorem overR {W : World} {q : Nat} {x y : Int × Int} (hb : BI 23 q x W) :
    ∃ W1, (storeVar 23 ⟨q, 0, none⟩ (.agg #[.int .i64 y.1, .int .i64 y.2])).run Try.prog W = .ok () W1 ∧ BI 23 q y W1 ∧ W.grownBy W1 (some q) := by
  have h := seg_over (P := Try.prog) (ty := 23) (segs := [[.int .i64 x.1], [.int .i64 x.2]]) (segs' := [[.int .i64 y.1], [.int .i64 y.2]]) hb rfl infoR rfl (by simp [Value.oneCell'])
  exact ⟨_, h, setRow_heap _ _ _ _ _ _ hb, ⟨rfl, rfl, rfl, by simp, fun k _ hk => setRow_other W q k _ (fun e => hk (by simp [e]))⟩⟩
set_option maxHeartbeats 2000000 in
theorem count_any (k n : Int) (w : World) (h1 : 1 ≤ n) (hn : n ≤ 9000000000000) (hk0 : -9223372036854775808 ≤ k) (hk1 : k ≤ 9223372036854775807) :
    Calls Try.prog 17 #[.int .i64 k, .int .i64 n] w fun e w' => ∃ r : Nat, e = .returned (.int .i64 (r : Int)) ∧ (r : Int) < n ∧ w = w' := by
  have hne : (n == 0) = false := by simp; omega
  have hb := Int.tmod_lt_of_pos k (show 0 < n by omega)
  have hb2 : -n < k.tmod n := by have := Int.lt_tmod_of_pos k (show 0 < n by omega); omega
  have HC : Aside0 (∃ m, k.tmod n = m ∧ m < n ∧ -n < m) := ⟨_, rfl, hb, hb2⟩
  clear hb hb2
  obtain ⟨m, hm, hm1, hm2⟩ := HC.out
  by_cases hs : m < 0
  · have HF : Aside0 (∃ r : Nat, m + n = (r : Int) ∧ (r : Int) < n) := ⟨(m + n).toNat, by omega, by omega⟩
    clear HC
    go_enter Try.func17, Try.ntmps17
    go_wp2_with fail
    go_ret
    obtain ⟨r, h3, h4⟩ := HF.out
    exact ⟨r, by rw [← h3]; rfl, h4, rfl⟩
  · have HF : Aside0 (∃ r : Nat, m = (r : Int) ∧ (r : Int) < n) := ⟨m.toNat, by omega, by omega⟩
    clear HC
    go_enter Try.func17, Try.ntmps17
    go_wp2_with fail
    go_ret
    obtain ⟨r, h3, h4⟩ := HF.out
    exact ⟨r, by rw [← h3]; rfl, h4, rfl⟩
end Go.Proofs.Ytkdhccbgbkhnnaa.Memb
