/- The iterator over a view. -/
import Derived.RangeFuncNested
import Derived.RangeFuncBound
import Derived.RangeFuncCalls
import Derived.RangeFuncLeaves
import Derived.RangeFuncBox
import Derived.Shelf.Abstract
import Derived.Shelf.RegionOpen
import Derived.WalkKit
import Derived.OwnWalkIn
import Derived.TacticsInMore
import Derived.LoopNIn
import Derived.LoopIn
import Derived.Maps.OwnIn
import Derived.Test.YtkdhccbgbkhnnaaMemW3
namespace Go.Proofs.Ytkdhccbgbkhnnaa.Memb
open Go.RowKit Go.Shelf Go.Proofs.Ytkdhccbgbkhnnaa.MapI Go.Proofs.Ytkdhccbgbkhnnaa.Mem Go.Proofs.Ytkdhccbgbkhnnaa.Help Go.Proofs.YtkdhccbgbkhnnaaW.PrintWords Go.Proofs.YtkdhccbgbkhnnaaW.PrintLast Go.Proofs.YtkdhccbgbkhnnaaW.PrintMore
set_option linter.unusedVariables false
set_option linter.unusedSimpArgs false
attribute [local go_sem] Oper.semAt_some
def upto {α : Type} (f : Nat → α) (k : Nat) : List α := (List.range k).map f
theorem upto_succ {α : Type} (f : Nat → α) (k : Nat) : upto f (k + 1) = upto f k ++ [f k] := by simp [upto, List.range_succ]
theorem upto_length {α : Type} (f : Nat → α) (k : Nat) : (upto f k).length = k := by simp [upto]
/-- What comes. -/
def allS (xs : List (Int × Int)) (j : Nat) : Nat × (Int × Int) := (j, getI xs (j : Int))
/-- What a round that goes on keeps. -/
def KpV (n₀ Bv : Nat) (W W' : World) : Prop := Below n₀ W W' ∧ ∀ v, Boxed W Bv 34 v → Boxed W' Bv 34 v
theorem kpV_refl (n₀ Bv : Nat) (W : World) : KpV n₀ Bv W W := ⟨Below.refl _ _, fun _ h => h⟩
theorem kpV_t {n₀ Bv : Nat} {A B C : World} (h : KpV n₀ Bv A B) (k : KpV n₀ Bv B C) : KpV n₀ Bv A C := ⟨h.1.trans k.1, fun v hv => k.2 v (h.2 v hv)⟩
def encI (x : Nat × (Int × Int)) : Array Value := #[.int .i64 (x.1 : Int), .agg #[.int .i64 x.2.1, .int .i64 x.2.2]]
set_option maxRecDepth 100000 in
set_option maxHeartbeats 2000000 in
theorem all1_in (F : Fence) (n : Nat) (h63 : F.fn 63) (hro : F.round = none) (hn : 1 ≤ n) (l Bv n₀ : Nat) {me : Int} {g b : Nat} {xs : List (Int × Int)} (hl : xs.length < 1000) (hg : g < n₀) (hb : b < n₀)
    (J Jx : List (Nat × (Int × Int)) → World → Prop)
    (hY : ∀ pre x W, J pre W → pre.length < xs.length → YieldAt F (n - 1) Try.prog l (encI x) W fun e W' =>
      (e = .returned (.bool true) ∧ J (pre ++ [x]) W' ∧ KpV n₀ Bv W W') ∨ (e = .returned (.bool false) ∧ Jx (pre ++ [x]) W'))
    (W : World) (hc : Boxed W Bv 34 (.pointer (some ⟨g, 0, none⟩))) (hV : VW me g b xs W) (h0 : J [] W) :
    CallsIn F n Try.prog 63 #[.func (.yield l) #[] #[], .pointer (some ⟨Bv, 0, none⟩)] W fun e W' => (∃ v, e = .returned v) ∧
      ((∃ ys, ys = upto (allS xs) xs.length ∧ J ys W') ∨ (∃ pre, (∃ k, k ≤ xs.length ∧ pre = upto (allS xs) k) ∧ Jx pre W')) := by
  refine callsIn_of_wp Try.func63 rfl h63 ?_ hro
  simp only [Try.ntmps63, List.size_toArray, List.length_cons, List.length_nil, Nat.reduceAdd, Nat.reduceSub, Array.replicate_succ, Array.replicate_zero, List.push_toArray, List.append_toArray, List.nil_append, List.cons_append]
  have HV := Aside0.mk hV
  have HX := Aside0.mk hl
  have HC := Aside0.mk hc
  clear hV hl hc
  gi_wp2
  gi_loopw [3] (fun i wr => ∃ k : Nat, k ≤ xs.length ∧ i = .int .i64 k ∧ J (upto (allS xs) k) wr ∧ Aside0 (KpV n₀ Bv W wr))
    (fun i _ => xs.length - (intOf i).toNat)
  case atStart => exact ⟨0, Nat.zero_le _, rfl, h0, ⟨kpV_refl _ _ _⟩⟩
  case round =>
    obtain ⟨k, hk, rfl, hJs, HN⟩ := hrel
    have hV := HV.out
    have hVr : VW me g b xs wr := ⟨(HN.out.1.block _ hg).trans hV.v, by
      obtain ⟨es, clock, hb', r⟩ := hV.m
      exact ⟨es, clock, (HN.out.1.block _ hb).trans hb', r⟩⟩
    have hcr := (HN.out.2 _ HC.out).cell
    have c1 := blk_cell hVr.v 1
    by_cases hlt : k < xs.length
    · obtain ⟨fn, tmps, assign, body, hy, hR⟩ := hY _ (allS xs k) wr hJs (by rw [upto_length]; exact hlt)
      unfold encI allS at hy
      dsimp only at hy
      have c2 := blk_cell hVr.v 2
      have hlk := hVr.look false (j := (k : Int)) (int_wf (by have := HX.out; omega))
      unfold infV at hlk
      simp only [Bool.false_eq_true, if_false] at hlk
      have hlt2 : (k : Int) < (xs.length : Int) := by omega
      have hSz := Aside0.mk hlt
      have hw1 : wrap64 ((k : Int) + 1) = (k : Int) + 1 := by have := HX.out; unfold wrap64; omega
      have hw2 : IntKind.i64.wrap ((k : Int) + 1) = (k : Int) + 1 := by rw [IntKind.wrap_i64]; have := HX.out; omega
      have HW := Aside0.mk hw1
      clear hVr hlt hV hw1
      gi_wp2
      refine hR.mono ?_
      rintro e W3 (⟨rfl, hJ3, hk3⟩ | ⟨rfl, hJx3⟩)
      · gi_wp2
        go_roundw
        case rel => exact ⟨k + 1, by have := hSz.out; omega, by first | rfl | (simp; done) | (simp; rw [HW.out]), by rw [upto_succ]; exact hJ3, ⟨kpV_t HN.out hk3⟩⟩
        case measure => have := hSz.out; simp [intOf]; first | omega | (rw [HW.out]; omega)
      · gi_wp2
        go_end0
        exact ⟨⟨_, rfl⟩, .inr ⟨_, ⟨k + 1, by have := hSz.out; omega, (upto_succ _ _).symm⟩, hJx3⟩⟩
    · obtain rfl : k = xs.length := by omega
      clear hVr hV
      gi_wp2
      refine ⟨fun _ h => (by cases h), ?_⟩
      gi_wp2
      go_end0
      exact ⟨⟨_, rfl⟩, .inl ⟨_, rfl, hJs⟩⟩
end Go.Proofs.Ytkdhccbgbkhnnaa.Memb
