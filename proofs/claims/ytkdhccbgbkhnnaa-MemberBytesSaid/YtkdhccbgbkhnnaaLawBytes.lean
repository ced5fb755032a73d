/- MemberBytes, walked. -/
import Derived.Test.YtkdhccbgbkhnnaaMemRd
import Derived.Test.YtkdhccbgbkhnnaaMemK
import Derived.Test.YtkdhccbgbkhnnaaMemEq
import Derived.Test.YtkdhccbgbkhnnaaExecEq
import Derived.Test.YtkdhccbgbkhnnaaLent
namespace Go.Proofs.Ytkdhccbgbkhnnaa.Memb
open Go.RowKit Go.Proofs.Ytkdhccbgbkhnnaa.A Go.Proofs.Ytkdhccbgbkhnnaa.ExecEq Go.Proofs.Ytkdhccbgbkhnnaa.MapI Go.Proofs.Ytkdhccbgbkhnnaa.Cur Go.Proofs.Ytkdhccbgbkhnnaa.CurP Go.Proofs.Ytkdhccbgbkhnnaa.Mem Go.Proofs.Ytkdhccbgbkhnnaa.Help Go.Proofs.YtkdhccbgbkhnnaaW.PrintWords Go.Proofs.YtkdhccbgbkhnnaaW.PrintLast Go.Proofs.YtkdhccbgbkhnnaaW.PrintMore
set_option linter.unusedVariables false
set_option linter.unusedSimpArgs false
theorem minf_load {w : World} {A : Option Addr} {l : List (Int × Int)} (h : dI.C w A l.length l) (i : Nat) (hi : i < l.length) :
    ∃ ad, A = some ad ∧ (loadVar 24 (ad.add (i * 2))).run Try.prog w = .ok (.agg #[.int .i64 (l.getD i (0, 0)).1, .int .i64 (l.getD i (0, 0)).2]) w := by
  obtain ⟨ad, c, h1, h2, h3, h4⟩ := Kd.C_get h (0, 0) (i : Int) (by omega) (by omega)
  obtain ⟨c0, c1, rfl, h5, h6⟩ := h3
  rw [Int.toNat_natCast] at *
  have h5' : c0 = [.int .i64 (l.getD i (0, 0)).1] := h5
  have h6' : c1 = [.int .i64 (l.getD i (0, 0)).2] := h6
  subst h5' h6'
  refine ⟨ad, h1, load_atI (cs := [_, _]) (fun j v hj => ?_) Try.underlying24 rfl infoM rfl⟩
  have := h4 j v hj
  rw [Deep.add_add]
  exact this
set_option maxHeartbeats 4000000 in
theorem MemberBytes_any (A : Option Addr) (c : Nat) (xs : List Int) (w : World) (hr : Kd.C (Kd.int .u8) w A xs.length xs) (hc : xs.length ≤ c) (hb : xs.length ≤ 140737488351232) (hx : AllB xs) :
    Calls Try.prog 5 #[.slice A xs.length c] w fun e w' => e = .returned (.bool true) ∧ Below w.heap.size w w' := by
  have HX := Aside0.mk (And.intro hx (And.intro hb hr))
  have hcap : (xs.length : Int) ≤ c := by omega
  clear hx hc
  go_enter Try.func5, Try.ntmps5
  go_wp2_with fail
  refine (Lent_calls A c xs w hr hb).mono ?_
  rintro e w1 ⟨g, rfl, hg, hL, hB⟩
  have HL := Aside0.mk hL
  have HB := Aside0.mk hB
  clear hr hg hL hB
  go_wp2_with fail
  refine (Read_any _ _ xs w1 (HL.out.reads (by omega)) HX.out.1 hb).mono ?_
  rintro e w2 ⟨v1, rfl, hS⟩
  have hsz1 := HB.out.size
  replace HL := Aside0.mk (HL.out.below hS.b)
  replace HB := Aside0.mk (below_step HB.out hS.b)
  have HS : Aside0 (RdS 24 w w2 v1 (readR xs).1) := ⟨⟨Kd.S_lower hS.s hsz1, HB.out⟩⟩
  clear hS hsz1
  go_wp2_with fail
  refine (refRead_any A c xs w2 (Kd.C_below HX.out.2.2 HB.out) HX.out.1 hb).mono ?_
  rintro e w3 ⟨v2, rfl, hS⟩
  have hsz1 := HB.out.size
  replace HL := Aside0.mk (HL.out.below hS.b)
  replace HB := Aside0.mk (below_step HB.out hS.b)
  replace HS := Aside0.mk (HS.out.below hS.b)
  have HS2 : Aside0 (RdS 23 w w3 v2 (readR xs).1) := ⟨⟨Kd.S_lower hS.s hsz1, HB.out⟩⟩
  clear hS hsz1
  generalize (readR xs).1 = l at *
  generalize (readR xs).2 = E at *
  obtain ⟨A1, c1, hv1, -, hC1⟩ := Kd.S_reads HS.out.s
  obtain ⟨A2, c2, hv2, -, hC2⟩ := Kd.S_reads HS2.out.s
  subst hv1 hv2
  have HC := Aside0.mk (And.intro hC1 hC2)
  clear hC1 hC2 HS HS2
  have HKEPT := Aside0.mk (Kept_calls g A c xs w3 HL.out (Kd.C_below HX.out.2.2 HB.out) hb)
  have hEE : (E != E) = false := by simp
  have hll : ((l.length : Int) != (l.length : Int)) = false := by simp
  go_wp2_with fail
  refine HKEPT.out.mono ?_
  rintro e w4 ⟨rfl, q, rfl⟩
  replace HB := Aside0.mk (pw_below_drewN HB.out q)
  replace HC := Aside0.mk (And.intro (Kd.C_drewN HC.out.1 q) (Kd.C_drewN HC.out.2 q))
  have hlen := Kd.C_max HC.out.1
  clear HKEPT HL
  generalize w3.drewN q = w4 at *
  go_wp2_with fail
  have HKN := Aside0.mk known_any
  go_loopg [8] l.length (fun kq v8 w' => ∃ j : Nat, Aside0 (kq + j = l.length) ∧ v8 = .int .i64 (j : Int) ∧ Aside0 (Below w4.heap.size w4 w'))
  case atStart => exact ⟨0, ⟨by simp⟩, rfl, ⟨Below.refl _ _⟩⟩
  case round =>
    obtain ⟨j, HKj, rfl, HBj⟩ := hrel
    cases gk with
    | zero =>
      obtain rfl : j = l.length := by have := HKj.out; omega
      go_wp2_with fail
      refine (HKN.out _).mono ?_
      rintro e w5 ⟨rfl, hB5⟩
      have HF := Aside0.mk (below_step HB.out (below_step HBj.out hB5))
      go_wp2_with fail
      go_ret
      exact ⟨rfl, HF.out⟩
    | succ kq =>
      have hj : j < l.length := by have := HKj.out; omega
      have hj2 : ((j : Nat) : Int) < ((l.length : Nat) : Int) := by omega
      obtain ⟨a1, rfl, hld1⟩ := minf_load (Kd.C_below HC.out.1 HBj.out) j hj
      obtain ⟨a2, rfl, hld2⟩ := inf_load (Kd.C_below HC.out.2 HBj.out) j hj
      have HLD : Aside0 (∀ W, Below wr.heap.size wr W → (loadVar 24 (a1.add (j * 2))).run Try.prog W = .ok (.agg #[.int .i64 (l.getD j (0, 0)).1, .int .i64 (l.getD j (0, 0)).2]) W ∧ (loadVar 23 (a2.add (j * 2))).run Try.prog W = .ok (.agg #[.int .i64 (l.getD j (0, 0)).1, .int .i64 (l.getD j (0, 0)).2]) W) := ⟨fun W hB => by
        obtain ⟨a1', e1, h1⟩ := minf_load (Kd.C_below HC.out.1 (below_step HBj.out hB)) j hj
        obtain ⟨a2', e2, h2⟩ := inf_load (Kd.C_below HC.out.2 (below_step HBj.out hB)) j hj
        cases e1; cases e2
        exact ⟨h1, h2⟩⟩
      clear hld1 hld2
      have HEQ : Aside0 (∀ W, (Op.equalIn 10000 23 (.agg #[.int .i64 (l.getD j (0, 0)).1, .int .i64 (l.getD j (0, 0)).2]) (.agg #[.int .i64 (l.getD j (0, 0)).1, .int .i64 (l.getD j (0, 0)).2])).run Try.prog W = .ok true W) := ⟨fun W => by have := eq_I23 (l.getD j (0, 0)) (l.getD j (0, 0)) W; unfold infV at this; simpa using this⟩
      generalize l.getD j (0, 0) = x at *
      have HTK := Aside0.mk (taken_any x)
      unfold infV at HTK
      go_upto_region 9 with fail
      refine RegionF.region_F (F := (fun W => Below wr.heap.size wr W)) 9 (by kernel_rfl) (by kernel_rfl) (below_drew (Below.refl _ _)) ?_
      simp only [List.take_succ_cons, List.take_zero, List.drop_succ_cons, List.drop_zero]
      repeat (first
        | (refine RegionF.wpF_skip (by rfl) ?_
           refine RegionF.wpF_put (fun K' hK' => ?_)
           go_simp
           refine hK' _ ?_
           clear hK' K')
        | (apply RegionF.wpF_step
           · rfl
           · (intro W hW; first | (rw [exec_load rfl rfl (HLD.out W hW).1]; exact RegionF.GivesF.value rfl hW) | (rw [exec_load rfl rfl (HLD.out W hW).2]; exact RegionF.GivesF.value rfl hW) | (go_simp; first | exact RegionF.GivesF.value rfl hW | (apply RegionF.GivesF.enter; first | (with_reducible exact (HTK.out W).mono fun e w1 h => ⟨h.1, below_step hW h.2⟩))))
           refine RegionF.wpF_put (fun K' hK' => ?_)
           go_simp
           refine hK' _ ?_
           clear hK' K'))
      refine RegionF.wpF_nil (fun X hX => ?_)
      have HBX := Aside0.mk (below_step HBj.out hX)
      clear hX
      go_wp2_with (refine Kd.event_run rfl (exec_neq Try.eqGuardType23 rfl rfl rfl (HEQ.out X)) ?_)
      go_roundg kq
      case measure => omega
      case rel => exact ⟨j + 1, ⟨by have := HKj.out; omega⟩, by first | rfl | (simp; first | omega | (unfold wrap64; omega)), HBX⟩
end Go.Proofs.Ytkdhccbgbkhnnaa.Memb
