/- Two views that see all alike: maps.Equal, Same. -/
import Derived.Maps.RangeWalk
import Derived.Maps.OwnIn
import Derived.Maps.OwnSet
import Derived.Maps.OwnOps
import Derived.Test.YtkdhccbgbkhnnaaMemV
import Derived.Test.YtkdhccbgbkhnnaaMemEq
import Derived.Test.YtkdhccbgbkhnnaaBase
namespace Go.Proofs.Ytkdhccbgbkhnnaa.Memb
open Go.RowKit Go.Maps Go.WideElems Go.ChangeMaps Go.MapKept Go.Proofs.Ytkdhccbgbkhnnaa.MapI Go.Proofs.Ytkdhccbgbkhnnaa.Mem Go.Proofs.Ytkdhccbgbkhnnaa.Help Go.Proofs.YtkdhccbgbkhnnaaW.PrintWords Go.Proofs.YtkdhccbgbkhnnaaW.PrintLast Go.Proofs.YtkdhccbgbkhnnaaW.PrintMore
set_option linter.unusedVariables false
set_option linter.unusedSimpArgs false
theorem infR_inv {v : Value} {y : DataW Unit × List MemPlace} (h : infR v = some y) : ∃ c : Int × Int, v = infV c := by
  unfold infR at h
  split at h
  · rename_i a c hc
    refine ⟨(a, c), ?_⟩
    cases v <;> simp [Value.cells] at hc
    rename_i cs
    unfold infV
    dsimp only
    congr 1
    exact Array.ext' (by simpa using hc)
  · cases h
theorem infR_one {v : Value} {c : Int × Int} {y : DataW Unit × List MemPlace} {d : DataW Unit} {ps : List MemPlace} (h : infR v = some (d, ps)) (k : infR (infV c) = some y) (e : d = y.1) : v = infV c := by
  obtain ⟨c', rfl⟩ := infR_inv h
  rw [infR_mk] at h k
  cases h
  cases k
  simp at e
  obtain ⟨e1, e2⟩ := e
  rw [show c' = c from Prod.ext e1 e2]
theorem imap_twin {P : Program} {k : TypeId} {w w' : World} {b b' : Nat} {xs : List (Int × Int)} (h : IMap P k w b xs) (h' : IMap P k w' b' xs) : ∃ D, w.ownsMap P k infR b xs.length D ∧ w'.ownsMap P k infR b' xs.length D := by
  obtain ⟨es, clock, hb, F, hl, hx⟩ := h
  obtain ⟨es', clock', hb', F', hl', hx'⟩ := h'
  have e : es.toList.map (rg P k infR) = es'.toList.map (rg P k infR) := by
    apply List.ext_getElem (by simp [hl, hl'])
    intro i h1 h2
    simp only [List.getElem_map]
    have hi : i < xs.length := by rw [← hl]; simpa using h1
    obtain ⟨q, hq⟩ := hx i _ (List.getElem?_eq_getElem hi)
    obtain ⟨q', hq'⟩ := hx' i _ (List.getElem?_eq_getElem hi)
    rw [List.getElem?_eq_getElem (by rw [hl]; exact hi)] at hq
    rw [List.getElem?_eq_getElem (by rw [hl']; exact hi)] at hq'
    rw [Option.some.inj hq, Option.some.inj hq']
    rfl
  exact ⟨_, ⟨es, clock, hb, F, by rw [← hl]; simp, rfl⟩, ⟨es', clock', hb', F', by rw [← hl']; simp, by rw [e]⟩⟩
set_option maxRecDepth 20000 in
theorem Equal_same {b1 b2 : Nat} {xs : List (Int × Int)} (w : World) (h1 : IMap Try.prog 3 w b1 xs) (h2 : IMap Try.prog 3 w b2 xs) :
    Calls Try.prog 40 #[.map (some b1), .map (some b2)] w fun e w' => e = .returned (.bool true) ∧ w.grownBy w' none := by
  obtain ⟨D, o1, o2⟩ := imap_twin h1 h2
  have K := int_keyed Try.underlying3
  have l1 := fun ty => o1.len (t := 73) Try.underlying73 ty
  have l2 := fun ty => o2.len (t := 73) Try.underlying73 ty
  have hb2 := o2.lt
  go_enter Try.func40, Try.ntmps40
  go_wp2_with (at_range; refine wpList_range_own _ rfl _ 73 rfl 3 24 K Try.underlying73 infR b1 xs.length _ rfl o1 ?_; intro w0 hrg0 hg0 hs0)
  go_frame
  go_loopw [16] (fun _ wr => ∃ (left : Lit → Bool) (cnt : Nat), wr.ranges Try.prog 3 infR b1 w.heap.size xs.length D left cnt ∧ wr.ownsMap Try.prog 3 infR b2 xs.length D ∧ w.grownBy wr none ∧ Aside0 (∀ kl, left kl = true → Maps.has D kl = true))
    (fun _ wr => wr.rangeLeft b1 w.heap.size)
  case atStart => exact ⟨_, _, hrg0, o2.kept hg0 (by simp), hg0, ⟨fun _ h => h⟩⟩
  case round =>
    obtain ⟨left, cnt, hrg, h2r, hgw, G⟩ := hrel
    go_wp2_with (at_next; refine wpList_next_ranges _ rfl _ rfl 3 K infR id infV (fun key _ _ => ⟨key, rfl⟩) (fun v _ h => infR_inv h) b1 w.heap.size xs.length _ _ _ rfl hrg ?_ ?_)
    · intro _ hl0
      go_wp2
      go_ret
      exact ⟨rfl, hgw⟩
    · intro x s i kl yd yp w1 cnt1 hkey hlx hv hat hrg1 hlt hg1 hs1 hen
      have hgw1 : w.grownBy w1 none := hgw.andThen hg1 (fun j hj => by cases hj; exact Or.inl (Nat.le_refl _))
      have h2w1 := h2r.kept hg1 (fun e => by have := Option.some.inj e; omega)
      have hq : ∀ W, (Op.equalIn 10000 24 (.agg #[.int .i64 s, .int .i64 i]) (.agg #[.int .i64 s, .int .i64 i])).run Try.prog W = .ok true W := fun W => by have := eq_I24 (s, i) (s, i) W; unfold infV at this; simpa using this
      have hh : Maps.has D kl = true := G.out kl hlx
      have hgt := Try.eqGuardType24
      have HV := Aside0.mk hv
      have HAT := Aside0.mk hat
      clear hat hv o1 o2 h1 h2 hrg0 hg0 hs0 h2r
      unfold infV at hen
      dsimp only at hen
      simp only [infV, id]
      go_wp2_with (at_lookup; refine wpList_lookup_own_ok _ rfl _ _ 73 rfl 3 24 K Try.underlying73 infR (zeroI _) _ [] (infR_mk (0, 0)) b2 xs.length D rfl (h2w1.alloc _) _ kl rfl hkey ?_; intro v2 ps2 hv2; rw [hh]; obtain rfl := infR_one hv2 HV.out (HAT.out _); simp only [infV]; go_frame)
      go_roundw
      case rel => exact ⟨_, cnt1, (hrg1.alloc _).alloc _, (h2w1.alloc _).alloc _, (hgw1.trans (World.grownBy_alloc _ _ none)).trans (World.grownBy_alloc _ _ none), ⟨fun kl h => G.out kl (by rw [Bool.and_eq_true] at h; exact h.1)⟩⟩
      case measure => rw [((hrg1.alloc _).alloc _).left_eq, hrg.left_eq]; exact hlt
theorem Same_same {me me' : Int} {g b g' b' : Nat} {xs : List (Int × Int)} (w : World) (h : VW me g b xs w) (h' : VW me' g' b' xs w) :
    Calls Try.prog 20 #[.pointer (some ⟨g, 0, none⟩), .pointer (some ⟨g', 0, none⟩)] w fun e w' => e = .returned (.bool true) ∧ Below w.heap.size w w' := by
  have HV := Aside0.mk (show VW me g b xs w.drew ∧ VW me' g' b' xs w.drew from ⟨⟨h.v, h.m⟩, ⟨h'.v, h'.m⟩⟩)
  have HE := Aside0.mk (Equal_same w.drew HV.out.1.m HV.out.2.m)
  have HW : Aside0 (Below w.heap.size w w.drew ∧ w.drew.heap.size = w.heap.size) := ⟨below_drew (Below.refl _ _), rfl⟩
  clear h h'
  go_enter Try.func20, Try.ntmps20
  go_upto_region 3 with fail
  refine RegionF.region_F (F := (fun X => X = w.drew)) 8 (by kernel_rfl) (by kernel_rfl) rfl ?_
  simp only [List.take_succ_cons, List.take_zero, List.drop_succ_cons, List.drop_zero]
  generalize w.drew = Y at *
  have c2 := blk_cell HV.out.1.v 2
  have d2 := blk_cell HV.out.2.v 2
  apply RegionF.wpF_step
  · rfl
  · (intro X hX; subst hX; go_simp; exact RegionF.GivesF.value rfl rfl)
  refine RegionF.wpF_put (fun K' hK' => ?_)
  go_simp
  refine hK' _ ?_
  clear hK' K'
  apply RegionF.wpF_step
  · rfl
  · (intro X hX; subst hX; go_simp; exact RegionF.GivesF.value rfl rfl)
  refine RegionF.wpF_put (fun K' hK' => ?_)
  go_simp
  refine hK' _ ?_
  clear hK' K'
  apply RegionF.wpF_step
  · rfl
  · (intro X hX; subst hX; go_simp; exact RegionF.GivesF.value rfl rfl)
  refine RegionF.wpF_put (fun K' hK' => ?_)
  go_simp
  refine hK' _ ?_
  clear hK' K'
  apply RegionF.wpF_step
  · rfl
  · (intro X hX; subst hX; go_simp; exact RegionF.GivesF.value rfl rfl)
  refine RegionF.wpF_put (fun K' hK' => ?_)
  go_simp
  refine hK' _ ?_
  clear hK' K'
  apply RegionF.wpF_step
  · rfl
  · (intro X hX; subst hX; go_simp; exact RegionF.GivesF.value rfl rfl)
  refine RegionF.wpF_put (fun K' hK' => ?_)
  go_simp
  refine hK' _ ?_
  clear hK' K'
  apply RegionF.wpF_step
  · rfl
  · (intro X hX; subst hX; go_simp; exact RegionF.GivesF.value rfl rfl)
  refine RegionF.wpF_put (fun K' hK' => ?_)
  go_simp
  refine hK' _ ?_
  clear hK' K'
  apply RegionF.wpF_step
  · rfl
  · (intro X hX; subst hX; go_simp; exact RegionF.GivesF.value rfl rfl)
  refine RegionF.wpF_put (fun K' hK' => ?_)
  go_simp
  refine hK' _ ?_
  clear hK' K'
  apply RegionF.wpF_step
  · rfl
  · (intro X hX; subst hX; go_simp; exact RegionF.GivesF.value rfl rfl)
  refine RegionF.wpF_put (fun K' hK' => ?_)
  go_simp
  refine hK' _ ?_
  clear hK' K'
  refine RegionF.wpF_nil (fun X hX => ?_)
  subst hX
  clear c2 d2
  go_wp2_with fail
  refine HE.out.mono ?_
  rintro e w1 ⟨rfl, hg⟩
  have HB := Aside0.mk (HW.out.1.grown hg (by rw [HW.out.2]; exact Nat.le_refl _) (fun k e => by cases e))
  clear hg
  go_wp2_with fail
  go_ret
  exact ⟨rfl, HB.out⟩
end Go.Proofs.Ytkdhccbgbkhnnaa.Memb
