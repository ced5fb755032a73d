/- HeaderPseudo, walked. -/
import Derived.Test.YtjidoedlmpjmnaaHdrD
import Derived.Test.YtjidoedlmpjmnaaHdrX
import Derived.Test.YtjidoedlmpjmnaaHdrR
namespace Go.Proofs.Ytjidoedlmpjmnaa.Hdr
open Go.RowKit Go.Proofs.Ytjidoedlmpjmnaa.SumsP Go.Proofs.Ytjidoedlmpjmnaa.SumW Go.Proofs.Ytjidoedlmpjmnaa.Cur Go.Proofs.Ytjidoedlmpjmnaa.Own Go.Proofs.Ytjidoedlmpjmnaa.StepX Go.Proofs.Ytjidoedlmpjmnaa.AddrW Go.Proofs.Ytjidoedlmpjmnaa.Segs Go.Proofs.Ytjidoedlmpjmnaa.Mem Go.Proofs.Ytjidoedlmpjmnaa.AddrEq Go.Proofs.Ytjidoedlmpjmnaa.Bits Go.Proofs.Ytjidoedlmpjmnaa.Help Go.Proofs.YtjidoedlmpjmnaaW.PrintWords Go.Proofs.YtjidoedlmpjmnaaW.PrintLast Go.Proofs.YtjidoedlmpjmnaaW.PrintMore
set_option linter.unusedVariables false
set_option linter.unusedSimpArgs false
set_option maxRecDepth 20000
set_option maxHeartbeats 4000000 in
theorem HeaderPseudo_any (h : Pk) (q : Pl) (w : World) (H : OkP h) (hr : RdP h q w) : Calls Try.prog 6 #[.agg (flat (hseg h q))] w fun e w' => e = .returned (.bool true) ∧ Below w.heap.size w w' := by
  have HB0 := Aside0.mk (And.intro (blk_drew (blk_new w (.cells (flat (hseg h q)) 27))) (below_drew (below_alloc (Below.refl w.heap.size w) (.cells (flat (hseg h q)) 27))))
  have H := Aside0.mk H
  have HRD := Aside0.mk hr
  have HKN := Aside0.mk known_any
  have hps := AddS_bd (s := 0) (by omega) (psB_by H.out)
  have hpe : (psS h == psS h) = true := by simp
  have HPR := Aside0.mk (fun q W => Pseudo_any h q W H.out)
  have HPRR := Aside0.mk (fun W => refPseudo_any h q W H.out)
  clear hr hps
  generalize psS h = ps at *
  go_enter Try.func6, Try.ntmps6
  go_upto_region 1 with fail
  refine RegionI.region_I (S := BH 27 w.heap.size h q) (D := fun _ => false) (by kernel_rfl) HB0.out.1 ?_
  intro hS
  generalize (w.alloc (.cells (flat (hseg h q)) 27)).drew = V at *
  refine RegionI.wpAnyI_take (i := 0) (v := _) rfl (by kernel_rfl) (by kernel_rfl) (by kernel_rfl) (by kernel_rfl) (by kernel_rfl) (fun _ _ => rfl) (fun _ _ _ h => h) (by rfl) (fun w hw => exec_load rfl (by go_simp) (load_hr H.out hw)) hS ?_
  refine RegionI.wpAnyI_take (i := 3) (v := _) rfl (by kernel_rfl) (by kernel_rfl) (by kernel_rfl) (by kernel_rfl) (by kernel_rfl) (fun _ _ => rfl) (fun _ _ _ h => h) (by rfl) (fun w hw => exec_load rfl (by go_simp) (load_hr H.out hw)) hS ?_
  clear hS
  refine RegionI.wpAnyI_one (i := 1) (by kernel_rfl) rfl (fun K hK => ?_)
  go_simp
  refine (given_any h q V H.out (HRD.out.below HB0.out.2)).mono ?_
  rintro e W1 ⟨q', rfl, hL, hB1⟩
  have HB1 := Aside0.mk (And.intro (blk_below HB0.out.1 hB1) (below_step HB0.out.2 hB1))
  refine hK _ _ ⟨fun _ => HB1.out.1, ?_⟩
  clear hK K hL hB1
  refine RegionI.wpAnyI_one (i := 2) (by kernel_rfl) rfl (fun K hK => ?_)
  go_simp
  refine (HPR.out q' W1).mono ?_
  rintro e W2 ⟨rfl, hB2⟩
  have HB2 := Aside0.mk (And.intro (blk_below HB1.out.1 hB2) (below_step HB1.out.2 hB2))
  refine hK _ _ ⟨fun _ => HB2.out.1, ?_⟩
  clear hK K hB2 HB1
  refine RegionI.wpAnyI_one (i := 4) (by kernel_rfl) rfl (fun K hK => ?_)
  go_simp
  refine (HPRR.out W2).mono ?_
  rintro e W3 ⟨rfl, hB3⟩
  have HB3 := Aside0.mk (And.intro (blk_below HB2.out.1 hB3) (below_step HB2.out.2 hB3))
  refine hK _ _ ⟨fun _ => HB3.out.1, ?_⟩
  clear hK K hB3 HB2
  have hS := HB3.out.1
  refine RegionI.wpAnyI_take (i := 5) (v := ?_) rfl (by kernel_rfl) (by kernel_rfl) (by kernel_rfl) (by kernel_rfl) (by kernel_rfl) (fun _ _ => rfl) (fun _ _ _ h => h) (by rfl) ?_ hS ?_
  rotate_left
  · (intro X hX; go_simp; try with_reducible rfl)
  refine RegionI.wpAnyI_take (i := 6) (v := ?_) rfl (by kernel_rfl) (by kernel_rfl) (by kernel_rfl) (by kernel_rfl) (by kernel_rfl) (fun _ _ => rfl) (fun _ _ _ h => h) (by rfl) ?_ hS ?_
  rotate_left
  · (intro X hX; go_simp; try with_reducible rfl)
  clear hS
  refine RegionI.wpAnyI_one (i := 7) (by kernel_rfl) rfl (fun K hK => ?_)
  go_simp
  refine (HKN.out W3).mono ?_
  rintro e W4 ⟨rfl, hB4⟩
  have HB4 := Aside0.mk (And.intro (blk_below HB3.out.1 hB4) (below_step HB3.out.2 hB4))
  refine hK _ _ ⟨fun _ => HB4.out.1, ?_⟩
  clear hK K hB4 HB3
  have hS := HB4.out.1
  refine RegionI.wpAnyI_take (i := 8) (v := ?_) rfl (by kernel_rfl) (by kernel_rfl) (by kernel_rfl) (by kernel_rfl) (by kernel_rfl) (fun _ _ => rfl) (fun _ _ _ h => h) (by rfl) ?_ hS ?_
  rotate_left
  · (intro X hX; go_simp; try with_reducible rfl)
  refine RegionI.wpAnyI_take (i := 9) (v := ?_) rfl (by kernel_rfl) (by kernel_rfl) (by kernel_rfl) (by kernel_rfl) (by kernel_rfl) (fun _ _ => rfl) (fun _ _ _ h => h) (by rfl) ?_ hS ?_
  rotate_left
  · (intro X hX; go_simp; try with_reducible rfl)
  clear hS
  refine RegionI.wpAnyI_done (by kernel_rfl) ?_ _
  go_wp2_with fail
  go_ret
  exact ⟨by first | rfl | simp, HB4.out.2⟩
end Go.Proofs.Ytjidoedlmpjmnaa.Hdr
