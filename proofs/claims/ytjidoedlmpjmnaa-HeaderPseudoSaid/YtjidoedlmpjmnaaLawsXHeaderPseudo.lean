/- HeaderPseudo as the row wants it. -/
import Derived.Test.YtjidoedlmpjmnaaAx0
import Derived.Test.YtjidoedlmpjmnaaLawPseudo
namespace Go.Proofs.Ytjidoedlmpjmnaa.A
open Go.RowKit Go.Proofs.Ytjidoedlmpjmnaa.Hdr Go.Proofs.YtjidoedlmpjmnaaW.PrintWords Go.Proofs.YtjidoedlmpjmnaaW.PrintLast Go.Proofs.YtjidoedlmpjmnaaW.PrintMore
set_option linter.unusedVariables false
open Classical in
noncomputable def steelyardlaw04_HeaderPseudo.f (a0_0 : Bool) (a0_1 : Bool) (a0_2 : Int) (a0_3 : Int) (a0_4 : Int) (a0_5 : Int) (a0_6 : Int) (a0_7 : Int) (a0_8 : Int) (a0_9 : Int) (a0_10 : Int) (a0_11 : Int) (a0_12 : Int) (a0_13 : Int) (a0_14 : Int) (a0_15 : Int) (a0_16 : Int) (a0_17 : Int) (a0_18 : Bool) (a0_19 : Int) (a0_20 : Int) (a0_21 : Int) (a0_22 : Int) (a0_23 : Int) (a0_24 : Int) (a0_25 : Int) (a0_26 : Int) (a0_27 : Int) (a0_28 : Int) (a0_29 : Int) (a0_30 : Int) (a0_31 : Int) (a0_32 : Int) (a0_33 : Int) (a0_34 : Int) (a0_35 : Int) (a0_36 : Int) (a0_37 : Int) (a0_38 : Int) (a0_39 : Bool) (a0_40 : Int) (l0_41 : List Int) (l0_42 : List Int) : Option (Bool) := if OkP (⟨a0_0, ⟨a0_1, [a0_2, a0_3, a0_4, a0_5, a0_6, a0_7, a0_8, a0_9, a0_10, a0_11, a0_12, a0_13, a0_14, a0_15, a0_16, a0_17]⟩, ⟨a0_18, [a0_19, a0_20, a0_21, a0_22, a0_23, a0_24, a0_25, a0_26, a0_27, a0_28, a0_29, a0_30, a0_31, a0_32, a0_33, a0_34]⟩, a0_35, a0_36, a0_37, a0_38, a0_39, a0_40, l0_41, l0_42⟩ : Pk) then some true else none
end Go.Proofs.Ytjidoedlmpjmnaa.A
