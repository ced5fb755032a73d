-- laid by xprint (this session's program over the kit's print, patched); Lean checks it
import Derived.Test.YtcmibbhfocfccaaProg
import Derived.Test.YtcmibbhfocfccaaArrEq
import Derived.Below
import Derived.Deep.Draws
import Derived.Deep.AppendLies
import Derived.Maps.AppendAt
import Derived.OwnWalk
import Derived.Laws.BytesArg
import Derived.Laws.MakeOwn
import Derived.Laws.OwnMore
import Derived.Deep.OwnRows
import Derived.Tactics
import Derived.Lib.ConvBytes
import Derived.Laws.Slices
import Derived.WalkKit
import Derived.KernelRfl
import Derived.RowKit3
import Derived.Deep.LoopGhost
import Derived.Deep.QuietTactic
import Derived.BigQuiet
import Derived.WideLaws
import Derived.Deep.DeepCutAuto
import Derived.Deep.CutBlock
import Derived.Deep.RegionHeld3
import Derived.Laws.Rows
import Derived.Lib.AppendStr
import Derived.ArgAppend
import Derived.Laws.IdiomCopy
import Derived.OrdersHeld
import Derived.Laws.BitsLemmas
import Derived.RowKit
import Derived.Test.YtcmibbhfocfccaaWWords
import Derived.Test.YtcmibbhfocfccaaWLast
import Derived.Test.YtcmibbhfocfccaaWTab
import Derived.Test.YtcmibbhfocfccaaWFour
import Derived.Test.YtcmibbhfocfccaaWQPut
import Derived.Test.YtcmibbhfocfccaaWApart
import Derived.Test.YtcmibbhfocfccaaWArr
import Derived.Test.YtcmibbhfocfccaaWZeros
import Derived.Test.YtcmibbhfocfccaaWFoot
import Derived.Test.YtcmibbhfocfccaaWKept
import Derived.Test.YtcmibbhfocfccaaWShare
import Derived.Test.YtcmibbhfocfccaaWN
import Derived.Test.YtcmibbhfocfccaaWFootNe
import Derived.Test.YtcmibbhfocfccaaWAt
import Derived.Test.YtcmibbhfocfccaaWEqStruct
import Derived.Test.YtcmibbhfocfccaaWRepsOne
import Derived.Test.YtcmibbhfocfccaaWInv
import Derived.Test.YtcmibbhfocfccaaWInvWords
import Derived.Test.YtcmibbhfocfccaaWGuard
import Derived.Test.YtcmibbhfocfccaaWNEv
import Derived.Test.YtcmibbhfocfccaaWMore
namespace Go.Proofs.Ytcmibbhfocfccaa.A
open Go.RowKit Go.Proofs.YtcmibbhfocfccaaW.PrintWords Go.Proofs.YtcmibbhfocfccaaW.PrintLast Go.Proofs.YtcmibbhfocfccaaW.PrintMore
attribute [local go_sem] max2_int min2_int max_two min_two max_three min_three max_four min_four   -- for this text's walks alone
set_option linter.unusedVariables false
set_option linter.unusedSimpArgs false



def errW : Option Int → Value
  | none => .nilIface
  | some c => .iface 0 (.int .i64 c)
theorem errW_none : errW none = .nilIface := rfl
theorem errW_some (c : Int) : errW (some c) = .iface 0 (.int .i64 c) := rfl

-- the values' own types

end Go.Proofs.Ytcmibbhfocfccaa.A
