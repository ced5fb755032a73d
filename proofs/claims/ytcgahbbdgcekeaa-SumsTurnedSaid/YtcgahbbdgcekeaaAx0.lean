-- laid by xprint (this session's program over the kit's print, patched); Lean checks it
import Derived.Test.YtcgahbbdgcekeaaProg
import Derived.Below
import Derived.Deep.Draws
import Derived.Deep.AppendLies
import Derived.Maps.AppendAt
import Derived.OwnWalk
import Derived.Laws.BytesArg
import Derived.Laws.MakeOwn
import Derived.Laws.OwnMore
import Derived.Deep.OwnRows
import Derived.Tactics
import Derived.Lib.ConvBytes
import Derived.Laws.Slices
import Derived.WalkKit
import Derived.KernelRfl
import Derived.RowKit3
import Derived.Deep.LoopGhost
import Derived.Deep.QuietTactic
import Derived.BigQuiet
import Derived.WideLaws
import Derived.Deep.DeepCutAuto
import Derived.Deep.CutBlock
import Derived.Deep.RegionHeld3
import Derived.Laws.Rows
import Derived.Lib.AppendStr
import Derived.ArgAppend
import Derived.Laws.IdiomCopy
import Derived.OrdersHeld
import Derived.Laws.BitsLemmas
import Derived.RowKit
import Derived.Test.YtcgahbbdgcekeaaWWords
import Derived.Test.YtcgahbbdgcekeaaWLast
import Derived.Test.YtcgahbbdgcekeaaWTab
import Derived.Test.YtcgahbbdgcekeaaWFour
import Derived.Test.YtcgahbbdgcekeaaWQPut
import Derived.Test.YtcgahbbdgcekeaaWApart
import Derived.Test.YtcgahbbdgcekeaaWArr
import Derived.Test.YtcgahbbdgcekeaaWZeros
import Derived.Test.YtcgahbbdgcekeaaWFoot
import Derived.Test.YtcgahbbdgcekeaaWKept
import Derived.Test.YtcgahbbdgcekeaaWShare
import Derived.Test.YtcgahbbdgcekeaaWN
import Derived.Test.YtcgahbbdgcekeaaWFootNe
import Derived.Test.YtcgahbbdgcekeaaWAt
import Derived.Test.YtcgahbbdgcekeaaWEqStruct
import Derived.Test.YtcgahbbdgcekeaaWRepsOne
import Derived.Test.YtcgahbbdgcekeaaWInv
import Derived.Test.YtcgahbbdgcekeaaWInvWords
import Derived.Test.YtcgahbbdgcekeaaWGuard
import Derived.Test.YtcgahbbdgcekeaaWNEv
import Derived.Test.YtcgahbbdgcekeaaWMore
namespace Go.Proofs.Ytcgahbbdgcekeaa.A
open Go.RowKit Go.Proofs.YtcgahbbdgcekeaaW.PrintWords Go.Proofs.YtcgahbbdgcekeaaW.PrintLast Go.Proofs.YtcgahbbdgcekeaaW.PrintMore
attribute [local go_sem] max2_int min2_int max_two min_two max_three min_three max_four min_four   -- for this text's walks alone
set_option linter.unusedVariables false
set_option linter.unusedSimpArgs false



def errW : Option Int → Value
  | none => .nilIface
  | some c => .iface 0 (.int .i64 c)
theorem errW_none : errW none = .nilIface := rfl
theorem errW_some (c : Int) : errW (some c) = .iface 0 (.int .i64 c) := rfl

theorem info5 : (Try.prog.info? 5).map (fun i => (i.zero, i.size, i.bytes)) = some (some (.int .u8 0), 1, 1) := by kernel_rfl
-- the values' own types

end Go.Proofs.Ytcgahbbdgcekeaa.A
