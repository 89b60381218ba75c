-- printed by this session's own driver (wip/pr.py) over the kit's printer. Not trusted: Lean checks it.
import Derived.Test.YtllcfifeaacmiaaDoorProg
import Derived.Below
import Derived.Deep.Draws
import Derived.Deep.AppendLies
import Derived.Maps.AppendAt
import Derived.OwnWalk
import Derived.Laws.BytesArg
import Derived.Laws.MakeOwn
import Derived.Laws.OwnMore
import Derived.Deep.OwnRows
import Derived.Tactics
import Derived.Lib.ConvBytes
import Derived.Laws.Slices
import Derived.WalkKit
import Derived.KernelRfl
import Derived.RowKit3
import Derived.Deep.LoopGhost
import Derived.Deep.QuietTactic
import Derived.BigQuiet
import Derived.WideLaws
import Derived.Deep.DeepCutAuto
import Derived.Deep.CutBlock
import Derived.Deep.RegionHeld3
import Derived.Laws.Rows
import Derived.Lib.AppendStr
import Derived.ArgAppend
import Derived.Laws.IdiomCopy
import Derived.OrdersHeld
import Derived.Laws.BitsLemmas
import Derived.RowKit
import Derived.Test.YtllcfifeaacmiaaDoorWWords
import Derived.Test.YtllcfifeaacmiaaDoorWLast
import Derived.Test.YtllcfifeaacmiaaDoorWTab
import Derived.Test.YtllcfifeaacmiaaDoorWFour
import Derived.Test.YtllcfifeaacmiaaDoorWQPut
import Derived.Test.YtllcfifeaacmiaaDoorWApart
import Derived.Test.YtllcfifeaacmiaaDoorWArr
import Derived.Test.YtllcfifeaacmiaaDoorWZeros
import Derived.Test.YtllcfifeaacmiaaDoorWFoot
import Derived.Test.YtllcfifeaacmiaaDoorWKept
import Derived.Test.YtllcfifeaacmiaaDoorWShare
import Derived.Test.YtllcfifeaacmiaaDoorWN
import Derived.Test.YtllcfifeaacmiaaDoorWFootNe
import Derived.Test.YtllcfifeaacmiaaDoorWAt
import Derived.Test.YtllcfifeaacmiaaDoorWEqStruct
import Derived.Test.YtllcfifeaacmiaaDoorWRepsOne
import Derived.Test.YtllcfifeaacmiaaDoorWInv
import Derived.Test.YtllcfifeaacmiaaDoorWInvWords
import Derived.Test.YtllcfifeaacmiaaDoorWGuard
import Derived.Test.YtllcfifeaacmiaaDoorWNEv
import Derived.Test.YtllcfifeaacmiaaDoorWMore
namespace Go.Proofs.YtllcfifeaacmiaaDoor.Pr
open Go.RowKit Go.Proofs.YtllcfifeaacmiaaDoorW.PrintWords Go.Proofs.YtllcfifeaacmiaaDoorW.PrintLast Go.Proofs.YtllcfifeaacmiaaDoorW.PrintMore
attribute [local go_sem] max2_int min2_int max_two min_two max_three min_three max_four min_four   -- for this text's walks alone
set_option linter.unusedVariables false
set_option linter.unusedSimpArgs false



def errW : Option Int → Value
  | none => .nilIface
  | some c => .iface 0 (.int .i64 c)
theorem errW_none : errW none = .nilIface := rfl
theorem errW_some (c : Int) : errW (some c) = .iface 0 (.int .i64 c) := rfl

-- the values' own types

theorem size_mkA (a : Array UInt8) : (ByteArray.mk a).size = a.size := rfl
end Go.Proofs.YtllcfifeaacmiaaDoor.Pr
