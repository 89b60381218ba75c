-- printed by this session's own driver (wip/pr.py) over the kit's printer. Not trusted: Lean checks it.
import Derived.Test.YtbgmepfejbbpaaaDoorProg
import Derived.Below
import Derived.Deep.Draws
import Derived.Deep.AppendLies
import Derived.Maps.AppendAt
import Derived.OwnWalk
import Derived.Laws.BytesArg
import Derived.Laws.MakeOwn
import Derived.Laws.OwnMore
import Derived.Deep.OwnRows
import Derived.Tactics
import Derived.Lib.ConvBytes
import Derived.Laws.Slices
import Derived.WalkKit
import Derived.KernelRfl
import Derived.RowKit3
import Derived.Deep.LoopGhost
import Derived.Deep.QuietTactic
import Derived.BigQuiet
import Derived.WideLaws
import Derived.Deep.DeepCutAuto
import Derived.Deep.CutBlock
import Derived.Deep.RegionHeld3
import Derived.Laws.Rows
import Derived.Lib.AppendStr
import Derived.ArgAppend
import Derived.Laws.IdiomCopy
import Derived.OrdersHeld
import Derived.Laws.BitsLemmas
import Derived.RowKit
import Derived.Test.YtbgmepfejbbpaaaDoorWWords
import Derived.Test.YtbgmepfejbbpaaaDoorWLast
import Derived.Test.YtbgmepfejbbpaaaDoorWTab
import Derived.Test.YtbgmepfejbbpaaaDoorWFour
import Derived.Test.YtbgmepfejbbpaaaDoorWQPut
import Derived.Test.YtbgmepfejbbpaaaDoorWApart
import Derived.Test.YtbgmepfejbbpaaaDoorWArr
import Derived.Test.YtbgmepfejbbpaaaDoorWZeros
import Derived.Test.YtbgmepfejbbpaaaDoorWFoot
import Derived.Test.YtbgmepfejbbpaaaDoorWKept
import Derived.Test.YtbgmepfejbbpaaaDoorWShare
import Derived.Test.YtbgmepfejbbpaaaDoorWN
import Derived.Test.YtbgmepfejbbpaaaDoorWFootNe
import Derived.Test.YtbgmepfejbbpaaaDoorWAt
import Derived.Test.YtbgmepfejbbpaaaDoorWEqStruct
import Derived.Test.YtbgmepfejbbpaaaDoorWRepsOne
import Derived.Test.YtbgmepfejbbpaaaDoorWInv
import Derived.Test.YtbgmepfejbbpaaaDoorWInvWords
import Derived.Test.YtbgmepfejbbpaaaDoorWGuard
import Derived.Test.YtbgmepfejbbpaaaDoorWNEv
import Derived.Test.YtbgmepfejbbpaaaDoorWMore
namespace Go.Proofs.YtbgmepfejbbpaaaDoor.Pr
open Go.RowKit Go.Proofs.YtbgmepfejbbpaaaDoorW.PrintWords Go.Proofs.YtbgmepfejbbpaaaDoorW.PrintLast Go.Proofs.YtbgmepfejbbpaaaDoorW.PrintMore
attribute [local go_sem] max2_int min2_int max_two min_two max_three min_three max_four min_four   -- for this text's walks alone
set_option linter.unusedVariables false
set_option linter.unusedSimpArgs false



def errW : Option Int → Value
  | none => .nilIface
  | some c => .iface 0 (.int .i64 c)
theorem errW_none : errW none = .nilIface := rfl
theorem errW_some (c : Int) : errW (some c) = .iface 0 (.int .i64 c) := rfl

theorem info5 : (Tryd.prog.info? 5).map (fun i => (i.zero, i.size, i.bytes)) = some (some (.int .u8 0), 1, 1) := by kernel_rfl
theorem info9 : (Tryd.prog.info? 9).map (fun i => (i.zero, i.size, i.bytes)) = some (some (.string ⟨#[]⟩), 1, 16) := by kernel_rfl
-- the values' own types

end Go.Proofs.YtbgmepfejbbpaaaDoor.Pr
