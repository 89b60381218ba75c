-- printed by this session's own driver (wip/pr.py) over the kit's printer. Not trusted: Lean checks it.
import Derived.Test.YtlnlfglhboccpaaDoorProg
import Derived.Below
import Derived.Deep.Draws
import Derived.Deep.AppendLies
import Derived.Maps.AppendAt
import Derived.OwnWalk
import Derived.Laws.BytesArg
import Derived.Laws.MakeOwn
import Derived.Laws.OwnMore
import Derived.Deep.OwnRows
import Derived.Tactics
import Derived.Lib.ConvBytes
import Derived.Laws.Slices
import Derived.WalkKit
import Derived.KernelRfl
import Derived.RowKit3
import Derived.Deep.LoopGhost
import Derived.Deep.QuietTactic
import Derived.BigQuiet
import Derived.WideLaws
import Derived.Deep.DeepCutAuto
import Derived.Deep.CutBlock
import Derived.Deep.RegionHeld3
import Derived.Laws.Rows
import Derived.Lib.AppendStr
import Derived.ArgAppend
import Derived.Laws.IdiomCopy
import Derived.OrdersHeld
import Derived.Laws.BitsLemmas
import Derived.RowKit
import Derived.Test.YtlnlfglhboccpaaDoorWWords
import Derived.Test.YtlnlfglhboccpaaDoorWLast
import Derived.Test.YtlnlfglhboccpaaDoorWTab
import Derived.Test.YtlnlfglhboccpaaDoorWFour
import Derived.Test.YtlnlfglhboccpaaDoorWQPut
import Derived.Test.YtlnlfglhboccpaaDoorWApart
import Derived.Test.YtlnlfglhboccpaaDoorWArr
import Derived.Test.YtlnlfglhboccpaaDoorWZeros
import Derived.Test.YtlnlfglhboccpaaDoorWFoot
import Derived.Test.YtlnlfglhboccpaaDoorWKept
import Derived.Test.YtlnlfglhboccpaaDoorWShare
import Derived.Test.YtlnlfglhboccpaaDoorWN
import Derived.Test.YtlnlfglhboccpaaDoorWFootNe
import Derived.Test.YtlnlfglhboccpaaDoorWAt
import Derived.Test.YtlnlfglhboccpaaDoorWEqStruct
import Derived.Test.YtlnlfglhboccpaaDoorWRepsOne
import Derived.Test.YtlnlfglhboccpaaDoorWInv
import Derived.Test.YtlnlfglhboccpaaDoorWInvWords
import Derived.Test.YtlnlfglhboccpaaDoorWGuard
import Derived.Test.YtlnlfglhboccpaaDoorWNEv
import Derived.Test.YtlnlfglhboccpaaDoorWMore
namespace Go.Proofs.YtlnlfglhboccpaaDoor.Pr
open Go.RowKit Go.Proofs.YtlnlfglhboccpaaDoorW.PrintWords Go.Proofs.YtlnlfglhboccpaaDoorW.PrintLast Go.Proofs.YtlnlfglhboccpaaDoorW.PrintMore
attribute [local go_sem] max2_int min2_int max_two min_two max_three min_three max_four min_four   -- for this text's walks alone
set_option linter.unusedVariables false
set_option linter.unusedSimpArgs false



def errW : Option Int → Value
  | none => .nilIface
  | some c => .iface 0 (.int .i64 c)
theorem errW_none : errW none = .nilIface := rfl
theorem errW_some (c : Int) : errW (some c) = .iface 0 (.int .i64 c) := rfl

theorem info9 : (Tryd.prog.info? 9).map (fun i => (i.zero, i.size, i.bytes)) = some (some (.string ⟨#[]⟩), 1, 16) := by kernel_rfl
theorem info24 : (Tryd.prog.info? 24).map (fun i => (i.zero, i.size, i.bytes)) = some (some (.int .u64 0), 1, 8) := by kernel_rfl
-- the values' own types

theorem uw_uw (a b : Int) : IntKind.u64.wrap (a + IntKind.u64.wrap b) = IntKind.u64.wrap (a + b) := by simp [IntKind.wrap, IntKind.signed, IntKind.bits]
theorem nE_ne (l : List UInt8) : (!l.isEmpty) = (l != []) := by cases l <;> rfl
end Go.Proofs.YtlnlfglhboccpaaDoor.Pr
