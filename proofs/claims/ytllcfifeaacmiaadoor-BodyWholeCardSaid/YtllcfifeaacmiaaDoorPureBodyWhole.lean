/- Proved: a whole body that was written is read again, plainly (nothing is left to show behind the walk). -/
import Derived.Test.YtllcfifeaacmiaaDoorKbw
namespace Go.Proofs.YtllcfifeaacmiaaDoor.Pure
open Go.RowKit Go.Proofs.YtllcfifeaacmiaaDoor.Pr Go.Proofs.YtllcfifeaacmiaaDoorW.PrintWords Go.Proofs.YtllcfifeaacmiaaDoorW.PrintLast

theorem BodyWhole : portcullislaw20_BodyWhole.Pure := trivial
end Go.Proofs.YtllcfifeaacmiaaDoor.Pure
