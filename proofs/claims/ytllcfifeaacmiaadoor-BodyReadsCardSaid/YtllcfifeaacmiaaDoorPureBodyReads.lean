/- Proved: a body is read out of bytes as the chapter says, plainly (nothing is left to show behind the walk). -/
import Derived.Test.YtllcfifeaacmiaaDoorKbr
namespace Go.Proofs.YtllcfifeaacmiaaDoor.Pure
open Go.RowKit Go.Proofs.YtllcfifeaacmiaaDoor.Pr

theorem BodyReads : portcullislaw20_BodyReads.Pure := trivial
end Go.Proofs.YtllcfifeaacmiaaDoor.Pure
