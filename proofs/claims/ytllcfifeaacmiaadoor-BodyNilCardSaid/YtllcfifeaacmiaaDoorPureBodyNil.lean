/- Proved: what no reader answers, plainly (nothing is left to show behind the walk). -/
import Derived.Test.YtllcfifeaacmiaaDoorKbn
namespace Go.Proofs.YtllcfifeaacmiaaDoor.Pure
open Go.RowKit Go.Proofs.YtllcfifeaacmiaaDoor.Pr

theorem BodyNil : portcullislaw20_BodyNil.Pure := trivial
end Go.Proofs.YtllcfifeaacmiaaDoor.Pure
