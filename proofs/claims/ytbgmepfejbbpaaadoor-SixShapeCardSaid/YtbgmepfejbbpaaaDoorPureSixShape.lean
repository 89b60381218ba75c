/- Proved: how an address is told. -/
import Derived.Test.YtbgmepfejbbpaaaDoorHshape
namespace Go.Proofs.YtbgmepfejbbpaaaDoor.Pure
theorem SixShape : True := trivial
end Go.Proofs.YtbgmepfejbbpaaaDoor.Pure
