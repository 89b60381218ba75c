/- Proved: how many pieces an address may have. -/
import Derived.Test.YtbgmepfejbbpaaaDoorHpieces
namespace Go.Proofs.YtbgmepfejbbpaaaDoor.Pure
theorem SixPieces : True := trivial
end Go.Proofs.YtbgmepfejbbpaaaDoor.Pure
