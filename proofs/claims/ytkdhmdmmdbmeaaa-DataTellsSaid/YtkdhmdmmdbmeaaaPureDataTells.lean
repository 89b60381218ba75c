/- Proved: all that is known of any code point is what the document's tables say. -/
import Derived.Test.YtkdhmdmmdbmeaaaDtell
namespace Go.Proofs.Ytkdhmdmmdbmeaaa.Pure
theorem DataTells : True := trivial
end Go.Proofs.Ytkdhmdmmdbmeaaa.Pure
