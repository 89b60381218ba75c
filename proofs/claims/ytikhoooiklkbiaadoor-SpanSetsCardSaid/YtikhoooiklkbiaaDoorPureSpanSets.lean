/- Proved: sets of spans stand to one another as sets do. -/
import Derived.Test.YtikhoooiklkbiaaDoorKse
namespace Go.Proofs.YtikhoooiklkbiaaDoor.Pure
theorem SpanSets : True := trivial
end Go.Proofs.YtikhoooiklkbiaaDoor.Pure
