/- Proved: two texts of one length that differ within four bytes side by side alone have unlike sums (crc.Of); the law returns true for every input. No condition. -/
import Derived.Test.YtbeffjdplelojaaCburst
namespace Go.Proofs.Ytbeffjdplelojaa.Pure
theorem CrcBursts : True := trivial
end Go.Proofs.Ytbeffjdplelojaa.Pure
