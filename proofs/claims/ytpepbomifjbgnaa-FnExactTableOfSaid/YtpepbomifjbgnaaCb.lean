/- The program of the seat draws its orders as the walk takes them. -/
import Derived.Test.YtpepbomifjbgnaaProg
import Derived.Test.YtpepbomifjbgnaaFB
import Derived.KernelRfl
namespace Go.Proofs.Ytpepbomifjbgnaa
set_option maxRecDepth 100000
theorem mixed : Try.prog.follows .mixedOrders = true := by kernel_rfl
end Go.Proofs.Ytpepbomifjbgnaa
