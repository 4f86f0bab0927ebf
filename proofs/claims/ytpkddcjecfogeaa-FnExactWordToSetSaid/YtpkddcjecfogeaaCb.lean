/- The program of the seat draws its orders as the walk takes them. -/
import Derived.Test.YtpkddcjecfogeaaProg
import Derived.Test.YtpkddcjecfogeaaFB
import Derived.KernelRfl
namespace Go.Proofs.Ytpkddcjecfogeaa
set_option maxRecDepth 100000
theorem mixed : Try.prog.follows .mixedOrders = true := by kernel_rfl
end Go.Proofs.Ytpkddcjecfogeaa
