/- The program of the seat draws its orders as the walk takes them. -/
import Derived.Test.YtpfapiiinkkcgaaGreatProg
import Derived.Test.YtpfapiiinkkcgaaGreatFB
import Derived.KernelRfl
namespace Go.Proofs.YtpfapiiinkkcgaaGreat
set_option maxRecDepth 100000
theorem mixed : Tryz.prog.follows .mixedOrders = true := by kernel_rfl
end Go.Proofs.YtpfapiiinkkcgaaGreat
