/- The program of the seat draws its orders as the walk takes them. -/
import Derived.Test.YtodmbkceindakaaGreatProg
import Derived.Test.YtodmbkceindakaaGreatFB
import Derived.KernelRfl
namespace Go.Proofs.YtodmbkceindakaaGreat
set_option maxRecDepth 100000
theorem mixed : Tryz.prog.follows .mixedOrders = true := by kernel_rfl
end Go.Proofs.YtodmbkceindakaaGreat
