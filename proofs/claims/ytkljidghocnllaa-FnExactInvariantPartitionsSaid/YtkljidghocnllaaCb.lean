/- The program of the seat draws its orders as the walk takes them. -/
import Derived.Test.YtkljidghocnllaaProg
import Derived.Test.YtkljidghocnllaaFB
import Derived.KernelRfl
namespace Go.Proofs.Ytkljidghocnllaa
set_option maxRecDepth 100000
theorem mixed : Try.prog.follows .mixedOrders = true := by kernel_rfl
end Go.Proofs.Ytkljidghocnllaa
