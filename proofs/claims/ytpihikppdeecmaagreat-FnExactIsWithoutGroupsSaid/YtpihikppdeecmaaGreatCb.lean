/- The program of the seat draws its orders as the walk takes them. -/
import Derived.Test.YtpihikppdeecmaaGreatProg
import Derived.Test.YtpihikppdeecmaaGreatFB
import Derived.KernelRfl
namespace Go.Proofs.YtpihikppdeecmaaGreat
set_option maxRecDepth 100000
theorem mixed : Tryz.prog.follows .mixedOrders = true := by kernel_rfl
open Go.Kv
abbrev Ent (f n : Nat) (z : List Nat) (rs : List KR) (k : KC) : Prop := ∀ {args : List PV} {σ : Heap} {K : PV → Heap → Prop}, args.length ≤ n → (Wf σ → (∀ a ∈ args, PV.upto σ.length a) → vc (mkCfg Tryz.prog mixed z n σ.length) k (FinK σ.length rs K) (argEnv 0 args) σ) → ACall Tryz.prog f args σ K
theorem ent {f n : Nat} {z : List Nat} {rs : List KR} {k : KC} {fn : Func} (hf : Tryz.prog.funcs[f]? = some fn) (hb : fn.body = some (fn.body.getD .skip)) (hm : (fn.name == "runtime.NumGoroutine") = false) (hN : fn.ntmps = n) (hc : ∀ m, trCode (mkCfg Tryz.prog mixed z n m) (fn.body.getD .skip) = some k) (hr : fn.results.toList.mapM (trRes Tryz.prog) = some rs) : Ent f n z rs k :=
  fun {_ σ _} hl h => ACall_enter (C := mkCfg Tryz.prog mixed z n σ.length) hf hb hm hN rfl hl (hc _) hr h
end Go.Proofs.YtpihikppdeecmaaGreat
