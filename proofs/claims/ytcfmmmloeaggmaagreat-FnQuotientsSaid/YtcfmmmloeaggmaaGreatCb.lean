/- A text of this session. -/
import Derived.Test.YtcfmmmloeaggmaaGreatProg
import Derived.Test.YtcfmmmloeaggmaaGreatFB
import Derived.KernelRfl
namespace Go.Proofs.YtcfmmmloeaggmaaGreat
set_option maxRecDepth 100000
theorem mixed:Tryz.prog.follows .mixedOrders=true:=by kernel_rfl
open Go.Kv
abbrev Ent (f n:Nat) (z:List Nat) (rs:List KR) (k:KC):Prop:=∀ {args:List PV} {σ:Heap} {K:PV→Heap→Prop},args.length≤n→(Wf σ→(∀ a∈args,PV.upto σ.length a)→vc (mkCfg Tryz.prog mixed z n σ.length) k (FinK σ.length rs K) (argEnv 0 args) σ)→ACall Tryz.prog f args σ K
theorem ent {f n:Nat} {z:List Nat} {rs:List KR} {k:KC} {fn:Func} (hf:Tryz.prog.funcs[f]? = some fn) (hb:fn.body=some (fn.body.getD .skip):=by kernel_rfl) (hm:(fn.name == "runtime.NumGoroutine")=false:=by kernel_rfl) (hN:fn.ntmps=n:=by kernel_rfl) (hc:∀ m,trCode (mkCfg Tryz.prog mixed z n m) (fn.body.getD .skip)=some k:=by intro _; kernel_rfl) (hr:fn.results.toList.mapM (trRes Tryz.prog)=some rs:=by kernel_rfl):Ent f n z rs k :=
 fun {_ σ _} hl h=>ACall_enter (C:=mkCfg Tryz.prog mixed z n σ.length) hf hb hm hN rfl hl (hc _) hr h
end Go.Proofs.YtcfmmmloeaggmaaGreat
