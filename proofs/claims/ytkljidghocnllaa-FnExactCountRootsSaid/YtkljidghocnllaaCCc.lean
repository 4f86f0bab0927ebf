/- The compact code of functions of the seat, and how their calls are entered: printed by this session's own program. -/
import Derived.Test.YtkljidghocnllaaCb
namespace Go.Proofs.Ytkljidghocnllaa
open Go.Kv
set_option maxRecDepth 100000
/- impl.commute -/
def k101 : KC := (.seq (.ops [⟨(some 2), none, .box true (.t 0)⟩, ⟨(some 3), none, .box true (.t 1)⟩, ⟨(some 4), none, .mv (.c (.bool false))⟩])
  (.seq (.draw [⟨(some 5), none, .load true 6 (.t 2)⟩, ⟨(some 6), none, .load true 6 (.t 3)⟩, ⟨(some 8), none, .load true 6 (.t 3)⟩, ⟨(some 9), none, .load true 6 (.t 2)⟩, ⟨(some 7), none, .pcall (.c (.fn (.func 131) [] [])) [(.t 5), (.t 6)]⟩, ⟨(some 10), none, .pcall (.c (.fn (.func 131) [] [])) [(.t 8), (.t 9)]⟩, ⟨(some 11), none, .aeq false 6 (.t 7) (.t 10)⟩, ⟨(some 4), none, .mv (.t 11)⟩])
  .ret))
theorem e101 {args : List PV} {σ : Heap} {K : PV → Heap → Prop} (hl : args.length ≤ 12) (h : Wf σ → (∀ a ∈ args, PV.upto σ.length a) → vc (mkCfg Try.prog mixed [2, 3] 12 σ.length) k101 (FinK σ.length [.t 4] K) (argEnv 0 args) σ) : ACall Try.prog 101 args σ K :=
  ACall_enter (C := mkCfg Try.prog mixed [2, 3] 12 σ.length) (c := Try.f101.body.getD .skip) Try.func101 (by kernel_rfl) (by kernel_rfl) (by kernel_rfl) rfl hl (by kernel_rfl) (by kernel_rfl) h
end Go.Proofs.Ytkljidghocnllaa
