/- The compact code of functions of the seat, and how their calls are entered: printed by this session's own program. -/
import Derived.Test.YtkljidghocnllaaCb
namespace Go.Proofs.Ytkljidghocnllaa
open Go.Kv
set_option maxRecDepth 100000
/- laws.eqMap -/
def k30 : KC := (.seq (.ops [⟨(some 2), none, .box true (.t 0)⟩, ⟨(some 3), none, .box true (.t 1)⟩, ⟨(some 4), none, .mv (.c (.bool false))⟩])
  (.seq (.seq (.ops [⟨(some 5), none, .fieldA 0 (.t 2)⟩, ⟨(some 6), none, .load false 1 (.t 5)⟩, ⟨(some 7), none, .fieldA 0 (.t 3)⟩, ⟨(some 8), none, .load false 1 (.t 7)⟩, ⟨(some 9), none, .bin .neq (.t 6) (.t 8)⟩])
  (.cond (.t 9) (.seq (.ops [⟨(some 4), none, .mv (.c (.bool false))⟩])
  .ret) .skip))
  (.seq (.seq (.ops [⟨(some 10), none, .fieldA 1 (.t 2)⟩, ⟨(some 11), none, .load true 5 (.t 10)⟩, ⟨(some 12), none, .fieldA 1 (.t 3)⟩, ⟨(some 13), none, .load true 5 (.t 12)⟩, ⟨(some 14), none, .call (.c (.fn (.func 71) [] [])) [(.t 11), (.t 13)]⟩, ⟨(some 15), none, .not (.t 14)⟩])
  (.cond (.t 15) (.seq (.ops [⟨(some 4), none, .mv (.c (.bool false))⟩])
  .ret) .skip))
  (.seq (.ops [⟨(some 4), none, .mv (.c (.bool true))⟩])
  .ret))))
theorem e30 {args : List PV} {σ : Heap} {K : PV → Heap → Prop} (hl : args.length ≤ 16) (h : Wf σ → (∀ a ∈ args, PV.upto σ.length a) → vc (mkCfg Try.prog mixed [2, 3] 16 σ.length) k30 (FinK σ.length [.t 4] K) (argEnv 0 args) σ) : ACall Try.prog 30 args σ K :=
  ACall_enter (C := mkCfg Try.prog mixed [2, 3] 16 σ.length) (c := Try.f30.body.getD .skip) Try.func30 (by kernel_rfl) (by kernel_rfl) (by kernel_rfl) rfl hl (by kernel_rfl) (by kernel_rfl) h
/- laws.eqInt64A5 -/
/- live [2, 3, 5] -/
def k71_b0 : KC := (.seq (.seq (.ops [⟨(some 6), none, .mv (.t 5)⟩, ⟨(some 7), none, .bin .lss (.t 6) (.c (.int .i64 5))⟩])
  (.cond (.t 7) .skip (.exit 0)))
  (.seq (.block 1 (.seq (.draw [⟨(some 10), none, .mv (.t 5)⟩, ⟨(some 11), none, .idxA 5 1 (.t 2) (.t 10)⟩, ⟨(some 12), none, .load false 1 (.t 11)⟩, ⟨(some 13), none, .mv (.t 5)⟩, ⟨(some 14), none, .idxA 5 1 (.t 3) (.t 13)⟩, ⟨(some 15), none, .load false 1 (.t 14)⟩, ⟨(some 16), none, .bin .neq (.t 12) (.t 15)⟩])
  (.cond (.t 16) (.seq (.ops [⟨(some 4), none, .mv (.c (.bool false))⟩])
  .ret) .skip)))
  (.ops [⟨(some 8), none, .mv (.t 5)⟩, ⟨(some 9), none, .bin .add (.t 8) (.c (.int .i64 1))⟩, ⟨(some 5), none, .mv (.t 9)⟩])))
def k71 : KC := (.seq (.ops [⟨(some 2), none, .box true (.t 0)⟩, ⟨(some 3), none, .box true (.t 1)⟩, ⟨(some 4), none, .mv (.c (.bool false))⟩])
  (.seq (.seq (.ops [⟨(some 5), none, .mv (.c (.int .i64 0))⟩])
  (.block 0 (.loop k71_b0)))
  (.seq (.ops [⟨(some 4), none, .mv (.c (.bool true))⟩])
  .ret)))
theorem e71 {args : List PV} {σ : Heap} {K : PV → Heap → Prop} (hl : args.length ≤ 17) (h : Wf σ → (∀ a ∈ args, PV.upto σ.length a) → vc (mkCfg Try.prog mixed [2, 3] 17 σ.length) k71 (FinK σ.length [.t 4] K) (argEnv 0 args) σ) : ACall Try.prog 71 args σ K :=
  ACall_enter (C := mkCfg Try.prog mixed [2, 3] 17 σ.length) (c := Try.f71.body.getD .skip) Try.func71 (by kernel_rfl) (by kernel_rfl) (by kernel_rfl) rfl hl (by kernel_rfl) (by kernel_rfl) h
end Go.Proofs.Ytkljidghocnllaa
