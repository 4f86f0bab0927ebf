/- The compact code of functions of the seat, and how their calls are entered: printed by this session's own program. -/
import Derived.Test.YtkljidghocnllaaCb
namespace Go.Proofs.Ytkljidghocnllaa
open Go.Kv
set_option maxRecDepth 100000
/- impl.column -/
/- live [1, 5, 8, 9, 10] -/
def k87_b0 : KC := (.seq (.ops [⟨(some 11), none, .bin .lss (.t 10) (.t 9)⟩])
  (.seq (.cond (.t 11) .skip (.exit 0))
  (.seq (.block 1 (.seq (.ops [⟨(some 12), none, .idxS 1 (.t 8) (.t 10)⟩, ⟨(some 13), none, .load false 1 (.t 12)⟩, ⟨(some 7), none, .mv (.t 13)⟩])
  (.ops [⟨(some 14), none, .mv (.t 5)⟩, ⟨(some 15), none, .mv (.t 7)⟩, ⟨(some 16), none, .mv (.t 1)⟩, ⟨(some 17), none, .idxS 1 (.t 15) (.t 16)⟩, ⟨(some 18), none, .load false 1 (.t 17)⟩, ⟨(some 19), none, .bsl true 2 1 [(.t 18)]⟩, ⟨(some 20), none, .app (.t 14) (.t 19) 2 1⟩, ⟨(some 5), none, .mv (.t 20)⟩])))
  (.ops [⟨(some 21), none, .bin .add (.t 10) (.c (.int .i64 1))⟩, ⟨(some 10), none, .mv (.t 21)⟩]))))
def k87 : KC := (.seq (.ops [⟨(some 4), none, .mv (.c (.nils))⟩])
  (.seq (.ops [⟨(some 5), none, .mv (.c (.nils))⟩])
  (.seq (.seq (.ops [⟨(some 8), none, .mv (.t 0)⟩, ⟨(some 9), none, .len false (.t 8)⟩, ⟨(some 10), none, .mv (.c (.int .i64 0))⟩])
  (.block 0 (.loop k87_b0)))
  (.seq (.ops [⟨(some 22), none, .mv (.t 5)⟩, ⟨(some 4), none, .mv (.t 22)⟩])
  .ret))))
theorem e87 {args : List PV} {σ : Heap} {K : PV → Heap → Prop} (hl : args.length ≤ 23) (h : Wf σ → (∀ a ∈ args, PV.upto σ.length a) → vc (mkCfg Try.prog mixed [19] 23 σ.length) k87 (FinK σ.length [.t 4] K) (argEnv 0 args) σ) : ACall Try.prog 87 args σ K :=
  ACall_enter (C := mkCfg Try.prog mixed [19] 23 σ.length) (c := Try.f87.body.getD .skip) Try.func87 (by kernel_rfl) (by kernel_rfl) (by kernel_rfl) rfl hl (by kernel_rfl) (by kernel_rfl) h
end Go.Proofs.Ytkljidghocnllaa
