/- The compact code of functions of the seat, and how their calls are entered: printed by this session's own program. -/
import Derived.Test.YtkljidghocnllaaCb
namespace Go.Proofs.Ytkljidghocnllaa
open Go.Kv
set_option maxRecDepth 100000
/- impl.whole -/
/- live [0, 5, 6, 7] -/
def k133_b0 : KC := (.seq (.ops [⟨(some 8), none, .bin .lss (.t 7) (.t 6)⟩])
  (.seq (.cond (.t 8) .skip (.exit 0))
  (.seq (.block 1 (.ops [⟨(some 9), none, .mv (.t 5)⟩, ⟨(some 10), none, .mv (.t 0)⟩, ⟨(some 11), none, .bin .mul (.t 9) (.t 10)⟩, ⟨(some 5), none, .mv (.t 11)⟩]))
  (.ops [⟨(some 12), none, .bin .add (.t 7) (.c (.int .i64 1))⟩, ⟨(some 7), none, .mv (.t 12)⟩]))))
def k133 : KC := (.seq (.ops [⟨(some 4), none, .mv (.c (.int .i64 0))⟩])
  (.seq (.ops [⟨(some 5), none, .mv (.c (.int .i64 1))⟩])
  (.seq (.seq (.ops [⟨(some 6), none, .mv (.t 1)⟩, ⟨(some 7), none, .mv (.c (.int .i64 0))⟩])
  (.block 0 (.loop k133_b0)))
  (.seq (.ops [⟨(some 13), none, .mv (.t 5)⟩, ⟨(some 4), none, .mv (.t 13)⟩])
  .ret))))
theorem e133 {args : List PV} {σ : Heap} {K : PV → Heap → Prop} (hl : args.length ≤ 14) (h : Wf σ → (∀ a ∈ args, PV.upto σ.length a) → vc (mkCfg Try.prog mixed [] 14 σ.length) k133 (FinK σ.length [.t 4] K) (argEnv 0 args) σ) : ACall Try.prog 133 args σ K :=
  ACall_enter (C := mkCfg Try.prog mixed [] 14 σ.length) (c := Try.f133.body.getD .skip) Try.func133 (by kernel_rfl) (by kernel_rfl) (by kernel_rfl) rfl hl (by kernel_rfl) (by kernel_rfl) h
end Go.Proofs.Ytkljidghocnllaa
