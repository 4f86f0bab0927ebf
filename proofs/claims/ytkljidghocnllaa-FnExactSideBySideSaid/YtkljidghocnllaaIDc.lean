/- The compact code of functions of the seat, and how their calls are entered: printed by this session's own program. -/
import Derived.Test.YtkljidghocnllaaCb
namespace Go.Proofs.Ytkljidghocnllaa
open Go.Kv
set_option maxRecDepth 100000
/- impl.identity -/
/- live [2, 3, 7, 8] -/
def k78_b0 : KC := (.seq (.ops [⟨(some 9), none, .bin .lss (.t 8) (.t 7)⟩])
  (.seq (.cond (.t 9) .skip (.exit 0))
  (.seq (.block 1 (.seq (.ops [⟨(some 10), none, .mv (.t 8)⟩, ⟨(some 4), none, .mv (.t 10)⟩])
  (.ops [⟨(some 11), none, .mv (.t 4)⟩, ⟨(some 12), none, .mv (.t 4)⟩, ⟨(some 13), none, .fieldA 1 (.t 3)⟩, ⟨(some 14), none, .idxA 5 1 (.t 13) (.t 11)⟩, ⟨none, none, .store 1 (.t 14) (.t 12)⟩])))
  (.ops [⟨(some 15), none, .bin .add (.t 8) (.c (.int .i64 1))⟩, ⟨(some 8), none, .mv (.t 15)⟩]))))
def k78 : KC := (.seq (.ops [⟨(some 2), none, .alloc [.int .i64 0, .int .i64 0, .int .i64 0, .int .i64 0, .int .i64 0, .int .i64 0]⟩])
  (.seq (.ops [⟨(some 5), none, .mv (.t 0)⟩, ⟨(some 6), none, .build [.int .i64 0, .int .i64 0, .int .i64 0, .int .i64 0, .int .i64 0, .int .i64 0] [(0, 1, (.t 5))]⟩, ⟨(some 3), none, .alloc [.int .i64 0, .int .i64 0, .int .i64 0, .int .i64 0, .int .i64 0, .int .i64 0]⟩, ⟨none, none, .store 6 (.t 3) (.t 6)⟩])
  (.seq (.seq (.ops [⟨(some 7), none, .mv (.t 0)⟩, ⟨(some 8), none, .mv (.c (.int .i64 0))⟩])
  (.block 0 (.loop k78_b0)))
  (.seq (.ops [⟨(some 16), none, .load true 6 (.t 3)⟩, ⟨none, none, .store 6 (.t 2) (.t 16)⟩])
  .ret))))
theorem e78 {args : List PV} {σ : Heap} {K : PV → Heap → Prop} (hl : args.length ≤ 17) (h : Wf σ → (∀ a ∈ args, PV.upto σ.length a) → vc (mkCfg Try.prog mixed [] 17 σ.length) k78 (FinK σ.length [.cell 2 true 6] K) (argEnv 0 args) σ) : ACall Try.prog 78 args σ K :=
  ACall_enter (C := mkCfg Try.prog mixed [] 17 σ.length) (c := Try.f78.body.getD .skip) Try.func78 (by kernel_rfl) (by kernel_rfl) (by kernel_rfl) rfl hl (by kernel_rfl) (by kernel_rfl) h
end Go.Proofs.Ytkljidghocnllaa
