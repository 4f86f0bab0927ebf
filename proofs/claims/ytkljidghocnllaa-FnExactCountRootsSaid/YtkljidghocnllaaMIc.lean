/- The compact code of functions of the seat, and how their calls are entered: printed by this session's own program. -/
import Derived.Test.YtkljidghocnllaaCb
namespace Go.Proofs.Ytkljidghocnllaa
open Go.Kv
set_option maxRecDepth 100000
/- spec.l01Power -/
/- live [1, 2, 4, 5] -/
def k60_b0 : KC := (.seq (.seq (.ops [⟨(some 9), none, .mv (.t 1)⟩, ⟨(some 10), none, .bin .gtr (.t 9) (.c (.int .i64 0))⟩])
  (.cond (.t 10) .skip (.exit 0)))
  (.seq (.block 1 (.seq (.seq (.ops [⟨(some 13), none, .mv (.t 1)⟩, ⟨(some 14), none, .bin .rem (.t 13) (.c (.int .i64 2))⟩, ⟨(some 15), none, .bin .eql (.t 14) (.c (.int .i64 1))⟩])
  (.cond (.t 15) (.ops [⟨(some 16), none, .load true 6 (.t 5)⟩, ⟨(some 17), none, .load true 6 (.t 2)⟩, ⟨(some 18), none, .call (.c (.fn (.func 99) [] [])) [(.t 16), (.t 17)]⟩, ⟨none, none, .store 6 (.t 5) (.t 18)⟩]) .skip))
  (.ops [⟨(some 19), none, .load true 6 (.t 2)⟩, ⟨(some 20), none, .load true 6 (.t 2)⟩, ⟨(some 21), none, .call (.c (.fn (.func 99) [] [])) [(.t 19), (.t 20)]⟩, ⟨none, none, .store 6 (.t 2) (.t 21)⟩])))
  (.ops [⟨(some 11), none, .mv (.t 1)⟩, ⟨(some 12), none, .bin .quo (.t 11) (.c (.int .i64 2))⟩, ⟨(some 1), none, .mv (.t 12)⟩])))
def k60 : KC := (.seq (.ops [⟨(some 2), none, .box false (.t 0)⟩, ⟨(some 4), none, .alloc [.int .i64 0, .int .i64 0, .int .i64 0, .int .i64 0, .int .i64 0, .int .i64 0]⟩])
  (.seq (.ops [⟨(some 6), none, .fieldA 0 (.t 2)⟩, ⟨(some 7), none, .load false 1 (.t 6)⟩, ⟨(some 8), none, .call (.c (.fn (.func 75) [] [])) [(.t 7)]⟩, ⟨(some 5), none, .alloc [.int .i64 0, .int .i64 0, .int .i64 0, .int .i64 0, .int .i64 0, .int .i64 0]⟩, ⟨none, none, .store 6 (.t 5) (.t 8)⟩])
  (.seq (.block 0 (.loop k60_b0))
  (.seq (.ops [⟨(some 22), none, .load true 6 (.t 5)⟩, ⟨none, none, .store 6 (.t 4) (.t 22)⟩])
  .ret))))
theorem e60 {args : List PV} {σ : Heap} {K : PV → Heap → Prop} (hl : args.length ≤ 23) (h : Wf σ → (∀ a ∈ args, PV.upto σ.length a) → vc (mkCfg Try.prog mixed [] 23 σ.length) k60 (FinK σ.length [.cell 4 true 6] K) (argEnv 0 args) σ) : ACall Try.prog 60 args σ K :=
  ACall_enter (C := mkCfg Try.prog mixed [] 23 σ.length) (c := Try.f60.body.getD .skip) Try.func60 (by kernel_rfl) (by kernel_rfl) (by kernel_rfl) rfl hl (by kernel_rfl) (by kernel_rfl) h
end Go.Proofs.Ytkljidghocnllaa
