/- The compact code of functions of the seat, and how their calls are entered: printed by this session's own program. -/
import Derived.Test.YtkljidghocnllaaCb
namespace Go.Proofs.Ytkljidghocnllaa
open Go.Kv
set_option maxRecDepth 100000
/- laws.FnExactFirstRoot -/
def k6 : KC := (.seq (.ops [⟨(some 2), none, .box true (.t 0)⟩, ⟨(some 4), none, .mv (.c (.bool false))⟩])
  (.seq (.ops [⟨(some 10), none, .load true 6 (.t 2)⟩, ⟨(some 11), none, .call (.c (.fn (.func 16) [] [])) [(.t 10)]⟩, ⟨(some 12), none, .mv (.t 1)⟩, ⟨(some 13), none, .call (.c (.fn (.func 28) [] [])) [(.t 11), (.t 12)]⟩, ⟨(some 9), none, .mv (.t 13)⟩, ⟨(some 14), none, .extr 0 (.t 9)⟩, ⟨(some 15), none, .extr 1 (.t 9)⟩, ⟨(some 5), none, .alloc [.int .i64 0, .int .i64 0, .int .i64 0, .int .i64 0, .int .i64 0, .int .i64 0]⟩, ⟨none, none, .store 6 (.t 5) (.t 14)⟩, ⟨(some 6), none, .mv (.t 15)⟩])
  (.seq (.ops [⟨(some 17), none, .load true 6 (.t 2)⟩, ⟨(some 18), none, .call (.c (.fn (.func 16) [] [])) [(.t 17)]⟩, ⟨(some 19), none, .mv (.t 1)⟩, ⟨(some 20), none, .call (.c (.fn (.func 29) [] [])) [(.t 18), (.t 19)]⟩, ⟨(some 16), none, .mv (.t 20)⟩, ⟨(some 21), none, .extr 0 (.t 16)⟩, ⟨(some 22), none, .extr 1 (.t 16)⟩, ⟨(some 7), none, .alloc [.int .i64 0, .int .i64 0, .int .i64 0, .int .i64 0, .int .i64 0, .int .i64 0]⟩, ⟨none, none, .store 6 (.t 7) (.t 21)⟩, ⟨(some 8), none, .mv (.t 22)⟩])
  (.seq (.seq (.ops [⟨(some 23), none, .load true 6 (.t 7)⟩, ⟨(some 24), none, .load true 6 (.t 5)⟩, ⟨(some 25), none, .call (.c (.fn (.func 30) [] [])) [(.t 23), (.t 24)]⟩, ⟨(some 26), none, .not (.t 25)⟩, ⟨(some 27), none, .mv (.t 26)⟩, ⟨(some 28), some (27, false), .mv (.t 8)⟩, ⟨(some 29), some (27, false), .mv (.t 6)⟩, ⟨(some 30), some (27, false), .bin .neq (.t 28) (.t 29)⟩, ⟨(some 31), none, .pick (.t 27) (.c (.bool true)) (.t 30)⟩])
  (.cond (.t 31) (.seq (.ops [⟨(some 4), none, .mv (.c (.bool false))⟩])
  .ret) .skip))
  (.seq (.ops [⟨(some 4), none, .mv (.c (.bool true))⟩])
  .ret)))))
theorem e6 {args : List PV} {σ : Heap} {K : PV → Heap → Prop} (hl : args.length ≤ 32) (h : Wf σ → (∀ a ∈ args, PV.upto σ.length a) → vc (mkCfg Try.prog mixed [2] 32 σ.length) k6 (FinK σ.length [.t 4] K) (argEnv 0 args) σ) : ACall Try.prog 6 args σ K :=
  ACall_enter (C := mkCfg Try.prog mixed [2] 32 σ.length) (c := Try.f6.body.getD .skip) Try.func6 (by kernel_rfl) (by kernel_rfl) (by kernel_rfl) rfl hl (by kernel_rfl) (by kernel_rfl) h
end Go.Proofs.Ytkljidghocnllaa
