/- The compact code of functions of the seat, and how their calls are entered: printed by this session's own program. -/
import Derived.Test.YtkljidghocnllaaCb
namespace Go.Proofs.Ytkljidghocnllaa
open Go.Kv
set_option maxRecDepth 100000
/- laws.FnExactCountRoots -/
def k3 : KC := (.seq (.ops [⟨(some 2), none, .box true (.t 0)⟩, ⟨(some 4), none, .mv (.c (.bool false))⟩])
  (.seq (.ops [⟨(some 10), none, .load true 6 (.t 2)⟩, ⟨(some 11), none, .call (.c (.fn (.func 16) [] [])) [(.t 10)]⟩, ⟨(some 12), none, .mv (.t 1)⟩, ⟨(some 13), none, .call (.c (.fn (.func 15) [] [])) [(.t 11), (.t 12)]⟩, ⟨(some 9), none, .mv (.t 13)⟩, ⟨(some 14), none, .extr 0 (.t 9)⟩, ⟨(some 15), none, .extr 1 (.t 9)⟩, ⟨(some 5), none, .mv (.t 14)⟩, ⟨(some 6), none, .mv (.t 15)⟩])
  (.seq (.ops [⟨(some 17), none, .load true 6 (.t 2)⟩, ⟨(some 18), none, .call (.c (.fn (.func 16) [] [])) [(.t 17)]⟩, ⟨(some 19), none, .mv (.t 1)⟩, ⟨(some 20), none, .call (.c (.fn (.func 17) [] [])) [(.t 18), (.t 19)]⟩, ⟨(some 16), none, .mv (.t 20)⟩, ⟨(some 21), none, .extr 0 (.t 16)⟩, ⟨(some 22), none, .extr 1 (.t 16)⟩, ⟨(some 7), none, .mv (.t 21)⟩, ⟨(some 8), none, .mv (.t 22)⟩])
  (.seq (.seq (.ops [⟨(some 23), none, .mv (.t 7)⟩, ⟨(some 24), none, .mv (.t 5)⟩, ⟨(some 25), none, .bin .neq (.t 23) (.t 24)⟩, ⟨(some 26), none, .mv (.t 25)⟩, ⟨(some 27), some (26, false), .mv (.t 8)⟩, ⟨(some 28), some (26, false), .mv (.t 6)⟩, ⟨(some 29), some (26, false), .bin .neq (.t 27) (.t 28)⟩, ⟨(some 30), none, .pick (.t 26) (.c (.bool true)) (.t 29)⟩])
  (.cond (.t 30) (.seq (.ops [⟨(some 4), none, .mv (.c (.bool false))⟩])
  .ret) .skip))
  (.seq (.ops [⟨(some 4), none, .mv (.c (.bool true))⟩])
  .ret)))))
theorem e3 {args : List PV} {σ : Heap} {K : PV → Heap → Prop} (hl : args.length ≤ 31) (h : Wf σ → (∀ a ∈ args, PV.upto σ.length a) → vc (mkCfg Try.prog mixed [2] 31 σ.length) k3 (FinK σ.length [.t 4] K) (argEnv 0 args) σ) : ACall Try.prog 3 args σ K :=
  ACall_enter (C := mkCfg Try.prog mixed [2] 31 σ.length) (c := Try.f3.body.getD .skip) Try.func3 (by kernel_rfl) (by kernel_rfl) (by kernel_rfl) rfl hl (by kernel_rfl) (by kernel_rfl) h
end Go.Proofs.Ytkljidghocnllaa
