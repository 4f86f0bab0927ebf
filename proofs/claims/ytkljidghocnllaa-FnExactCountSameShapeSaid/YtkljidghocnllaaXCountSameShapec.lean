/- The compact code of functions of the seat, and how their calls are entered: printed by this session's own program. -/
import Derived.Test.YtkljidghocnllaaCb
namespace Go.Proofs.Ytkljidghocnllaa
open Go.Kv
set_option maxRecDepth 100000
/- laws.FnExactCountSameShape -/
def k14 : KC := (.seq (.ops [⟨(some 1), none, .box true (.t 0)⟩, ⟨(some 2), none, .mv (.c (.bool false))⟩])
  (.seq (.ops [⟨(some 10), none, .load true 6 (.t 1)⟩, ⟨(some 11), none, .call (.c (.fn (.func 16) [] [])) [(.t 10)]⟩, ⟨(some 12), none, .call (.c (.fn (.func 56) [] [])) [(.t 11)]⟩, ⟨(some 9), none, .mv (.t 12)⟩, ⟨(some 13), none, .extr 0 (.t 9)⟩, ⟨(some 14), none, .extr 1 (.t 9)⟩, ⟨(some 15), none, .extr 2 (.t 9)⟩, ⟨(some 3), none, .mv (.t 13)⟩, ⟨(some 4), none, .mv (.t 14)⟩, ⟨(some 5), none, .mv (.t 15)⟩])
  (.seq (.ops [⟨(some 17), none, .load true 6 (.t 1)⟩, ⟨(some 18), none, .call (.c (.fn (.func 16) [] [])) [(.t 17)]⟩, ⟨(some 19), none, .call (.c (.fn (.func 57) [] [])) [(.t 18)]⟩, ⟨(some 16), none, .mv (.t 19)⟩, ⟨(some 20), none, .extr 0 (.t 16)⟩, ⟨(some 21), none, .extr 1 (.t 16)⟩, ⟨(some 22), none, .extr 2 (.t 16)⟩, ⟨(some 6), none, .mv (.t 20)⟩, ⟨(some 7), none, .mv (.t 21)⟩, ⟨(some 8), none, .mv (.t 22)⟩])
  (.seq (.seq (.ops [⟨(some 23), none, .mv (.t 6)⟩, ⟨(some 24), none, .mv (.t 3)⟩, ⟨(some 25), none, .bin .neq (.t 23) (.t 24)⟩, ⟨(some 26), none, .mv (.t 25)⟩, ⟨(some 27), some (26, false), .mv (.t 7)⟩, ⟨(some 28), some (26, false), .mv (.t 4)⟩, ⟨(some 29), some (26, false), .bin .neq (.t 27) (.t 28)⟩, ⟨(some 30), none, .pick (.t 26) (.c (.bool true)) (.t 29)⟩, ⟨(some 31), none, .mv (.t 30)⟩, ⟨(some 32), some (31, false), .mv (.t 8)⟩, ⟨(some 33), some (31, false), .mv (.t 5)⟩, ⟨(some 34), some (31, false), .bin .neq (.t 32) (.t 33)⟩, ⟨(some 35), none, .pick (.t 31) (.c (.bool true)) (.t 34)⟩])
  (.cond (.t 35) (.seq (.ops [⟨(some 2), none, .mv (.c (.bool false))⟩])
  .ret) .skip))
  (.seq (.ops [⟨(some 2), none, .mv (.c (.bool true))⟩])
  .ret)))))
theorem e14 {args : List PV} {σ : Heap} {K : PV → Heap → Prop} (hl : args.length ≤ 36) (h : Wf σ → (∀ a ∈ args, PV.upto σ.length a) → vc (mkCfg Try.prog mixed [1] 36 σ.length) k14 (FinK σ.length [.t 2] K) (argEnv 0 args) σ) : ACall Try.prog 14 args σ K :=
  ACall_enter (C := mkCfg Try.prog mixed [1] 36 σ.length) (c := Try.f14.body.getD .skip) Try.func14 (by kernel_rfl) (by kernel_rfl) (by kernel_rfl) rfl hl (by kernel_rfl) (by kernel_rfl) h
end Go.Proofs.Ytkljidghocnllaa
