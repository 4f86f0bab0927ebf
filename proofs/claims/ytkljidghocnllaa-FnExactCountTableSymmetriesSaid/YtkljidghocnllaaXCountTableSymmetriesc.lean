/- The compact code of functions of the seat, and how their calls are entered: printed by this session's own program. -/
import Derived.Test.YtkljidghocnllaaCb
namespace Go.Proofs.Ytkljidghocnllaa
open Go.Kv
set_option maxRecDepth 100000
/- laws.FnExactCountTableSymmetries -/
def k5 : KC := (.seq (.ops [⟨(some 2), none, .mv (.c (.bool false))⟩])
  (.seq (.ops [⟨(some 3), none, .mv (.c (.int .i64 1048576))⟩])
  (.seq (.ops [⟨(some 9), none, .mv (.t 0)⟩, ⟨(some 10), none, .mv (.t 3)⟩, ⟨(some 11), none, .call (.c (.fn (.func 23) [] [])) [(.t 9), (.t 10)]⟩, ⟨(some 3), none, .mv (.t 11)⟩])
  (.seq (.seq (.ops [⟨(some 12), none, .mv (.t 3)⟩, ⟨(some 13), none, .bin .lss (.t 12) (.c (.int .i64 0))⟩])
  (.cond (.t 13) (.seq (.ops [⟨(some 2), none, .mv (.c (.bool true))⟩])
  .ret) .skip))
  (.seq (.ops [⟨(some 15), none, .mv (.t 0)⟩, ⟨(some 16), none, .call (.c (.fn (.func 25) [] [])) [(.t 15)]⟩, ⟨(some 17), none, .call (.c (.fn (.func 24) [] [])) [(.t 16)]⟩, ⟨(some 14), none, .mv (.t 17)⟩, ⟨(some 18), none, .extr 0 (.t 14)⟩, ⟨(some 19), none, .extr 1 (.t 14)⟩, ⟨(some 4), none, .mv (.t 18)⟩, ⟨(some 5), none, .mv (.t 19)⟩])
  (.seq (.ops [⟨(some 20), none, .mv (.t 0)⟩, ⟨(some 21), none, .call (.c (.fn (.func 25) [] [])) [(.t 20)]⟩, ⟨(some 6), none, .mv (.t 21)⟩])
  (.seq (.ops [⟨(some 23), none, .mv (.t 6)⟩, ⟨(some 24), none, .call (.c (.fn (.func 26) [] [])) [(.t 23)]⟩, ⟨(some 22), none, .mv (.t 24)⟩, ⟨(some 25), none, .extr 0 (.t 22)⟩, ⟨(some 26), none, .extr 1 (.t 22)⟩, ⟨(some 7), none, .mv (.t 25)⟩, ⟨(some 8), none, .mv (.t 26)⟩])
  (.seq (.seq (.ops [⟨(some 27), none, .mv (.t 7)⟩, ⟨(some 28), none, .mv (.t 4)⟩, ⟨(some 29), none, .bin .neq (.t 27) (.t 28)⟩, ⟨(some 30), none, .mv (.t 29)⟩, ⟨(some 31), some (30, false), .mv (.t 8)⟩, ⟨(some 32), some (30, false), .mv (.t 5)⟩, ⟨(some 33), some (30, false), .bin .neq (.t 31) (.t 32)⟩, ⟨(some 34), none, .pick (.t 30) (.c (.bool true)) (.t 33)⟩])
  (.cond (.t 34) (.seq (.ops [⟨(some 2), none, .mv (.c (.bool false))⟩])
  .ret) .skip))
  (.seq (.seq (.ops [⟨(some 35), none, .mv (.t 6)⟩, ⟨(some 36), none, .mv (.t 0)⟩, ⟨(some 37), none, .call (.c (.fn (.func 25) [] [])) [(.t 36)]⟩, ⟨(some 38), none, .call (.c (.fn (.func 27) [] [])) [(.t 35), (.t 37)]⟩, ⟨(some 39), none, .not (.t 38)⟩])
  (.cond (.t 39) (.seq (.ops [⟨(some 2), none, .mv (.c (.bool false))⟩])
  .ret) .skip))
  (.seq (.ops [⟨(some 2), none, .mv (.c (.bool true))⟩])
  .ret))))))))))
theorem e5 {args : List PV} {σ : Heap} {K : PV → Heap → Prop} (hl : args.length ≤ 40) (h : Wf σ → (∀ a ∈ args, PV.upto σ.length a) → vc (mkCfg Try.prog mixed [] 40 σ.length) k5 (FinK σ.length [.t 2] K) (argEnv 0 args) σ) : ACall Try.prog 5 args σ K :=
  ACall_enter (C := mkCfg Try.prog mixed [] 40 σ.length) (c := Try.f5.body.getD .skip) Try.func5 (by kernel_rfl) (by kernel_rfl) (by kernel_rfl) rfl hl (by kernel_rfl) (by kernel_rfl) h
end Go.Proofs.Ytkljidghocnllaa
