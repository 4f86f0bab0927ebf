/- The compact code of functions of the seat, and how their calls are entered: printed by this session's own program. -/
import Derived.Test.YtkljidghocnllaaCb
namespace Go.Proofs.Ytkljidghocnllaa
open Go.Kv
set_option maxRecDepth 100000
/- laws.FnExactIsInvariantPartition -/
def k9 : KC := (.seq (.ops [⟨(some 4), none, .mv (.c (.bool false))⟩])
  (.seq (.seq (.ops [⟨(some 12), none, .mv (.t 1)⟩, ⟨(some 13), none, .len false (.t 12)⟩, ⟨(some 14), none, .bin .gtr (.t 13) (.c (.int .i64 1048576))⟩])
  (.cond (.t 14) (.seq (.ops [⟨(some 4), none, .mv (.c (.bool true))⟩])
  .ret) .skip))
  (.seq (.ops [⟨(some 5), none, .mv (.c (.int .i64 1048576))⟩])
  (.seq (.ops [⟨(some 15), none, .mv (.t 0)⟩, ⟨(some 16), none, .mv (.t 5)⟩, ⟨(some 17), none, .call (.c (.fn (.func 37) [] [])) [(.t 15), (.t 16)]⟩, ⟨(some 5), none, .mv (.t 17)⟩])
  (.seq (.seq (.ops [⟨(some 18), none, .mv (.t 5)⟩, ⟨(some 19), none, .bin .lss (.t 18) (.c (.int .i64 0))⟩])
  (.cond (.t 19) (.seq (.ops [⟨(some 4), none, .mv (.c (.bool true))⟩])
  .ret) .skip))
  (.seq (.ops [⟨(some 21), none, .mv (.t 0)⟩, ⟨(some 22), none, .call (.c (.fn (.func 39) [] [])) [(.t 21)]⟩, ⟨(some 23), none, .mv (.t 1)⟩, ⟨(some 24), none, .call (.c (.fn (.func 45) [] [])) [(.t 23)]⟩, ⟨(some 25), none, .call (.c (.fn (.func 44) [] [])) [(.t 22), (.t 24)]⟩, ⟨(some 20), none, .mv (.t 25)⟩, ⟨(some 26), none, .extr 0 (.t 20)⟩, ⟨(some 27), none, .extr 1 (.t 20)⟩, ⟨(some 6), none, .mv (.t 26)⟩, ⟨(some 7), none, .mv (.t 27)⟩])
  (.seq (.ops [⟨(some 28), none, .mv (.t 0)⟩, ⟨(some 29), none, .call (.c (.fn (.func 39) [] [])) [(.t 28)]⟩, ⟨(some 8), none, .mv (.t 29)⟩])
  (.seq (.ops [⟨(some 30), none, .mv (.t 1)⟩, ⟨(some 31), none, .call (.c (.fn (.func 45) [] [])) [(.t 30)]⟩, ⟨(some 9), none, .mv (.t 31)⟩])
  (.seq (.ops [⟨(some 33), none, .mv (.t 8)⟩, ⟨(some 34), none, .mv (.t 9)⟩, ⟨(some 35), none, .call (.c (.fn (.func 46) [] [])) [(.t 33), (.t 34)]⟩, ⟨(some 32), none, .mv (.t 35)⟩, ⟨(some 36), none, .extr 0 (.t 32)⟩, ⟨(some 37), none, .extr 1 (.t 32)⟩, ⟨(some 10), none, .mv (.t 36)⟩, ⟨(some 11), none, .mv (.t 37)⟩])
  (.seq (.seq (.ops [⟨(some 38), none, .mv (.t 10)⟩, ⟨(some 39), none, .mv (.t 6)⟩, ⟨(some 40), none, .beq true (.t 38) (.t 39)⟩, ⟨(some 41), none, .mv (.t 40)⟩, ⟨(some 42), some (41, false), .mv (.t 11)⟩, ⟨(some 43), some (41, false), .mv (.t 7)⟩, ⟨(some 44), some (41, false), .bin .neq (.t 42) (.t 43)⟩, ⟨(some 45), none, .pick (.t 41) (.c (.bool true)) (.t 44)⟩])
  (.cond (.t 45) (.seq (.ops [⟨(some 4), none, .mv (.c (.bool false))⟩])
  .ret) .skip))
  (.seq (.seq (.ops [⟨(some 46), none, .mv (.t 8)⟩, ⟨(some 47), none, .mv (.t 0)⟩, ⟨(some 48), none, .call (.c (.fn (.func 39) [] [])) [(.t 47)]⟩, ⟨(some 49), none, .call (.c (.fn (.func 41) [] [])) [(.t 46), (.t 48)]⟩, ⟨(some 50), none, .not (.t 49)⟩])
  (.cond (.t 50) (.seq (.ops [⟨(some 4), none, .mv (.c (.bool false))⟩])
  .ret) .skip))
  (.seq (.seq (.ops [⟨(some 51), none, .mv (.t 9)⟩, ⟨(some 52), none, .mv (.t 1)⟩, ⟨(some 53), none, .call (.c (.fn (.func 45) [] [])) [(.t 52)]⟩, ⟨(some 54), none, .call (.c (.fn (.func 33) [] [])) [(.t 51), (.t 53)]⟩, ⟨(some 55), none, .not (.t 54)⟩])
  (.cond (.t 55) (.seq (.ops [⟨(some 4), none, .mv (.c (.bool false))⟩])
  .ret) .skip))
  (.seq (.ops [⟨(some 4), none, .mv (.c (.bool true))⟩])
  .ret)))))))))))))
theorem e9 {args : List PV} {σ : Heap} {K : PV → Heap → Prop} (hl : args.length ≤ 56) (h : Wf σ → (∀ a ∈ args, PV.upto σ.length a) → vc (mkCfg Try.prog mixed [] 56 σ.length) k9 (FinK σ.length [.t 4] K) (argEnv 0 args) σ) : ACall Try.prog 9 args σ K :=
  ACall_enter (C := mkCfg Try.prog mixed [] 56 σ.length) (c := Try.f9.body.getD .skip) Try.func9 (by kernel_rfl) (by kernel_rfl) (by kernel_rfl) rfl hl (by kernel_rfl) (by kernel_rfl) h
end Go.Proofs.Ytkljidghocnllaa
