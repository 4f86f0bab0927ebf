/- The compact code of functions of the seat, and how their calls are entered: printed by this session's own program. -/
import Derived.Test.YtpkddcjecfogeaaCb
namespace Go.Proofs.Ytpkddcjecfogeaa
open Go.Kv
set_option maxRecDepth 100000
/- laws.FnExactCycleType -/
def k3 : KC := (.seq (.ops [⟨(some 1), none, .box true (.t 0)⟩, ⟨(some 2), none, .mv (.c (.bool false))⟩])
  (.seq (.ops [⟨(some 12), none, .load true 6 (.t 1)⟩, ⟨(some 13), none, .call (.c (.fn (.func 15) [] [])) [(.t 12)]⟩, ⟨(some 14), none, .call (.c (.fn (.func 14) [] [])) [(.t 13)]⟩, ⟨(some 11), none, .mv (.t 14)⟩, ⟨(some 15), none, .extr 0 (.t 11)⟩, ⟨(some 16), none, .extr 1 (.t 11)⟩, ⟨(some 3), none, .mv (.t 15)⟩, ⟨(some 4), none, .mv (.t 16)⟩])
  (.seq (.ops [⟨(some 18), none, .load true 6 (.t 1)⟩, ⟨(some 19), none, .call (.c (.fn (.func 15) [] [])) [(.t 18)]⟩, ⟨(some 20), none, .call (.c (.fn (.func 16) [] [])) [(.t 19)]⟩, ⟨(some 17), none, .mv (.t 20)⟩, ⟨(some 21), none, .extr 0 (.t 17)⟩, ⟨(some 22), none, .extr 1 (.t 17)⟩, ⟨(some 5), none, .mv (.t 21)⟩, ⟨(some 6), none, .mv (.t 22)⟩])
  (.seq (.seq (.ops [⟨(some 23), none, .mv (.t 5)⟩, ⟨(some 24), none, .mv (.t 3)⟩, ⟨(some 25), none, .call (.c (.fn (.func 17) [] [])) [(.t 23), (.t 24)]⟩, ⟨(some 26), none, .not (.t 25)⟩, ⟨(some 27), none, .mv (.t 26)⟩, ⟨(some 28), some (27, false), .mv (.t 6)⟩, ⟨(some 29), some (27, false), .mv (.t 4)⟩, ⟨(some 30), some (27, false), .bin .neq (.t 28) (.t 29)⟩, ⟨(some 31), none, .pick (.t 27) (.c (.bool true)) (.t 30)⟩])
  (.cond (.t 31) (.seq (.ops [⟨(some 2), none, .mv (.c (.bool false))⟩])
  .ret) .skip))
  (.seq (.ops [⟨(some 7), none, .mv (.c (.int .i64 1))⟩])
  (.seq (.ops [⟨(some 32), none, .mv (.t 5)⟩, ⟨(some 33), none, .mv (.t 7)⟩, ⟨(some 34), none, .call (.c (.fn (.func 18) [] [])) [(.t 32), (.t 33)]⟩, ⟨(some 7), none, .mv (.t 34)⟩])
  (.seq (.ops [⟨(some 8), none, .mv (.c (.int .i64 1))⟩])
  (.seq (.ops [⟨(some 35), none, .mv (.t 5)⟩, ⟨(some 36), none, .mv (.t 8)⟩, ⟨(some 37), none, .call (.c (.fn (.func 19) [] [])) [(.t 35), (.t 36)]⟩, ⟨(some 8), none, .mv (.t 37)⟩])
  (.seq (.seq (.ops [⟨(some 38), none, .mv (.t 8)⟩, ⟨(some 39), none, .bin .lss (.t 38) (.c (.int .i64 0))⟩])
  (.cond (.t 39) (.seq (.ops [⟨(some 2), none, .mv (.c (.bool false))⟩])
  .ret) .skip))
  (.seq (.seq (.ops [⟨(some 40), none, .mv (.t 8)⟩, ⟨(some 41), none, .mv (.t 7)⟩, ⟨(some 42), none, .bin .neq (.t 40) (.t 41)⟩])
  (.cond (.t 42) (.seq (.ops [⟨(some 2), none, .mv (.c (.bool false))⟩])
  .ret) .skip))
  (.seq (.ops [⟨(some 44), none, .load true 6 (.t 1)⟩, ⟨(some 45), none, .call (.c (.fn (.func 15) [] [])) [(.t 44)]⟩, ⟨(some 46), none, .call (.c (.fn (.func 16) [] [])) [(.t 45)]⟩, ⟨(some 43), none, .mv (.t 46)⟩, ⟨(some 47), none, .extr 0 (.t 43)⟩, ⟨(some 48), none, .extr 1 (.t 43)⟩, ⟨(some 9), none, .mv (.t 47)⟩, ⟨(some 10), none, .mv (.t 48)⟩])
  (.seq (.seq (.ops [⟨(some 49), none, .mv (.t 9)⟩, ⟨(some 50), none, .mv (.t 3)⟩, ⟨(some 51), none, .call (.c (.fn (.func 17) [] [])) [(.t 49), (.t 50)]⟩, ⟨(some 52), none, .not (.t 51)⟩, ⟨(some 53), none, .mv (.t 52)⟩, ⟨(some 54), some (53, false), .mv (.t 10)⟩, ⟨(some 55), some (53, false), .mv (.t 4)⟩, ⟨(some 56), some (53, false), .bin .neq (.t 54) (.t 55)⟩, ⟨(some 57), none, .pick (.t 53) (.c (.bool true)) (.t 56)⟩])
  (.cond (.t 57) (.seq (.ops [⟨(some 2), none, .mv (.c (.bool false))⟩])
  .ret) .skip))
  (.seq (.ops [⟨(some 8), none, .mv (.c (.int .i64 1))⟩])
  (.seq (.ops [⟨(some 58), none, .mv (.t 5)⟩, ⟨(some 59), none, .mv (.t 8)⟩, ⟨(some 60), none, .call (.c (.fn (.func 19) [] [])) [(.t 58), (.t 59)]⟩, ⟨(some 8), none, .mv (.t 60)⟩])
  (.seq (.seq (.ops [⟨(some 61), none, .mv (.t 8)⟩, ⟨(some 62), none, .bin .lss (.t 61) (.c (.int .i64 0))⟩])
  (.cond (.t 62) (.seq (.ops [⟨(some 2), none, .mv (.c (.bool false))⟩])
  .ret) .skip))
  (.seq (.seq (.ops [⟨(some 63), none, .mv (.t 8)⟩, ⟨(some 64), none, .mv (.t 7)⟩, ⟨(some 65), none, .bin .neq (.t 63) (.t 64)⟩])
  (.cond (.t 65) (.seq (.ops [⟨(some 2), none, .mv (.c (.bool false))⟩])
  .ret) .skip))
  (.seq (.ops [⟨(some 2), none, .mv (.c (.bool true))⟩])
  .ret)))))))))))))))))
theorem e3 {args : List PV} {σ : Heap} {K : PV → Heap → Prop} (hl : args.length ≤ 66) (h : Wf σ → (∀ a ∈ args, PV.upto σ.length a) → vc (mkCfg Try.prog mixed [1] 66 σ.length) k3 (FinK σ.length [.t 2] K) (argEnv 0 args) σ) : ACall Try.prog 3 args σ K :=
  ACall_enter (C := mkCfg Try.prog mixed [1] 66 σ.length) (c := Try.f3.body.getD .skip) Try.func3 (by kernel_rfl) (by kernel_rfl) (by kernel_rfl) rfl hl (by kernel_rfl) (by kernel_rfl) h
end Go.Proofs.Ytpkddcjecfogeaa
