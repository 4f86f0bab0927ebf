/- The compact code of functions of the seat, and how their calls are entered: printed by this session's own program. -/
import Derived.Test.YtpkddcjecfogeaaCb
namespace Go.Proofs.Ytpkddcjecfogeaa
open Go.Kv
set_option maxRecDepth 100000
/- laws.FnExactAreSameShape -/
def k6 : KC := (.seq (.ops [⟨(some 2), none, .box true (.t 0)⟩, ⟨(some 3), none, .box true (.t 1)⟩, ⟨(some 4), none, .mv (.c (.bool false))⟩])
  (.seq (.draw [⟨(some 10), none, .load true 6 (.t 2)⟩, ⟨(some 12), none, .load true 6 (.t 3)⟩, ⟨(some 11), none, .pcall (.c (.fn (.func 15) [] [])) [(.t 10)]⟩, ⟨(some 13), none, .pcall (.c (.fn (.func 15) [] [])) [(.t 12)]⟩, ⟨(some 14), none, .pcall (.c (.fn (.func 25) [] [])) [(.t 11), (.t 13)]⟩, ⟨(some 9), none, .mv (.t 14)⟩, ⟨(some 15), none, .extr 0 (.t 9)⟩, ⟨(some 16), none, .extr 1 (.t 9)⟩, ⟨(some 5), none, .mv (.t 15)⟩, ⟨(some 6), none, .mv (.t 16)⟩])
  (.seq (.draw [⟨(some 18), none, .load true 6 (.t 2)⟩, ⟨(some 20), none, .load true 6 (.t 3)⟩, ⟨(some 19), none, .pcall (.c (.fn (.func 15) [] [])) [(.t 18)]⟩, ⟨(some 21), none, .pcall (.c (.fn (.func 15) [] [])) [(.t 20)]⟩, ⟨(some 22), none, .pcall (.c (.fn (.func 26) [] [])) [(.t 19), (.t 21)]⟩, ⟨(some 17), none, .mv (.t 22)⟩, ⟨(some 23), none, .extr 0 (.t 17)⟩, ⟨(some 24), none, .extr 1 (.t 17)⟩, ⟨(some 7), none, .mv (.t 23)⟩, ⟨(some 8), none, .mv (.t 24)⟩])
  (.seq (.seq (.ops [⟨(some 25), none, .mv (.t 7)⟩, ⟨(some 26), none, .mv (.t 5)⟩, ⟨(some 27), none, .beq true (.t 25) (.t 26)⟩, ⟨(some 28), none, .mv (.t 27)⟩, ⟨(some 29), some (28, false), .mv (.t 8)⟩, ⟨(some 30), some (28, false), .mv (.t 6)⟩, ⟨(some 31), some (28, false), .bin .neq (.t 29) (.t 30)⟩, ⟨(some 32), none, .pick (.t 28) (.c (.bool true)) (.t 31)⟩])
  (.cond (.t 32) (.seq (.ops [⟨(some 4), none, .mv (.c (.bool false))⟩])
  .ret) .skip))
  (.seq (.ops [⟨(some 4), none, .mv (.c (.bool true))⟩])
  .ret)))))
theorem e6 {args : List PV} {σ : Heap} {K : PV → Heap → Prop} (hl : args.length ≤ 33) (h : Wf σ → (∀ a ∈ args, PV.upto σ.length a) → vc (mkCfg Try.prog mixed [2, 3] 33 σ.length) k6 (FinK σ.length [.t 4] K) (argEnv 0 args) σ) : ACall Try.prog 6 args σ K :=
  ACall_enter (C := mkCfg Try.prog mixed [2, 3] 33 σ.length) (c := Try.f6.body.getD .skip) Try.func6 (by kernel_rfl) (by kernel_rfl) (by kernel_rfl) rfl hl (by kernel_rfl) (by kernel_rfl) h
end Go.Proofs.Ytpkddcjecfogeaa
