/- The compact code of functions of the seat, and how their calls are entered: printed by this session's own program. -/
import Derived.Test.YtpkddcjecfogeaaCb
namespace Go.Proofs.Ytpkddcjecfogeaa
open Go.Kv
set_option maxRecDepth 100000
/- laws.FnExactCountShapes -/
def k4 : KC := (.seq (.ops [⟨(some 2), none, .mv (.c (.bool false))⟩])
  (.seq (.ops [⟨(some 8), none, .mv (.t 0)⟩, ⟨(some 9), none, .call (.c (.fn (.func 20) [] [])) [(.t 8)]⟩, ⟨(some 7), none, .mv (.t 9)⟩, ⟨(some 10), none, .extr 0 (.t 7)⟩, ⟨(some 11), none, .extr 1 (.t 7)⟩, ⟨(some 3), none, .mv (.t 10)⟩, ⟨(some 4), none, .mv (.t 11)⟩])
  (.seq (.ops [⟨(some 13), none, .mv (.t 0)⟩, ⟨(some 14), none, .call (.c (.fn (.func 21) [] [])) [(.t 13)]⟩, ⟨(some 12), none, .mv (.t 14)⟩, ⟨(some 15), none, .extr 0 (.t 12)⟩, ⟨(some 16), none, .extr 1 (.t 12)⟩, ⟨(some 5), none, .mv (.t 15)⟩, ⟨(some 6), none, .mv (.t 16)⟩])
  (.seq (.seq (.ops [⟨(some 17), none, .mv (.t 5)⟩, ⟨(some 18), none, .mv (.t 3)⟩, ⟨(some 19), none, .bin .neq (.t 17) (.t 18)⟩, ⟨(some 20), none, .mv (.t 19)⟩, ⟨(some 21), some (20, false), .mv (.t 6)⟩, ⟨(some 22), some (20, false), .mv (.t 4)⟩, ⟨(some 23), some (20, false), .bin .neq (.t 21) (.t 22)⟩, ⟨(some 24), none, .pick (.t 20) (.c (.bool true)) (.t 23)⟩])
  (.cond (.t 24) (.seq (.ops [⟨(some 2), none, .mv (.c (.bool false))⟩])
  .ret) .skip))
  (.seq (.ops [⟨(some 2), none, .mv (.c (.bool true))⟩])
  .ret)))))
theorem e4 {args : List PV} {σ : Heap} {K : PV → Heap → Prop} (hl : args.length ≤ 25) (h : Wf σ → (∀ a ∈ args, PV.upto σ.length a) → vc (mkCfg Try.prog mixed [] 25 σ.length) k4 (FinK σ.length [.t 2] K) (argEnv 0 args) σ) : ACall Try.prog 4 args σ K :=
  ACall_enter (C := mkCfg Try.prog mixed [] 25 σ.length) (c := Try.f4.body.getD .skip) Try.func4 (by kernel_rfl) (by kernel_rfl) (by kernel_rfl) rfl hl (by kernel_rfl) (by kernel_rfl) h
end Go.Proofs.Ytpkddcjecfogeaa
