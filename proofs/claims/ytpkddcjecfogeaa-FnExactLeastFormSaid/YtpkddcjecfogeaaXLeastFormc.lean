/- The compact code of functions of the seat, and how their calls are entered: printed by this session's own program. -/
import Derived.Test.YtpkddcjecfogeaaCb
namespace Go.Proofs.Ytpkddcjecfogeaa
open Go.Kv
set_option maxRecDepth 100000
/- laws.FnExactLeastForm -/
def k5 : KC := (.seq (.ops [⟨(some 1), none, .box true (.t 0)⟩, ⟨(some 2), none, .mv (.c (.bool false))⟩])
  (.seq (.ops [⟨(some 8), none, .load true 6 (.t 1)⟩, ⟨(some 9), none, .call (.c (.fn (.func 15) [] [])) [(.t 8)]⟩, ⟨(some 10), none, .call (.c (.fn (.func 22) [] [])) [(.t 9)]⟩, ⟨(some 7), none, .mv (.t 10)⟩, ⟨(some 11), none, .extr 0 (.t 7)⟩, ⟨(some 12), none, .extr 1 (.t 7)⟩, ⟨(some 3), none, .alloc [.int .i64 0, .int .i64 0, .int .i64 0, .int .i64 0, .int .i64 0, .int .i64 0]⟩, ⟨none, none, .store 6 (.t 3) (.t 11)⟩, ⟨(some 4), none, .mv (.t 12)⟩])
  (.seq (.ops [⟨(some 14), none, .load true 6 (.t 1)⟩, ⟨(some 15), none, .call (.c (.fn (.func 15) [] [])) [(.t 14)]⟩, ⟨(some 16), none, .call (.c (.fn (.func 23) [] [])) [(.t 15)]⟩, ⟨(some 13), none, .mv (.t 16)⟩, ⟨(some 17), none, .extr 0 (.t 13)⟩, ⟨(some 18), none, .extr 1 (.t 13)⟩, ⟨(some 5), none, .alloc [.int .i64 0, .int .i64 0, .int .i64 0, .int .i64 0, .int .i64 0, .int .i64 0]⟩, ⟨none, none, .store 6 (.t 5) (.t 17)⟩, ⟨(some 6), none, .mv (.t 18)⟩])
  (.seq (.seq (.ops [⟨(some 19), none, .load true 6 (.t 5)⟩, ⟨(some 20), none, .load true 6 (.t 3)⟩, ⟨(some 21), none, .call (.c (.fn (.func 24) [] [])) [(.t 19), (.t 20)]⟩, ⟨(some 22), none, .not (.t 21)⟩, ⟨(some 23), none, .mv (.t 22)⟩, ⟨(some 24), some (23, false), .mv (.t 6)⟩, ⟨(some 25), some (23, false), .mv (.t 4)⟩, ⟨(some 26), some (23, false), .bin .neq (.t 24) (.t 25)⟩, ⟨(some 27), none, .pick (.t 23) (.c (.bool true)) (.t 26)⟩])
  (.cond (.t 27) (.seq (.ops [⟨(some 2), none, .mv (.c (.bool false))⟩])
  .ret) .skip))
  (.seq (.ops [⟨(some 2), none, .mv (.c (.bool true))⟩])
  .ret)))))
theorem e5 {args : List PV} {σ : Heap} {K : PV → Heap → Prop} (hl : args.length ≤ 28) (h : Wf σ → (∀ a ∈ args, PV.upto σ.length a) → vc (mkCfg Try.prog mixed [1] 28 σ.length) k5 (FinK σ.length [.t 2] K) (argEnv 0 args) σ) : ACall Try.prog 5 args σ K :=
  ACall_enter (C := mkCfg Try.prog mixed [1] 28 σ.length) (c := Try.f5.body.getD .skip) Try.func5 (by kernel_rfl) (by kernel_rfl) (by kernel_rfl) rfl hl (by kernel_rfl) (by kernel_rfl) h
end Go.Proofs.Ytpkddcjecfogeaa
