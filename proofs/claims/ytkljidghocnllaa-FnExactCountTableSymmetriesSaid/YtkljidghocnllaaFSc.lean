/- The compact code of functions of the seat, and how their calls are entered: printed by this session's own program. -/
import Derived.Test.YtkljidghocnllaaCb
namespace Go.Proofs.Ytkljidghocnllaa
open Go.Kv
set_option maxRecDepth 100000
/- impl.CountTableSymmetries -/
def k26 : KC := (.seq (.ops [⟨(some 2), none, .mv (.c (.int .i64 0))⟩, ⟨(some 3), none, .mv (.c (.int .i64 0))⟩])
  (.seq (.block 0 (.seq (.ops [⟨(some 7), none, .mv (.t 0)⟩, ⟨(some 8), none, .call (.c (.fn (.func 68) [] [])) [(.t 7)]⟩, ⟨(some 9), none, .not (.t 8)⟩, ⟨(some 6), none, .mv (.t 9)⟩])
  (.cond (.t 6) (.seq (.ops [⟨(some 2), none, .mv (.c (.int .i64 0))⟩, ⟨(some 3), none, .mv (.c (.int .i64 2))⟩])
  .ret) (.seq (.ops [⟨(some 11), none, .mv (.t 0)⟩, ⟨(some 12), none, .len false (.t 11)⟩, ⟨(some 13), none, .bin .gtr (.t 12) (.c (.int .i64 10))⟩, ⟨(some 10), none, .mv (.t 13)⟩])
  (.cond (.t 10) (.seq (.ops [⟨(some 2), none, .mv (.c (.int .i64 0))⟩, ⟨(some 3), none, .mv (.c (.int .i64 3))⟩])
  .ret) .skip)))))
  (.seq (.ops [⟨(some 4), none, .alloc [.int .i64 0]⟩, ⟨none, none, .store 1 (.t 4) (.c (.int .i64 0))⟩])
  (.seq (.ops [⟨(some 14), none, .mv (.t 0)⟩, ⟨(some 15), none, .mv (.t 0)⟩, ⟨(some 16), none, .mkfn (.func 69) [] [(.t 4)]⟩, ⟨(some 17), none, .build [.nils, .nils, .nils, .bool false, .bool false, .bool false, .bool false, .bool false, .bool false, .bool false, .bool false, .bool false, .bool false, .nilf] [(0, 1, (.t 14)), (1, 1, (.t 15)), (13, 1, (.t 16))]⟩, ⟨(some 18), none, .box false (.t 17)⟩, ⟨(some 5), none, .mv (.t 18)⟩])
  (.seq (.ops [⟨(some 19), none, .mv (.t 5)⟩, ⟨(some 20), none, .call (.c (.fn (.func 70) [] [])) [(.t 19)]⟩])
  (.seq (.ops [⟨(some 21), none, .load false 1 (.t 4)⟩, ⟨(some 2), none, .mv (.t 21)⟩, ⟨(some 3), none, .mv (.c (.int .i64 0))⟩])
  .ret))))))
theorem e26 {args : List PV} {σ : Heap} {K : PV → Heap → Prop} (hl : args.length ≤ 22) (h : Wf σ → (∀ a ∈ args, PV.upto σ.length a) → vc (mkCfg Try.prog mixed [] 22 σ.length) k26 (FinK σ.length [.t 2, .t 3] K) (argEnv 0 args) σ) : ACall Try.prog 26 args σ K :=
  ACall_enter (C := mkCfg Try.prog mixed [] 22 σ.length) (c := Try.f26.body.getD .skip) Try.func26 (by kernel_rfl) (by kernel_rfl) (by kernel_rfl) rfl hl (by kernel_rfl) (by kernel_rfl) h
end Go.Proofs.Ytkljidghocnllaa
