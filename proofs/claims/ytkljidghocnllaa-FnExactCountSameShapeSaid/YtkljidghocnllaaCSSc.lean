/- The compact code of functions of the seat, and how their calls are entered: printed by this session's own program. -/
import Derived.Test.YtkljidghocnllaaCb
namespace Go.Proofs.Ytkljidghocnllaa
open Go.Kv
set_option maxRecDepth 100000
/- impl.CountSameShape -/
/- live [1, 5, 6, 15, 16, 17] -/
def k57_b0 : KC := (.seq (.ops [⟨(some 18), none, .bin .lss (.t 17) (.t 16)⟩])
  (.seq (.cond (.t 18) .skip (.exit 0))
  (.seq (.block 1 (.seq (.ops [⟨(some 19), none, .idxS 6 (.t 15) (.t 17)⟩, ⟨(some 20), none, .load true 6 (.t 19)⟩, ⟨(some 8), none, .alloc [.int .i64 0, .int .i64 0, .int .i64 0, .int .i64 0, .int .i64 0, .int .i64 0]⟩, ⟨none, none, .store 6 (.t 8) (.t 20)⟩])
  (.seq (.ops [⟨(some 21), none, .load true 6 (.t 1)⟩, ⟨(some 22), none, .load true 6 (.t 8)⟩, ⟨(some 23), none, .call (.c (.fn (.func 101) [] [])) [(.t 21), (.t 22)]⟩])
  (.cond (.t 23) (.ops [⟨(some 24), none, .mv (.t 6)⟩, ⟨(some 25), none, .bin .add (.t 24) (.c (.int .i64 1))⟩, ⟨(some 6), none, .mv (.t 25)⟩]) .skip))))
  (.ops [⟨(some 26), none, .bin .add (.t 17) (.c (.int .i64 1))⟩, ⟨(some 17), none, .mv (.t 26)⟩]))))
def k57 : KC := (.seq (.ops [⟨(some 1), none, .box true (.t 0)⟩, ⟨(some 2), none, .mv (.c (.int .i64 0))⟩, ⟨(some 3), none, .mv (.c (.int .i64 0))⟩, ⟨(some 4), none, .mv (.c (.int .i64 0))⟩])
  (.seq (.seq (.ops [⟨(some 9), none, .load true 6 (.t 1)⟩, ⟨(some 10), none, .call (.c (.fn (.func 77) [] [])) [(.t 9)]⟩, ⟨(some 11), none, .not (.t 10)⟩])
  (.cond (.t 11) (.seq (.ops [⟨(some 2), none, .mv (.c (.int .i64 0))⟩, ⟨(some 3), none, .mv (.c (.int .i64 0))⟩, ⟨(some 4), none, .mv (.c (.int .i64 1))⟩])
  .ret) .skip))
  (.seq (.ops [⟨(some 12), none, .fieldA 0 (.t 1)⟩, ⟨(some 13), none, .load false 1 (.t 12)⟩, ⟨(some 14), none, .call (.c (.fn (.func 100) [] [])) [(.t 13)]⟩, ⟨(some 5), none, .mv (.t 14)⟩])
  (.seq (.ops [⟨(some 6), none, .mv (.c (.int .i64 0))⟩])
  (.seq (.seq (.ops [⟨(some 15), none, .mv (.t 5)⟩, ⟨(some 16), none, .len false (.t 15)⟩, ⟨(some 17), none, .mv (.c (.int .i64 0))⟩])
  (.block 0 (.loop k57_b0)))
  (.seq (.ops [⟨(some 27), none, .mv (.t 5)⟩, ⟨(some 28), none, .len false (.t 27)⟩, ⟨(some 29), none, .mv (.t 6)⟩, ⟨(some 30), none, .bin .quo (.t 28) (.t 29)⟩, ⟨(some 31), none, .mv (.t 6)⟩, ⟨(some 2), none, .mv (.t 30)⟩, ⟨(some 3), none, .mv (.t 31)⟩, ⟨(some 4), none, .mv (.c (.int .i64 0))⟩])
  .ret))))))
theorem e57 {args : List PV} {σ : Heap} {K : PV → Heap → Prop} (hl : args.length ≤ 32) (h : Wf σ → (∀ a ∈ args, PV.upto σ.length a) → vc (mkCfg Try.prog mixed [1] 32 σ.length) k57 (FinK σ.length [.t 2, .t 3, .t 4] K) (argEnv 0 args) σ) : ACall Try.prog 57 args σ K :=
  ACall_enter (C := mkCfg Try.prog mixed [1] 32 σ.length) (c := Try.f57.body.getD .skip) Try.func57 (by kernel_rfl) (by kernel_rfl) (by kernel_rfl) rfl hl (by kernel_rfl) (by kernel_rfl) h
/- spec.CountSameShape -/
/- live [1, 5, 6, 7] -/
def k56_b0 : KC := (.seq (.seq (.ops [⟨(some 15), none, .mv (.t 7)⟩, ⟨(some 16), none, .mv (.t 5)⟩, ⟨(some 17), none, .len false (.t 16)⟩, ⟨(some 18), none, .bin .lss (.t 15) (.t 17)⟩])
  (.cond (.t 18) .skip (.exit 0)))
  (.seq (.block 1 (.seq (.draw [⟨(some 21), none, .load true 6 (.t 1)⟩, ⟨(some 22), none, .mv (.t 5)⟩, ⟨(some 23), none, .mv (.t 7)⟩, ⟨(some 24), none, .idxS 6 (.t 22) (.t 23)⟩, ⟨(some 25), none, .load true 6 (.t 24)⟩, ⟨(some 27), none, .mv (.t 5)⟩, ⟨(some 28), none, .mv (.t 7)⟩, ⟨(some 29), none, .idxS 6 (.t 27) (.t 28)⟩, ⟨(some 30), none, .load true 6 (.t 29)⟩, ⟨(some 31), none, .load true 6 (.t 1)⟩, ⟨(some 26), none, .pcall (.c (.fn (.func 99) [] [])) [(.t 21), (.t 25)]⟩, ⟨(some 32), none, .pcall (.c (.fn (.func 99) [] [])) [(.t 30), (.t 31)]⟩, ⟨(some 33), none, .aeq false 6 (.t 26) (.t 32)⟩])
  (.cond (.t 33) (.ops [⟨(some 34), none, .mv (.t 6)⟩, ⟨(some 35), none, .bin .add (.t 34) (.c (.int .i64 1))⟩, ⟨(some 6), none, .mv (.t 35)⟩]) .skip)))
  (.ops [⟨(some 19), none, .mv (.t 7)⟩, ⟨(some 20), none, .bin .add (.t 19) (.c (.int .i64 1))⟩, ⟨(some 7), none, .mv (.t 20)⟩])))
def k56 : KC := (.seq (.ops [⟨(some 1), none, .box true (.t 0)⟩, ⟨(some 2), none, .mv (.c (.int .i64 0))⟩, ⟨(some 3), none, .mv (.c (.int .i64 0))⟩, ⟨(some 4), none, .mv (.c (.int .i64 0))⟩])
  (.seq (.seq (.ops [⟨(some 8), none, .load true 6 (.t 1)⟩, ⟨(some 9), none, .call (.c (.fn (.func 97) [] [])) [(.t 8)]⟩, ⟨(some 10), none, .not (.t 9)⟩])
  (.cond (.t 10) (.seq (.ops [⟨(some 2), none, .mv (.c (.int .i64 0))⟩, ⟨(some 3), none, .mv (.c (.int .i64 0))⟩, ⟨(some 4), none, .mv (.c (.int .i64 1))⟩])
  .ret) .skip))
  (.seq (.ops [⟨(some 11), none, .fieldA 0 (.t 1)⟩, ⟨(some 12), none, .load false 1 (.t 11)⟩, ⟨(some 13), none, .bsl false 2 1 []⟩, ⟨(some 14), none, .call (.c (.fn (.func 98) [] [])) [(.t 12), (.t 13)]⟩, ⟨(some 5), none, .mv (.t 14)⟩, ⟨(some 6), none, .mv (.c (.int .i64 0))⟩])
  (.seq (.seq (.ops [⟨(some 7), none, .mv (.c (.int .i64 0))⟩])
  (.block 0 (.loop k56_b0)))
  (.seq (.ops [⟨(some 36), none, .mv (.t 5)⟩, ⟨(some 37), none, .len false (.t 36)⟩, ⟨(some 38), none, .mv (.t 6)⟩, ⟨(some 39), none, .bin .quo (.t 37) (.t 38)⟩, ⟨(some 40), none, .mv (.t 6)⟩, ⟨(some 2), none, .mv (.t 39)⟩, ⟨(some 3), none, .mv (.t 40)⟩, ⟨(some 4), none, .mv (.c (.int .i64 0))⟩])
  .ret)))))
theorem e56 {args : List PV} {σ : Heap} {K : PV → Heap → Prop} (hl : args.length ≤ 41) (h : Wf σ → (∀ a ∈ args, PV.upto σ.length a) → vc (mkCfg Try.prog mixed [1] 41 σ.length) k56 (FinK σ.length [.t 2, .t 3, .t 4] K) (argEnv 0 args) σ) : ACall Try.prog 56 args σ K :=
  ACall_enter (C := mkCfg Try.prog mixed [1] 41 σ.length) (c := Try.f56.body.getD .skip) Try.func56 (by kernel_rfl) (by kernel_rfl) (by kernel_rfl) rfl hl (by kernel_rfl) (by kernel_rfl) h
end Go.Proofs.Ytkljidghocnllaa
