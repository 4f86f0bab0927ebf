/- The compact code of functions of the seat, and how their calls are entered: printed by this session's own program. -/
import Derived.Test.YtkdkdkkimieieaaCb
namespace Go.Proofs.Ytkdkdkkimieieaa
open Go.Kv
set_option maxRecDepth 100000
/- laws.FnExactCountCommuting -/
def k7 : KC := (.seq (.ops [⟨(some 1), none, .box true (.t 0)⟩, ⟨(some 2), none, .mv (.c (.bool false))⟩])
  (.seq (.ops [⟨(some 8), none, .load true 6 (.t 1)⟩, ⟨(some 9), none, .call (.c (.fn (.func 30) [] [])) [(.t 8)]⟩, ⟨(some 10), none, .call (.c (.fn (.func 29) [] [])) [(.t 9)]⟩, ⟨(some 7), none, .mv (.t 10)⟩, ⟨(some 11), none, .extr 0 (.t 7)⟩, ⟨(some 12), none, .extr 1 (.t 7)⟩, ⟨(some 3), none, .mv (.t 11)⟩, ⟨(some 4), none, .mv (.t 12)⟩])
  (.seq (.ops [⟨(some 14), none, .load true 6 (.t 1)⟩, ⟨(some 15), none, .call (.c (.fn (.func 30) [] [])) [(.t 14)]⟩, ⟨(some 16), none, .call (.c (.fn (.func 31) [] [])) [(.t 15)]⟩, ⟨(some 13), none, .mv (.t 16)⟩, ⟨(some 17), none, .extr 0 (.t 13)⟩, ⟨(some 18), none, .extr 1 (.t 13)⟩, ⟨(some 5), none, .mv (.t 17)⟩, ⟨(some 6), none, .mv (.t 18)⟩])
  (.seq (.seq (.ops [⟨(some 19), none, .mv (.t 5)⟩, ⟨(some 20), none, .mv (.t 3)⟩, ⟨(some 21), none, .bin .neq (.t 19) (.t 20)⟩, ⟨(some 22), none, .mv (.t 21)⟩, ⟨(some 23), some (22, false), .mv (.t 6)⟩, ⟨(some 24), some (22, false), .mv (.t 4)⟩, ⟨(some 25), some (22, false), .bin .neq (.t 23) (.t 24)⟩, ⟨(some 26), none, .pick (.t 22) (.c (.bool true)) (.t 25)⟩])
  (.cond (.t 26) (.seq (.ops [⟨(some 2), none, .mv (.c (.bool false))⟩])
  .ret) .skip))
  (.seq (.ops [⟨(some 2), none, .mv (.c (.bool true))⟩])
  .ret)))))
theorem e7 {args : List PV} {σ : Heap} {K : PV → Heap → Prop} (hl : args.length ≤ 27) (h : Wf σ → (∀ a ∈ args, PV.upto σ.length a) → vc (mkCfg Try.prog mixed [1] 27 σ.length) k7 (FinK σ.length [.t 2] K) (argEnv 0 args) σ) : ACall Try.prog 7 args σ K :=
  ACall_enter (C := mkCfg Try.prog mixed [1] 27 σ.length) (c := Try.f7.body.getD .skip) Try.func7 (by kernel_rfl) (by kernel_rfl) (by kernel_rfl) rfl hl (by kernel_rfl) (by kernel_rfl) h
/- spec.CountCommuting -/
/- live [1, 4, 5, 6] -/
def k29_b0 : KC := (.seq (.seq (.ops [⟨(some 13), none, .mv (.t 6)⟩, ⟨(some 14), none, .mv (.t 4)⟩, ⟨(some 15), none, .len false (.t 14)⟩, ⟨(some 16), none, .bin .lss (.t 13) (.t 15)⟩])
  (.cond (.t 16) .skip (.exit 0)))
  (.seq (.block 1 (.seq (.draw [⟨(some 19), none, .mv (.t 4)⟩, ⟨(some 20), none, .mv (.t 6)⟩, ⟨(some 21), none, .idxS 6 (.t 19) (.t 20)⟩, ⟨(some 22), none, .load true 6 (.t 21)⟩, ⟨(some 23), none, .load true 6 (.t 1)⟩, ⟨(some 25), none, .load true 6 (.t 1)⟩, ⟨(some 26), none, .mv (.t 4)⟩, ⟨(some 27), none, .mv (.t 6)⟩, ⟨(some 28), none, .idxS 6 (.t 26) (.t 27)⟩, ⟨(some 29), none, .load true 6 (.t 28)⟩, ⟨(some 24), none, .pcall (.c (.fn (.func 66) [] [])) [(.t 22), (.t 23)]⟩, ⟨(some 30), none, .pcall (.c (.fn (.func 66) [] [])) [(.t 25), (.t 29)]⟩, ⟨(some 31), none, .aeq false 6 (.t 24) (.t 30)⟩])
  (.cond (.t 31) (.ops [⟨(some 32), none, .mv (.t 5)⟩, ⟨(some 33), none, .bin .add (.t 32) (.c (.int .i64 1))⟩, ⟨(some 5), none, .mv (.t 33)⟩]) .skip)))
  (.ops [⟨(some 17), none, .mv (.t 6)⟩, ⟨(some 18), none, .bin .add (.t 17) (.c (.int .i64 1))⟩, ⟨(some 6), none, .mv (.t 18)⟩])))
def k29 : KC := (.seq (.ops [⟨(some 1), none, .box true (.t 0)⟩, ⟨(some 2), none, .mv (.c (.int .i64 0))⟩, ⟨(some 3), none, .mv (.c (.int .i64 0))⟩])
  (.seq (.seq (.ops [⟨(some 7), none, .load true 6 (.t 1)⟩, ⟨(some 8), none, .call (.c (.fn (.func 64) [] [])) [(.t 7)]⟩, ⟨(some 9), none, .not (.t 8)⟩])
  (.cond (.t 9) (.seq (.ops [⟨(some 2), none, .mv (.c (.int .i64 0))⟩, ⟨(some 3), none, .mv (.c (.int .i64 1))⟩])
  .ret) .skip))
  (.seq (.ops [⟨(some 10), none, .fieldA 0 (.t 1)⟩, ⟨(some 11), none, .load false 1 (.t 10)⟩, ⟨(some 12), none, .call (.c (.fn (.func 65) [] [])) [(.t 11)]⟩, ⟨(some 4), none, .mv (.t 12)⟩, ⟨(some 5), none, .mv (.c (.int .i64 0))⟩])
  (.seq (.seq (.ops [⟨(some 6), none, .mv (.c (.int .i64 0))⟩])
  (.block 0 (.loop k29_b0)))
  (.seq (.ops [⟨(some 34), none, .mv (.t 5)⟩, ⟨(some 2), none, .mv (.t 34)⟩, ⟨(some 3), none, .mv (.c (.int .i64 0))⟩])
  .ret)))))
theorem e29 {args : List PV} {σ : Heap} {K : PV → Heap → Prop} (hl : args.length ≤ 35) (h : Wf σ → (∀ a ∈ args, PV.upto σ.length a) → vc (mkCfg Try.prog mixed [1] 35 σ.length) k29 (FinK σ.length [.t 2, .t 3] K) (argEnv 0 args) σ) : ACall Try.prog 29 args σ K :=
  ACall_enter (C := mkCfg Try.prog mixed [1] 35 σ.length) (c := Try.f29.body.getD .skip) Try.func29 (by kernel_rfl) (by kernel_rfl) (by kernel_rfl) rfl hl (by kernel_rfl) (by kernel_rfl) h
/- impl.CountCommuting -/
def k31 : KC := (.seq (.ops [⟨(some 1), none, .box true (.t 0)⟩, ⟨(some 2), none, .mv (.c (.int .i64 0))⟩, ⟨(some 3), none, .mv (.c (.int .i64 0))⟩])
  (.seq (.seq (.ops [⟨(some 5), none, .load true 6 (.t 1)⟩, ⟨(some 6), none, .call (.c (.fn (.func 68) [] [])) [(.t 5)]⟩, ⟨(some 7), none, .not (.t 6)⟩])
  (.cond (.t 7) (.seq (.ops [⟨(some 2), none, .mv (.c (.int .i64 0))⟩, ⟨(some 3), none, .mv (.c (.int .i64 1))⟩])
  .ret) .skip))
  (.seq (.ops [⟨(some 8), none, .fieldA 0 (.t 1)⟩, ⟨(some 9), none, .load false 1 (.t 8)⟩, ⟨(some 10), none, .call (.c (.fn (.func 70) [] [])) [(.t 9)]⟩, ⟨(some 11), none, .mkfn (.func 71) [] [(.t 1)]⟩, ⟨(some 12), none, .call (.c (.fn (.func 69) [] [])) [(.t 10), (.t 11)]⟩, ⟨(some 4), none, .mv (.t 12)⟩])
  (.seq (.ops [⟨(some 13), none, .mv (.t 4)⟩, ⟨(some 14), none, .len false (.t 13)⟩, ⟨(some 2), none, .mv (.t 14)⟩, ⟨(some 3), none, .mv (.c (.int .i64 0))⟩])
  .ret))))
theorem e31 {args : List PV} {σ : Heap} {K : PV → Heap → Prop} (hl : args.length ≤ 15) (h : Wf σ → (∀ a ∈ args, PV.upto σ.length a) → vc (mkCfg Try.prog mixed [1] 15 σ.length) k31 (FinK σ.length [.t 2, .t 3] K) (argEnv 0 args) σ) : ACall Try.prog 31 args σ K :=
  ACall_enter (C := mkCfg Try.prog mixed [1] 15 σ.length) (c := Try.f31.body.getD .skip) Try.func31 (by kernel_rfl) (by kernel_rfl) (by kernel_rfl) rfl hl (by kernel_rfl) (by kernel_rfl) h
/- impl.CountCommuting$1 -/
def k71 : KC := (.seq (.ops [⟨(some 2), none, .box true (.t 0)⟩, ⟨(some 3), none, .mv (.c (.bool false))⟩])
  (.seq (.ops [⟨(some 4), none, .load true 6 (.t 1)⟩, ⟨(some 5), none, .load true 6 (.t 2)⟩, ⟨(some 6), none, .call (.c (.fn (.func 72) [] [])) [(.t 4), (.t 5)]⟩, ⟨(some 7), none, .not (.t 6)⟩, ⟨(some 3), none, .mv (.t 7)⟩])
  .ret))
theorem e71 {args : List PV} {σ : Heap} {K : PV → Heap → Prop} (hl : args.length ≤ 8) (h : Wf σ → (∀ a ∈ args, PV.upto σ.length a) → vc (mkCfg Try.prog mixed [2] 8 σ.length) k71 (FinK σ.length [.t 3] K) (argEnv 0 args) σ) : ACall Try.prog 71 args σ K :=
  ACall_enter (C := mkCfg Try.prog mixed [2] 8 σ.length) (c := Try.f71.body.getD .skip) Try.func71 (by kernel_rfl) (by kernel_rfl) (by kernel_rfl) rfl hl (by kernel_rfl) (by kernel_rfl) h
/- impl.commute -/
def k72 : KC := (.seq (.ops [⟨(some 2), none, .box true (.t 0)⟩, ⟨(some 3), none, .box true (.t 1)⟩, ⟨(some 4), none, .mv (.c (.bool false))⟩])
  (.seq (.draw [⟨(some 5), none, .load true 6 (.t 2)⟩, ⟨(some 6), none, .load true 6 (.t 3)⟩, ⟨(some 8), none, .load true 6 (.t 3)⟩, ⟨(some 9), none, .load true 6 (.t 2)⟩, ⟨(some 7), none, .pcall (.c (.fn (.func 95) [] [])) [(.t 5), (.t 6)]⟩, ⟨(some 10), none, .pcall (.c (.fn (.func 95) [] [])) [(.t 8), (.t 9)]⟩, ⟨(some 11), none, .aeq false 6 (.t 7) (.t 10)⟩, ⟨(some 4), none, .mv (.t 11)⟩])
  .ret))
theorem e72 {args : List PV} {σ : Heap} {K : PV → Heap → Prop} (hl : args.length ≤ 12) (h : Wf σ → (∀ a ∈ args, PV.upto σ.length a) → vc (mkCfg Try.prog mixed [2, 3] 12 σ.length) k72 (FinK σ.length [.t 4] K) (argEnv 0 args) σ) : ACall Try.prog 72 args σ K :=
  ACall_enter (C := mkCfg Try.prog mixed [2, 3] 12 σ.length) (c := Try.f72.body.getD .skip) Try.func72 (by kernel_rfl) (by kernel_rfl) (by kernel_rfl) rfl hl (by kernel_rfl) (by kernel_rfl) h
end Go.Proofs.Ytkdkdkkimieieaa
