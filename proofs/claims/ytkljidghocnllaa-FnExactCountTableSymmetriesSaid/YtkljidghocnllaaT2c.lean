/- The compact code of functions of the seat, and how their calls are entered: printed by this session's own program. -/
import Derived.Test.YtkljidghocnllaaCb
namespace Go.Proofs.Ytkljidghocnllaa
open Go.Kv
set_option maxRecDepth 100000
/- spec.l08Is -/
/- live [0, 3, 4, 5] -/
def k66_b0 : KC := (.seq (.seq (.ops [⟨(some 26), none, .mv (.t 5)⟩, ⟨(some 27), none, .mv (.t 3)⟩, ⟨(some 28), none, .bin .lss (.t 26) (.t 27)⟩])
  (.cond (.t 28) .skip (.exit 2)))
  (.seq (.block 3 (.seq (.ops [⟨(some 31), none, .mv (.t 0)⟩, ⟨(some 32), none, .mv (.t 4)⟩, ⟨(some 33), none, .idxS 1 (.t 31) (.t 32)⟩, ⟨(some 34), none, .load false 1 (.t 33)⟩, ⟨(some 35), none, .mv (.t 5)⟩, ⟨(some 36), none, .idxS 1 (.t 34) (.t 35)⟩, ⟨(some 37), none, .load false 1 (.t 36)⟩, ⟨(some 38), none, .mv (.t 3)⟩, ⟨(some 39), none, .bin .sub (.t 38) (.c (.int .i64 1))⟩, ⟨(some 40), none, .call (.c (.fn (.func 102) [] [])) [(.t 37), (.c (.int .i64 0)), (.t 39)]⟩, ⟨(some 41), none, .not (.t 40)⟩])
  (.cond (.t 41) (.seq (.ops [⟨(some 2), none, .mv (.c (.bool false))⟩])
  .ret) .skip)))
  (.ops [⟨(some 29), none, .mv (.t 5)⟩, ⟨(some 30), none, .bin .add (.t 29) (.c (.int .i64 1))⟩, ⟨(some 5), none, .mv (.t 30)⟩])))
/- live [0, 3, 4] -/
def k66_b1 : KC := (.seq (.seq (.ops [⟨(some 14), none, .mv (.t 4)⟩, ⟨(some 15), none, .mv (.t 3)⟩, ⟨(some 16), none, .bin .lss (.t 14) (.t 15)⟩])
  (.cond (.t 16) .skip (.exit 0)))
  (.seq (.block 1 (.seq (.seq (.ops [⟨(some 19), none, .mv (.t 0)⟩, ⟨(some 20), none, .mv (.t 4)⟩, ⟨(some 21), none, .idxS 1 (.t 19) (.t 20)⟩, ⟨(some 22), none, .load false 1 (.t 21)⟩, ⟨(some 23), none, .len false (.t 22)⟩, ⟨(some 24), none, .mv (.t 3)⟩, ⟨(some 25), none, .bin .neq (.t 23) (.t 24)⟩])
  (.cond (.t 25) (.seq (.ops [⟨(some 2), none, .mv (.c (.bool false))⟩])
  .ret) .skip))
  (.seq (.ops [⟨(some 5), none, .mv (.c (.int .i64 0))⟩])
  (.block 2 (.loop k66_b0)))))
  (.ops [⟨(some 17), none, .mv (.t 4)⟩, ⟨(some 18), none, .bin .add (.t 17) (.c (.int .i64 1))⟩, ⟨(some 4), none, .mv (.t 18)⟩])))
def k66 : KC := (.seq (.ops [⟨(some 2), none, .mv (.c (.bool false))⟩])
  (.seq (.ops [⟨(some 6), none, .mv (.t 0)⟩, ⟨(some 7), none, .len false (.t 6)⟩, ⟨(some 3), none, .mv (.t 7)⟩])
  (.seq (.seq (.ops [⟨(some 8), none, .mv (.t 3)⟩, ⟨(some 9), none, .bin .lss (.t 8) (.c (.int .i64 1))⟩, ⟨(some 10), none, .mv (.t 9)⟩, ⟨(some 11), some (10, false), .mv (.t 3)⟩, ⟨(some 12), some (10, false), .bin .gtr (.t 11) (.c (.int .i64 40))⟩, ⟨(some 13), none, .pick (.t 10) (.c (.bool true)) (.t 12)⟩])
  (.cond (.t 13) (.seq (.ops [⟨(some 2), none, .mv (.c (.bool false))⟩])
  .ret) .skip))
  (.seq (.seq (.ops [⟨(some 4), none, .mv (.c (.int .i64 0))⟩])
  (.block 0 (.loop k66_b1)))
  (.seq (.ops [⟨(some 2), none, .mv (.c (.bool true))⟩])
  .ret)))))
theorem e66 {args : List PV} {σ : Heap} {K : PV → Heap → Prop} (hl : args.length ≤ 42) (h : Wf σ → (∀ a ∈ args, PV.upto σ.length a) → vc (mkCfg Try.prog mixed [] 42 σ.length) k66 (FinK σ.length [.t 2] K) (argEnv 0 args) σ) : ACall Try.prog 66 args σ K :=
  ACall_enter (C := mkCfg Try.prog mixed [] 42 σ.length) (c := Try.f66.body.getD .skip) Try.func66 (by kernel_rfl) (by kernel_rfl) (by kernel_rfl) rfl hl (by kernel_rfl) (by kernel_rfl) h
/- impl.isTable -/
def k68 : KC := (.seq (.ops [⟨(some 2), none, .mv (.c (.bool false))⟩])
  (.seq (.ops [⟨(some 4), none, .mv (.t 0)⟩, ⟨(some 5), none, .len false (.t 4)⟩, ⟨(some 3), none, .alloc [.int .i64 0]⟩, ⟨none, none, .store 1 (.t 3) (.t 5)⟩])
  (.seq (.ops [⟨(some 6), none, .load false 1 (.t 3)⟩, ⟨(some 7), none, .call (.c (.fn (.func 103) [] [])) [(.t 6), (.c (.int .i64 1)), (.c (.int .i64 40))]⟩, ⟨(some 8), none, .mv (.t 7)⟩, ⟨(some 9), some (8, true), .mv (.t 0)⟩, ⟨(some 10), some (8, true), .mkfn (.func 112) [] [(.t 3)]⟩, ⟨(some 11), some (8, true), .call (.c (.fn (.func 111) [] [])) [(.t 9), (.t 10)]⟩, ⟨(some 12), some (8, true), .not (.t 11)⟩, ⟨(some 13), none, .pick (.t 8) (.t 12) (.c (.bool false))⟩, ⟨(some 2), none, .mv (.t 13)⟩])
  .ret)))
theorem e68 {args : List PV} {σ : Heap} {K : PV → Heap → Prop} (hl : args.length ≤ 14) (h : Wf σ → (∀ a ∈ args, PV.upto σ.length a) → vc (mkCfg Try.prog mixed [] 14 σ.length) k68 (FinK σ.length [.t 2] K) (argEnv 0 args) σ) : ACall Try.prog 68 args σ K :=
  ACall_enter (C := mkCfg Try.prog mixed [] 14 σ.length) (c := Try.f68.body.getD .skip) Try.func68 (by kernel_rfl) (by kernel_rfl) (by kernel_rfl) rfl hl (by kernel_rfl) (by kernel_rfl) h
/- slices.ContainsFunc[[][]int64,[]int64] -/
def k111 : KC := (.seq (.ops [⟨(some 4), none, .mv (.c (.bool false))⟩])
  (.seq (.ops [⟨(some 5), none, .mv (.t 0)⟩, ⟨(some 6), none, .mv (.t 1)⟩, ⟨(some 7), none, .call (.c (.fn (.func 134) [] [])) [(.t 5), (.t 6)]⟩, ⟨(some 8), none, .bin .geq (.t 7) (.c (.int .i64 0))⟩, ⟨(some 4), none, .mv (.t 8)⟩])
  .ret))
theorem e111 {args : List PV} {σ : Heap} {K : PV → Heap → Prop} (hl : args.length ≤ 9) (h : Wf σ → (∀ a ∈ args, PV.upto σ.length a) → vc (mkCfg Try.prog mixed [] 9 σ.length) k111 (FinK σ.length [.t 4] K) (argEnv 0 args) σ) : ACall Try.prog 111 args σ K :=
  ACall_enter (C := mkCfg Try.prog mixed [] 9 σ.length) (c := Try.f111.body.getD .skip) Try.func111 (by kernel_rfl) (by kernel_rfl) (by kernel_rfl) rfl hl (by kernel_rfl) (by kernel_rfl) h
/- impl.isTable$1 -/
def k112 : KC := (.seq (.ops [⟨(some 3), none, .mv (.c (.bool false))⟩])
  (.seq (.ops [⟨(some 4), none, .mv (.t 0)⟩, ⟨(some 5), none, .len false (.t 4)⟩, ⟨(some 6), none, .load false 1 (.t 1)⟩, ⟨(some 7), none, .bin .neq (.t 5) (.t 6)⟩, ⟨(some 8), none, .mv (.t 7)⟩, ⟨(some 9), some (8, false), .mv (.t 0)⟩, ⟨(some 10), some (8, false), .mkfn (.func 114) [] [(.t 1)]⟩, ⟨(some 11), some (8, false), .call (.c (.fn (.func 113) [] [])) [(.t 9), (.t 10)]⟩, ⟨(some 12), none, .pick (.t 8) (.c (.bool true)) (.t 11)⟩, ⟨(some 3), none, .mv (.t 12)⟩])
  .ret))
theorem e112 {args : List PV} {σ : Heap} {K : PV → Heap → Prop} (hl : args.length ≤ 13) (h : Wf σ → (∀ a ∈ args, PV.upto σ.length a) → vc (mkCfg Try.prog mixed [] 13 σ.length) k112 (FinK σ.length [.t 3] K) (argEnv 0 args) σ) : ACall Try.prog 112 args σ K :=
  ACall_enter (C := mkCfg Try.prog mixed [] 13 σ.length) (c := Try.f112.body.getD .skip) Try.func112 (by kernel_rfl) (by kernel_rfl) (by kernel_rfl) rfl hl (by kernel_rfl) (by kernel_rfl) h
/- slices.ContainsFunc[[]int64,int64] -/
def k113 : KC := (.seq (.ops [⟨(some 4), none, .mv (.c (.bool false))⟩])
  (.seq (.ops [⟨(some 5), none, .mv (.t 0)⟩, ⟨(some 6), none, .mv (.t 1)⟩, ⟨(some 7), none, .call (.c (.fn (.func 135) [] [])) [(.t 5), (.t 6)]⟩, ⟨(some 8), none, .bin .geq (.t 7) (.c (.int .i64 0))⟩, ⟨(some 4), none, .mv (.t 8)⟩])
  .ret))
theorem e113 {args : List PV} {σ : Heap} {K : PV → Heap → Prop} (hl : args.length ≤ 9) (h : Wf σ → (∀ a ∈ args, PV.upto σ.length a) → vc (mkCfg Try.prog mixed [] 9 σ.length) k113 (FinK σ.length [.t 4] K) (argEnv 0 args) σ) : ACall Try.prog 113 args σ K :=
  ACall_enter (C := mkCfg Try.prog mixed [] 9 σ.length) (c := Try.f113.body.getD .skip) Try.func113 (by kernel_rfl) (by kernel_rfl) (by kernel_rfl) rfl hl (by kernel_rfl) (by kernel_rfl) h
/- impl.isTable$1$1 -/
def k114 : KC := (.seq (.ops [⟨(some 3), none, .mv (.c (.bool false))⟩])
  (.seq (.ops [⟨(some 4), none, .mv (.t 0)⟩, ⟨(some 5), none, .load false 1 (.t 1)⟩, ⟨(some 6), none, .bin .sub (.t 5) (.c (.int .i64 1))⟩, ⟨(some 7), none, .call (.c (.fn (.func 103) [] [])) [(.t 4), (.c (.int .i64 0)), (.t 6)]⟩, ⟨(some 8), none, .not (.t 7)⟩, ⟨(some 3), none, .mv (.t 8)⟩])
  .ret))
theorem e114 {args : List PV} {σ : Heap} {K : PV → Heap → Prop} (hl : args.length ≤ 9) (h : Wf σ → (∀ a ∈ args, PV.upto σ.length a) → vc (mkCfg Try.prog mixed [] 9 σ.length) k114 (FinK σ.length [.t 3] K) (argEnv 0 args) σ) : ACall Try.prog 114 args σ K :=
  ACall_enter (C := mkCfg Try.prog mixed [] 9 σ.length) (c := Try.f114.body.getD .skip) Try.func114 (by kernel_rfl) (by kernel_rfl) (by kernel_rfl) rfl hl (by kernel_rfl) (by kernel_rfl) h
/- slices.IndexFunc[[]int64,int64] -/
/- live [0, 1, 7, 8] -/
def k135_b0 : KC := (.seq (.ops [⟨(some 9), none, .bin .lss (.t 8) (.t 7)⟩])
  (.seq (.cond (.t 9) .skip (.exit 0))
  (.seq (.block 1 (.seq (.ops [⟨(some 10), none, .mv (.t 8)⟩, ⟨(some 5), none, .mv (.t 10)⟩])
  (.seq (.ops [⟨(some 11), none, .mv (.t 1)⟩, ⟨(some 12), none, .mv (.t 0)⟩, ⟨(some 13), none, .mv (.t 5)⟩, ⟨(some 14), none, .idxS 1 (.t 12) (.t 13)⟩, ⟨(some 15), none, .load false 1 (.t 14)⟩, ⟨(some 16), none, .call (.t 11) [(.t 15)]⟩])
  (.cond (.t 16) (.seq (.ops [⟨(some 17), none, .mv (.t 5)⟩, ⟨(some 4), none, .mv (.t 17)⟩])
  .ret) .skip))))
  (.ops [⟨(some 18), none, .bin .add (.t 8) (.c (.int .i64 1))⟩, ⟨(some 8), none, .mv (.t 18)⟩]))))
def k135 : KC := (.seq (.ops [⟨(some 4), none, .mv (.c (.int .i64 0))⟩])
  (.seq (.seq (.ops [⟨(some 6), none, .mv (.t 0)⟩, ⟨(some 7), none, .len false (.t 6)⟩, ⟨(some 8), none, .mv (.c (.int .i64 0))⟩])
  (.block 0 (.loop k135_b0)))
  (.seq (.ops [⟨(some 4), none, .mv (.c (.int .i64 (-1)))⟩])
  .ret)))
theorem e135 {args : List PV} {σ : Heap} {K : PV → Heap → Prop} (hl : args.length ≤ 19) (h : Wf σ → (∀ a ∈ args, PV.upto σ.length a) → vc (mkCfg Try.prog mixed [] 19 σ.length) k135 (FinK σ.length [.t 4] K) (argEnv 0 args) σ) : ACall Try.prog 135 args σ K :=
  ACall_enter (C := mkCfg Try.prog mixed [] 19 σ.length) (c := Try.f135.body.getD .skip) Try.func135 (by kernel_rfl) (by kernel_rfl) (by kernel_rfl) rfl hl (by kernel_rfl) (by kernel_rfl) h
/- slices.IndexFunc[[][]int64,[]int64] -/
/- live [0, 1, 7, 8] -/
def k134_b0 : KC := (.seq (.ops [⟨(some 9), none, .bin .lss (.t 8) (.t 7)⟩])
  (.seq (.cond (.t 9) .skip (.exit 0))
  (.seq (.block 1 (.seq (.ops [⟨(some 10), none, .mv (.t 8)⟩, ⟨(some 5), none, .mv (.t 10)⟩])
  (.seq (.ops [⟨(some 11), none, .mv (.t 1)⟩, ⟨(some 12), none, .mv (.t 0)⟩, ⟨(some 13), none, .mv (.t 5)⟩, ⟨(some 14), none, .idxS 1 (.t 12) (.t 13)⟩, ⟨(some 15), none, .load false 1 (.t 14)⟩, ⟨(some 16), none, .call (.t 11) [(.t 15)]⟩])
  (.cond (.t 16) (.seq (.ops [⟨(some 17), none, .mv (.t 5)⟩, ⟨(some 4), none, .mv (.t 17)⟩])
  .ret) .skip))))
  (.ops [⟨(some 18), none, .bin .add (.t 8) (.c (.int .i64 1))⟩, ⟨(some 8), none, .mv (.t 18)⟩]))))
def k134 : KC := (.seq (.ops [⟨(some 4), none, .mv (.c (.int .i64 0))⟩])
  (.seq (.seq (.ops [⟨(some 6), none, .mv (.t 0)⟩, ⟨(some 7), none, .len false (.t 6)⟩, ⟨(some 8), none, .mv (.c (.int .i64 0))⟩])
  (.block 0 (.loop k134_b0)))
  (.seq (.ops [⟨(some 4), none, .mv (.c (.int .i64 (-1)))⟩])
  .ret)))
theorem e134 {args : List PV} {σ : Heap} {K : PV → Heap → Prop} (hl : args.length ≤ 19) (h : Wf σ → (∀ a ∈ args, PV.upto σ.length a) → vc (mkCfg Try.prog mixed [] 19 σ.length) k134 (FinK σ.length [.t 4] K) (argEnv 0 args) σ) : ACall Try.prog 134 args σ K :=
  ACall_enter (C := mkCfg Try.prog mixed [] 19 σ.length) (c := Try.f134.body.getD .skip) Try.func134 (by kernel_rfl) (by kernel_rfl) (by kernel_rfl) rfl hl (by kernel_rfl) (by kernel_rfl) h
end Go.Proofs.Ytkljidghocnllaa
