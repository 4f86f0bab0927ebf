/- The compact code of functions of the seat, and how their calls are entered: printed by this session's own program. -/
import Derived.Test.YtkljidghocnllaaCb
namespace Go.Proofs.Ytkljidghocnllaa
open Go.Kv
set_option maxRecDepth 100000
/- impl.roots -/
def k62 : KC := (.seq (.ops [⟨(some 2), none, .box true (.t 0)⟩, ⟨(some 3), none, .box true (.t 1)⟩, ⟨(some 4), none, .mv (.c (.nils))⟩, ⟨(some 5), none, .mv (.c (.int .i64 0))⟩])
  (.seq (.seq (.ops [⟨(some 6), none, .load true 6 (.t 2)⟩, ⟨(some 7), none, .call (.c (.fn (.func 77) [] [])) [(.t 6)]⟩, ⟨(some 8), none, .not (.t 7)⟩])
  (.cond (.t 8) (.seq (.ops [⟨(some 4), none, .mv (.c (.nils))⟩, ⟨(some 5), none, .mv (.c (.int .i64 1))⟩])
  .ret) .skip))
  (.seq (.seq (.ops [⟨(some 9), none, .load false 1 (.t 3)⟩, ⟨(some 10), none, .call (.c (.fn (.func 103) [] [])) [(.t 9), (.c (.int .i64 1)), (.c (.int .i64 6))]⟩, ⟨(some 11), none, .not (.t 10)⟩])
  (.cond (.t 11) (.seq (.ops [⟨(some 4), none, .mv (.c (.nils))⟩, ⟨(some 5), none, .mv (.c (.int .i64 2))⟩])
  .ret) .skip))
  (.seq (.ops [⟨(some 12), none, .fieldA 0 (.t 2)⟩, ⟨(some 13), none, .load false 1 (.t 12)⟩, ⟨(some 14), none, .call (.c (.fn (.func 105) [] [])) [(.t 13)]⟩, ⟨(some 15), none, .mkfn (.func 106) [] [(.t 3), (.t 2)]⟩, ⟨(some 16), none, .call (.c (.fn (.func 104) [] [])) [(.t 14), (.t 15)]⟩, ⟨(some 4), none, .mv (.t 16)⟩, ⟨(some 5), none, .mv (.c (.int .i64 0))⟩])
  .ret))))
theorem e62 {args : List PV} {σ : Heap} {K : PV → Heap → Prop} (hl : args.length ≤ 17) (h : Wf σ → (∀ a ∈ args, PV.upto σ.length a) → vc (mkCfg Try.prog mixed [2, 3] 17 σ.length) k62 (FinK σ.length [.t 4, .t 5] K) (argEnv 0 args) σ) : ACall Try.prog 62 args σ K :=
  ACall_enter (C := mkCfg Try.prog mixed [2, 3] 17 σ.length) (c := Try.f62.body.getD .skip) Try.func62 (by kernel_rfl) (by kernel_rfl) (by kernel_rfl) rfl hl (by kernel_rfl) (by kernel_rfl) h
/- impl.roots$1 -/
def k106 : KC := (.seq (.ops [⟨(some 3), none, .box true (.t 0)⟩, ⟨(some 4), none, .mv (.c (.bool false))⟩])
  (.seq (.draw [⟨(some 5), none, .load true 6 (.t 3)⟩, ⟨(some 6), none, .load false 1 (.t 1)⟩, ⟨(some 8), none, .load true 6 (.t 2)⟩, ⟨(some 7), none, .pcall (.c (.fn (.func 107) [] [])) [(.t 5), (.t 6)]⟩, ⟨(some 9), none, .aeq true 6 (.t 7) (.t 8)⟩, ⟨(some 4), none, .mv (.t 9)⟩])
  .ret))
theorem e106 {args : List PV} {σ : Heap} {K : PV → Heap → Prop} (hl : args.length ≤ 10) (h : Wf σ → (∀ a ∈ args, PV.upto σ.length a) → vc (mkCfg Try.prog mixed [3] 10 σ.length) k106 (FinK σ.length [.t 4] K) (argEnv 0 args) σ) : ACall Try.prog 106 args σ K :=
  ACall_enter (C := mkCfg Try.prog mixed [3] 10 σ.length) (c := Try.f106.body.getD .skip) Try.func106 (by kernel_rfl) (by kernel_rfl) (by kernel_rfl) rfl hl (by kernel_rfl) (by kernel_rfl) h
/- (impl.Map).power -/
/- live [1, 2, 4, 5] -/
def k107_b0 : KC := (.seq (.seq (.ops [⟨(some 9), none, .mv (.t 1)⟩, ⟨(some 10), none, .bin .gtr (.t 9) (.c (.int .i64 0))⟩])
  (.cond (.t 10) .skip (.exit 0)))
  (.seq (.block 1 (.seq (.seq (.ops [⟨(some 13), none, .mv (.t 1)⟩, ⟨(some 14), none, .bin .rem (.t 13) (.c (.int .i64 2))⟩, ⟨(some 15), none, .bin .eql (.t 14) (.c (.int .i64 1))⟩])
  (.cond (.t 15) (.ops [⟨(some 16), none, .load true 6 (.t 5)⟩, ⟨(some 17), none, .load true 6 (.t 2)⟩, ⟨(some 18), none, .call (.c (.fn (.func 131) [] [])) [(.t 16), (.t 17)]⟩, ⟨none, none, .store 6 (.t 5) (.t 18)⟩]) .skip))
  (.ops [⟨(some 19), none, .load true 6 (.t 2)⟩, ⟨(some 20), none, .load true 6 (.t 2)⟩, ⟨(some 21), none, .call (.c (.fn (.func 131) [] [])) [(.t 19), (.t 20)]⟩, ⟨none, none, .store 6 (.t 2) (.t 21)⟩])))
  (.ops [⟨(some 11), none, .mv (.t 1)⟩, ⟨(some 12), none, .bin .quo (.t 11) (.c (.int .i64 2))⟩, ⟨(some 1), none, .mv (.t 12)⟩])))
def k107 : KC := (.seq (.ops [⟨(some 2), none, .box false (.t 0)⟩, ⟨(some 4), none, .alloc [.int .i64 0, .int .i64 0, .int .i64 0, .int .i64 0, .int .i64 0, .int .i64 0]⟩])
  (.seq (.ops [⟨(some 6), none, .fieldA 0 (.t 2)⟩, ⟨(some 7), none, .load false 1 (.t 6)⟩, ⟨(some 8), none, .call (.c (.fn (.func 78) [] [])) [(.t 7)]⟩, ⟨(some 5), none, .alloc [.int .i64 0, .int .i64 0, .int .i64 0, .int .i64 0, .int .i64 0, .int .i64 0]⟩, ⟨none, none, .store 6 (.t 5) (.t 8)⟩])
  (.seq (.block 0 (.loop k107_b0))
  (.seq (.ops [⟨(some 22), none, .load true 6 (.t 5)⟩, ⟨none, none, .store 6 (.t 4) (.t 22)⟩])
  .ret))))
theorem e107 {args : List PV} {σ : Heap} {K : PV → Heap → Prop} (hl : args.length ≤ 23) (h : Wf σ → (∀ a ∈ args, PV.upto σ.length a) → vc (mkCfg Try.prog mixed [] 23 σ.length) k107 (FinK σ.length [.cell 4 true 6] K) (argEnv 0 args) σ) : ACall Try.prog 107 args σ K :=
  ACall_enter (C := mkCfg Try.prog mixed [] 23 σ.length) (c := Try.f107.body.getD .skip) Try.func107 (by kernel_rfl) (by kernel_rfl) (by kernel_rfl) rfl hl (by kernel_rfl) (by kernel_rfl) h
/- impl.identity -/
/- live [2, 3, 7, 8] -/
def k78_b0 : KC := (.seq (.ops [⟨(some 9), none, .bin .lss (.t 8) (.t 7)⟩])
  (.seq (.cond (.t 9) .skip (.exit 0))
  (.seq (.block 1 (.seq (.ops [⟨(some 10), none, .mv (.t 8)⟩, ⟨(some 4), none, .mv (.t 10)⟩])
  (.ops [⟨(some 11), none, .mv (.t 4)⟩, ⟨(some 12), none, .mv (.t 4)⟩, ⟨(some 13), none, .fieldA 1 (.t 3)⟩, ⟨(some 14), none, .idxA 5 1 (.t 13) (.t 11)⟩, ⟨none, none, .store 1 (.t 14) (.t 12)⟩])))
  (.ops [⟨(some 15), none, .bin .add (.t 8) (.c (.int .i64 1))⟩, ⟨(some 8), none, .mv (.t 15)⟩]))))
def k78 : KC := (.seq (.ops [⟨(some 2), none, .alloc [.int .i64 0, .int .i64 0, .int .i64 0, .int .i64 0, .int .i64 0, .int .i64 0]⟩])
  (.seq (.ops [⟨(some 5), none, .mv (.t 0)⟩, ⟨(some 6), none, .build [.int .i64 0, .int .i64 0, .int .i64 0, .int .i64 0, .int .i64 0, .int .i64 0] [(0, 1, (.t 5))]⟩, ⟨(some 3), none, .alloc [.int .i64 0, .int .i64 0, .int .i64 0, .int .i64 0, .int .i64 0, .int .i64 0]⟩, ⟨none, none, .store 6 (.t 3) (.t 6)⟩])
  (.seq (.seq (.ops [⟨(some 7), none, .mv (.t 0)⟩, ⟨(some 8), none, .mv (.c (.int .i64 0))⟩])
  (.block 0 (.loop k78_b0)))
  (.seq (.ops [⟨(some 16), none, .load true 6 (.t 3)⟩, ⟨none, none, .store 6 (.t 2) (.t 16)⟩])
  .ret))))
theorem e78 {args : List PV} {σ : Heap} {K : PV → Heap → Prop} (hl : args.length ≤ 17) (h : Wf σ → (∀ a ∈ args, PV.upto σ.length a) → vc (mkCfg Try.prog mixed [] 17 σ.length) k78 (FinK σ.length [.cell 2 true 6] K) (argEnv 0 args) σ) : ACall Try.prog 78 args σ K :=
  ACall_enter (C := mkCfg Try.prog mixed [] 17 σ.length) (c := Try.f78.body.getD .skip) Try.func78 (by kernel_rfl) (by kernel_rfl) (by kernel_rfl) rfl hl (by kernel_rfl) (by kernel_rfl) h
/- impl.CountRoots -/
def k17 : KC := (.seq (.ops [⟨(some 2), none, .box true (.t 0)⟩, ⟨(some 4), none, .mv (.c (.int .i64 0))⟩, ⟨(some 5), none, .mv (.c (.int .i64 0))⟩])
  (.seq (.ops [⟨(some 9), none, .load true 6 (.t 2)⟩, ⟨(some 10), none, .mv (.t 1)⟩, ⟨(some 11), none, .call (.c (.fn (.func 62) [] [])) [(.t 9), (.t 10)]⟩, ⟨(some 8), none, .mv (.t 11)⟩, ⟨(some 12), none, .extr 0 (.t 8)⟩, ⟨(some 13), none, .extr 1 (.t 8)⟩, ⟨(some 6), none, .mv (.t 12)⟩, ⟨(some 7), none, .mv (.t 13)⟩])
  (.seq (.ops [⟨(some 14), none, .mv (.t 6)⟩, ⟨(some 15), none, .len false (.t 14)⟩, ⟨(some 16), none, .mv (.t 7)⟩, ⟨(some 4), none, .mv (.t 15)⟩, ⟨(some 5), none, .mv (.t 16)⟩])
  .ret)))
theorem e17 {args : List PV} {σ : Heap} {K : PV → Heap → Prop} (hl : args.length ≤ 17) (h : Wf σ → (∀ a ∈ args, PV.upto σ.length a) → vc (mkCfg Try.prog mixed [2] 17 σ.length) k17 (FinK σ.length [.t 4, .t 5] K) (argEnv 0 args) σ) : ACall Try.prog 17 args σ K :=
  ACall_enter (C := mkCfg Try.prog mixed [2] 17 σ.length) (c := Try.f17.body.getD .skip) Try.func17 (by kernel_rfl) (by kernel_rfl) (by kernel_rfl) rfl hl (by kernel_rfl) (by kernel_rfl) h
/- spec.CountRoots -/
/- live [1, 2, 7, 8, 9] -/
def k15_b0 : KC := (.seq (.seq (.ops [⟨(some 19), none, .mv (.t 9)⟩, ⟨(some 20), none, .mv (.t 7)⟩, ⟨(some 21), none, .len false (.t 20)⟩, ⟨(some 22), none, .bin .lss (.t 19) (.t 21)⟩])
  (.cond (.t 22) .skip (.exit 0)))
  (.seq (.block 1 (.seq (.draw [⟨(some 25), none, .mv (.t 7)⟩, ⟨(some 26), none, .mv (.t 9)⟩, ⟨(some 27), none, .idxS 6 (.t 25) (.t 26)⟩, ⟨(some 28), none, .load true 6 (.t 27)⟩, ⟨(some 29), none, .mv (.t 1)⟩, ⟨(some 31), none, .load true 6 (.t 2)⟩, ⟨(some 30), none, .pcall (.c (.fn (.func 60) [] [])) [(.t 28), (.t 29)]⟩, ⟨(some 32), none, .aeq false 6 (.t 30) (.t 31)⟩])
  (.cond (.t 32) (.ops [⟨(some 33), none, .mv (.t 8)⟩, ⟨(some 34), none, .bin .add (.t 33) (.c (.int .i64 1))⟩, ⟨(some 8), none, .mv (.t 34)⟩]) .skip)))
  (.ops [⟨(some 23), none, .mv (.t 9)⟩, ⟨(some 24), none, .bin .add (.t 23) (.c (.int .i64 1))⟩, ⟨(some 9), none, .mv (.t 24)⟩])))
def k15 : KC := (.seq (.ops [⟨(some 2), none, .box true (.t 0)⟩, ⟨(some 4), none, .mv (.c (.int .i64 0))⟩, ⟨(some 5), none, .mv (.c (.int .i64 0))⟩])
  (.seq (.seq (.ops [⟨(some 10), none, .load true 6 (.t 2)⟩, ⟨(some 11), none, .mv (.t 1)⟩, ⟨(some 12), none, .call (.c (.fn (.func 58) [] [])) [(.t 10), (.t 11)]⟩, ⟨(some 6), none, .mv (.t 12)⟩])
  (.seq (.ops [⟨(some 13), none, .mv (.t 6)⟩, ⟨(some 14), none, .bin .neq (.t 13) (.c (.int .i64 0))⟩])
  (.cond (.t 14) (.seq (.ops [⟨(some 15), none, .mv (.t 6)⟩, ⟨(some 4), none, .mv (.c (.int .i64 0))⟩, ⟨(some 5), none, .mv (.t 15)⟩])
  .ret) .skip)))
  (.seq (.ops [⟨(some 16), none, .fieldA 0 (.t 2)⟩, ⟨(some 17), none, .load false 1 (.t 16)⟩, ⟨(some 18), none, .call (.c (.fn (.func 59) [] [])) [(.t 17)]⟩, ⟨(some 7), none, .mv (.t 18)⟩, ⟨(some 8), none, .mv (.c (.int .i64 0))⟩])
  (.seq (.seq (.ops [⟨(some 9), none, .mv (.c (.int .i64 0))⟩])
  (.block 0 (.loop k15_b0)))
  (.seq (.ops [⟨(some 35), none, .mv (.t 8)⟩, ⟨(some 4), none, .mv (.t 35)⟩, ⟨(some 5), none, .mv (.c (.int .i64 0))⟩])
  .ret)))))
theorem e15 {args : List PV} {σ : Heap} {K : PV → Heap → Prop} (hl : args.length ≤ 36) (h : Wf σ → (∀ a ∈ args, PV.upto σ.length a) → vc (mkCfg Try.prog mixed [2] 36 σ.length) k15 (FinK σ.length [.t 4, .t 5] K) (argEnv 0 args) σ) : ACall Try.prog 15 args σ K :=
  ACall_enter (C := mkCfg Try.prog mixed [2] 36 σ.length) (c := Try.f15.body.getD .skip) Try.func15 (by kernel_rfl) (by kernel_rfl) (by kernel_rfl) rfl hl (by kernel_rfl) (by kernel_rfl) h
/- spec.l09Code -/
def k58 : KC := (.seq (.ops [⟨(some 2), none, .box true (.t 0)⟩, ⟨(some 4), none, .mv (.c (.int .i64 0))⟩])
  (.seq (.block 0 (.seq (.ops [⟨(some 6), none, .load true 6 (.t 2)⟩, ⟨(some 7), none, .call (.c (.fn (.func 97) [] [])) [(.t 6)]⟩, ⟨(some 8), none, .not (.t 7)⟩, ⟨(some 5), none, .mv (.t 8)⟩])
  (.cond (.t 5) (.seq (.ops [⟨(some 4), none, .mv (.c (.int .i64 1))⟩])
  .ret) (.seq (.ops [⟨(some 10), none, .mv (.t 1)⟩, ⟨(some 11), none, .call (.c (.fn (.func 102) [] [])) [(.t 10), (.c (.int .i64 1)), (.c (.int .i64 6))]⟩, ⟨(some 12), none, .not (.t 11)⟩, ⟨(some 9), none, .mv (.t 12)⟩])
  (.cond (.t 9) (.seq (.ops [⟨(some 4), none, .mv (.c (.int .i64 2))⟩])
  .ret) .skip)))))
  (.seq (.ops [⟨(some 4), none, .mv (.c (.int .i64 0))⟩])
  .ret)))
theorem e58 {args : List PV} {σ : Heap} {K : PV → Heap → Prop} (hl : args.length ≤ 13) (h : Wf σ → (∀ a ∈ args, PV.upto σ.length a) → vc (mkCfg Try.prog mixed [2] 13 σ.length) k58 (FinK σ.length [.t 4] K) (argEnv 0 args) σ) : ACall Try.prog 58 args σ K :=
  ACall_enter (C := mkCfg Try.prog mixed [2] 13 σ.length) (c := Try.f58.body.getD .skip) Try.func58 (by kernel_rfl) (by kernel_rfl) (by kernel_rfl) rfl hl (by kernel_rfl) (by kernel_rfl) h
/- impl.FirstRoot -/
def k29 : KC := (.seq (.ops [⟨(some 2), none, .box true (.t 0)⟩, ⟨(some 4), none, .alloc [.int .i64 0, .int .i64 0, .int .i64 0, .int .i64 0, .int .i64 0, .int .i64 0]⟩, ⟨(some 5), none, .mv (.c (.int .i64 0))⟩])
  (.seq (.ops [⟨(some 9), none, .load true 6 (.t 2)⟩, ⟨(some 10), none, .mv (.t 1)⟩, ⟨(some 11), none, .call (.c (.fn (.func 62) [] [])) [(.t 9), (.t 10)]⟩, ⟨(some 8), none, .mv (.t 11)⟩, ⟨(some 12), none, .extr 0 (.t 8)⟩, ⟨(some 13), none, .extr 1 (.t 8)⟩, ⟨(some 6), none, .mv (.t 12)⟩, ⟨(some 7), none, .mv (.t 13)⟩])
  (.seq (.block 0 (.seq (.ops [⟨(some 15), none, .mv (.t 7)⟩, ⟨(some 16), none, .bin .neq (.t 15) (.c (.int .i64 0))⟩, ⟨(some 14), none, .mv (.t 16)⟩])
  (.cond (.t 14) (.seq (.ops [⟨(some 17), none, .build [.int .i64 0, .int .i64 0, .int .i64 0, .int .i64 0, .int .i64 0, .int .i64 0] []⟩, ⟨(some 18), none, .mv (.t 7)⟩, ⟨none, none, .store 6 (.t 4) (.t 17)⟩, ⟨(some 5), none, .mv (.t 18)⟩])
  .ret) (.seq (.ops [⟨(some 20), none, .mv (.t 6)⟩, ⟨(some 21), none, .len false (.t 20)⟩, ⟨(some 22), none, .bin .eql (.t 21) (.c (.int .i64 0))⟩, ⟨(some 19), none, .mv (.t 22)⟩])
  (.cond (.t 19) (.seq (.ops [⟨(some 23), none, .build [.int .i64 0, .int .i64 0, .int .i64 0, .int .i64 0, .int .i64 0, .int .i64 0] []⟩, ⟨none, none, .store 6 (.t 4) (.t 23)⟩, ⟨(some 5), none, .mv (.c (.int .i64 4))⟩])
  .ret) .skip)))))
  (.seq (.ops [⟨(some 24), none, .mv (.t 6)⟩, ⟨(some 25), none, .idxS 6 (.t 24) (.c (.int .i64 0))⟩, ⟨(some 26), none, .load true 6 (.t 25)⟩, ⟨none, none, .store 6 (.t 4) (.t 26)⟩, ⟨(some 5), none, .mv (.c (.int .i64 0))⟩])
  .ret))))
theorem e29 {args : List PV} {σ : Heap} {K : PV → Heap → Prop} (hl : args.length ≤ 27) (h : Wf σ → (∀ a ∈ args, PV.upto σ.length a) → vc (mkCfg Try.prog mixed [2] 27 σ.length) k29 (FinK σ.length [.cell 4 true 6, .t 5] K) (argEnv 0 args) σ) : ACall Try.prog 29 args σ K :=
  ACall_enter (C := mkCfg Try.prog mixed [2] 27 σ.length) (c := Try.f29.body.getD .skip) Try.func29 (by kernel_rfl) (by kernel_rfl) (by kernel_rfl) rfl hl (by kernel_rfl) (by kernel_rfl) h
/- spec.FirstRoot -/
/- live [1, 2, 4, 7, 8] -/
def k28_b0 : KC := (.seq (.seq (.ops [⟨(some 19), none, .mv (.t 8)⟩, ⟨(some 20), none, .mv (.t 7)⟩, ⟨(some 21), none, .len false (.t 20)⟩, ⟨(some 22), none, .bin .lss (.t 19) (.t 21)⟩])
  (.cond (.t 22) .skip (.exit 0)))
  (.seq (.block 1 (.seq (.draw [⟨(some 25), none, .mv (.t 7)⟩, ⟨(some 26), none, .mv (.t 8)⟩, ⟨(some 27), none, .idxS 6 (.t 25) (.t 26)⟩, ⟨(some 28), none, .load true 6 (.t 27)⟩, ⟨(some 29), none, .mv (.t 1)⟩, ⟨(some 31), none, .load true 6 (.t 2)⟩, ⟨(some 30), none, .pcall (.c (.fn (.func 60) [] [])) [(.t 28), (.t 29)]⟩, ⟨(some 32), none, .aeq false 6 (.t 30) (.t 31)⟩])
  (.cond (.t 32) (.seq (.ops [⟨(some 33), none, .mv (.t 7)⟩, ⟨(some 34), none, .mv (.t 8)⟩, ⟨(some 35), none, .idxS 6 (.t 33) (.t 34)⟩, ⟨(some 36), none, .load true 6 (.t 35)⟩, ⟨none, none, .store 6 (.t 4) (.t 36)⟩, ⟨(some 5), none, .mv (.c (.int .i64 0))⟩])
  .ret) .skip)))
  (.ops [⟨(some 23), none, .mv (.t 8)⟩, ⟨(some 24), none, .bin .add (.t 23) (.c (.int .i64 1))⟩, ⟨(some 8), none, .mv (.t 24)⟩])))
def k28 : KC := (.seq (.ops [⟨(some 2), none, .box true (.t 0)⟩, ⟨(some 4), none, .alloc [.int .i64 0, .int .i64 0, .int .i64 0, .int .i64 0, .int .i64 0, .int .i64 0]⟩, ⟨(some 5), none, .mv (.c (.int .i64 0))⟩])
  (.seq (.seq (.ops [⟨(some 9), none, .load true 6 (.t 2)⟩, ⟨(some 10), none, .mv (.t 1)⟩, ⟨(some 11), none, .call (.c (.fn (.func 58) [] [])) [(.t 9), (.t 10)]⟩, ⟨(some 6), none, .mv (.t 11)⟩])
  (.seq (.ops [⟨(some 12), none, .mv (.t 6)⟩, ⟨(some 13), none, .bin .neq (.t 12) (.c (.int .i64 0))⟩])
  (.cond (.t 13) (.seq (.ops [⟨(some 14), none, .build [.int .i64 0, .int .i64 0, .int .i64 0, .int .i64 0, .int .i64 0, .int .i64 0] []⟩, ⟨(some 15), none, .mv (.t 6)⟩, ⟨none, none, .store 6 (.t 4) (.t 14)⟩, ⟨(some 5), none, .mv (.t 15)⟩])
  .ret) .skip)))
  (.seq (.ops [⟨(some 16), none, .fieldA 0 (.t 2)⟩, ⟨(some 17), none, .load false 1 (.t 16)⟩, ⟨(some 18), none, .call (.c (.fn (.func 59) [] [])) [(.t 17)]⟩, ⟨(some 7), none, .mv (.t 18)⟩])
  (.seq (.seq (.ops [⟨(some 8), none, .mv (.c (.int .i64 0))⟩])
  (.block 0 (.loop k28_b0)))
  (.seq (.ops [⟨(some 37), none, .build [.int .i64 0, .int .i64 0, .int .i64 0, .int .i64 0, .int .i64 0, .int .i64 0] []⟩, ⟨none, none, .store 6 (.t 4) (.t 37)⟩, ⟨(some 5), none, .mv (.c (.int .i64 4))⟩])
  .ret)))))
theorem e28 {args : List PV} {σ : Heap} {K : PV → Heap → Prop} (hl : args.length ≤ 38) (h : Wf σ → (∀ a ∈ args, PV.upto σ.length a) → vc (mkCfg Try.prog mixed [2] 38 σ.length) k28 (FinK σ.length [.cell 4 true 6, .t 5] K) (argEnv 0 args) σ) : ACall Try.prog 28 args σ K :=
  ACall_enter (C := mkCfg Try.prog mixed [2] 38 σ.length) (c := Try.f28.body.getD .skip) Try.func28 (by kernel_rfl) (by kernel_rfl) (by kernel_rfl) rfl hl (by kernel_rfl) (by kernel_rfl) h
end Go.Proofs.Ytkljidghocnllaa
