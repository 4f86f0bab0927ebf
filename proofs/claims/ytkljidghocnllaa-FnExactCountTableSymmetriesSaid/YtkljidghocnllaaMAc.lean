/- The compact code of functions of the seat, and how their calls are entered: printed by this session's own program. -/
import Derived.Test.YtkljidghocnllaaCb
namespace Go.Proofs.Ytkljidghocnllaa
open Go.Kv
set_option maxRecDepth 100000
/- laws.toMap -/
def k16 : KC := (.seq (.ops [⟨(some 1), none, .box true (.t 0)⟩, ⟨(some 2), none, .alloc [.int .i64 0, .int .i64 0, .int .i64 0, .int .i64 0, .int .i64 0, .int .i64 0]⟩])
  (.seq (.ops [⟨(some 3), none, .alloc [.int .i64 0, .int .i64 0, .int .i64 0, .int .i64 0, .int .i64 0, .int .i64 0]⟩])
  (.seq (.ops [⟨(some 4), none, .fieldA 0 (.t 1)⟩, ⟨(some 5), none, .load false 1 (.t 4)⟩, ⟨(some 6), none, .fieldA 0 (.t 3)⟩, ⟨none, none, .store 1 (.t 6) (.t 5)⟩])
  (.seq (.ops [⟨(some 7), none, .fieldA 1 (.t 1)⟩, ⟨(some 8), none, .load true 5 (.t 7)⟩, ⟨(some 9), none, .call (.c (.fn (.func 61) [] [])) [(.t 8)]⟩, ⟨(some 10), none, .fieldA 1 (.t 3)⟩, ⟨none, none, .store 5 (.t 10) (.t 9)⟩])
  (.seq (.ops [⟨(some 11), none, .load true 6 (.t 3)⟩, ⟨none, none, .store 6 (.t 2) (.t 11)⟩])
  .ret)))))
theorem e16 {args : List PV} {σ : Heap} {K : PV → Heap → Prop} (hl : args.length ≤ 12) (h : Wf σ → (∀ a ∈ args, PV.upto σ.length a) → vc (mkCfg Try.prog mixed [1] 12 σ.length) k16 (FinK σ.length [.cell 2 true 6] K) (argEnv 0 args) σ) : ACall Try.prog 16 args σ K :=
  ACall_enter (C := mkCfg Try.prog mixed [1] 12 σ.length) (c := Try.f16.body.getD .skip) Try.func16 (by kernel_rfl) (by kernel_rfl) (by kernel_rfl) rfl hl (by kernel_rfl) (by kernel_rfl) h
/- laws.toInt64A5 -/
/- live [1, 2, 3, 4] -/
def k61_b0 : KC := (.seq (.seq (.ops [⟨(some 5), none, .mv (.t 4)⟩, ⟨(some 6), none, .bin .lss (.t 5) (.c (.int .i64 5))⟩])
  (.cond (.t 6) .skip (.exit 0)))
  (.seq (.block 1 (.ops [⟨(some 9), none, .mv (.t 4)⟩, ⟨(some 10), none, .mv (.t 4)⟩, ⟨(some 11), none, .idxA 5 1 (.t 1) (.t 10)⟩, ⟨(some 12), none, .load false 1 (.t 11)⟩, ⟨(some 13), none, .idxA 5 1 (.t 3) (.t 9)⟩, ⟨none, none, .store 1 (.t 13) (.t 12)⟩]))
  (.ops [⟨(some 7), none, .mv (.t 4)⟩, ⟨(some 8), none, .bin .add (.t 7) (.c (.int .i64 1))⟩, ⟨(some 4), none, .mv (.t 8)⟩])))
def k61 : KC := (.seq (.ops [⟨(some 1), none, .box true (.t 0)⟩, ⟨(some 2), none, .alloc [.int .i64 0, .int .i64 0, .int .i64 0, .int .i64 0, .int .i64 0]⟩])
  (.seq (.ops [⟨(some 3), none, .alloc [.int .i64 0, .int .i64 0, .int .i64 0, .int .i64 0, .int .i64 0]⟩])
  (.seq (.seq (.ops [⟨(some 4), none, .mv (.c (.int .i64 0))⟩])
  (.block 0 (.loop k61_b0)))
  (.seq (.ops [⟨(some 14), none, .load true 5 (.t 3)⟩, ⟨none, none, .store 5 (.t 2) (.t 14)⟩])
  .ret))))
theorem e61 {args : List PV} {σ : Heap} {K : PV → Heap → Prop} (hl : args.length ≤ 15) (h : Wf σ → (∀ a ∈ args, PV.upto σ.length a) → vc (mkCfg Try.prog mixed [1] 15 σ.length) k61 (FinK σ.length [.cell 2 true 5] K) (argEnv 0 args) σ) : ACall Try.prog 61 args σ K :=
  ACall_enter (C := mkCfg Try.prog mixed [1] 15 σ.length) (c := Try.f61.body.getD .skip) Try.func61 (by kernel_rfl) (by kernel_rfl) (by kernel_rfl) rfl hl (by kernel_rfl) (by kernel_rfl) h
/- spec.l01Is -/
/- live [1, 3, 17, 18, 19, 20, 21, 22, 23, 24, 25, 28, 29, 30, 31, 32, 33, 34, 35, 36, 37, 38] -/
def k97_b0 : KC := (.seq (.seq (.ops [⟨(some 8), none, .mv (.t 3)⟩, ⟨(some 9), none, .bin .lss (.t 8) (.c (.int .i64 5))⟩])
  (.cond (.t 9) .skip (.exit 0)))
  (.seq (.block 1 (.seq (.draw [⟨(some 12), none, .mv (.t 3)⟩, ⟨(some 13), none, .fieldA 0 (.t 1)⟩, ⟨(some 14), none, .load false 1 (.t 13)⟩, ⟨(some 15), none, .bin .lss (.t 12) (.t 14)⟩, ⟨(some 16), none, .mv (.t 15)⟩, ⟨(some 17), some (16, true), .mv (.t 3)⟩, ⟨(some 18), some (16, true), .fieldA 1 (.t 1)⟩, ⟨(some 19), some (16, true), .idxA 5 1 (.t 18) (.t 17)⟩, ⟨(some 20), some (16, true), .load false 1 (.t 19)⟩, ⟨(some 21), some (16, true), .fieldA 0 (.t 1)⟩, ⟨(some 22), some (16, true), .load false 1 (.t 21)⟩, ⟨(some 23), some (16, true), .bin .sub (.t 22) (.c (.int .i64 1))⟩, ⟨(some 24), some (16, true), .pcall (.c (.fn (.func 102) [] [])) [(.t 20), (.c (.int .i64 0)), (.t 23)]⟩, ⟨(some 25), some (16, true), .not (.t 24)⟩, ⟨(some 26), none, .pick (.t 16) (.t 25) (.c (.bool false))⟩, ⟨(some 27), none, .mv (.t 26)⟩, ⟨(some 28), some (27, false), .mv (.t 3)⟩, ⟨(some 29), some (27, false), .fieldA 0 (.t 1)⟩, ⟨(some 30), some (27, false), .load false 1 (.t 29)⟩, ⟨(some 31), some (27, false), .bin .geq (.t 28) (.t 30)⟩, ⟨(some 32), some (27, false), .mv (.t 31)⟩, ⟨(some 33), some (32, true), .mv (.t 3)⟩, ⟨(some 34), some (32, true), .fieldA 1 (.t 1)⟩, ⟨(some 35), some (32, true), .idxA 5 1 (.t 34) (.t 33)⟩, ⟨(some 36), some (32, true), .load false 1 (.t 35)⟩, ⟨(some 37), some (32, true), .bin .neq (.t 36) (.c (.int .i64 0))⟩, ⟨(some 38), some (27, false), .pick (.t 32) (.t 37) (.c (.bool false))⟩, ⟨(some 39), none, .pick (.t 27) (.c (.bool true)) (.t 38)⟩])
  (.cond (.t 39) (.seq (.ops [⟨(some 2), none, .mv (.c (.bool false))⟩])
  .ret) .skip)))
  (.ops [⟨(some 10), none, .mv (.t 3)⟩, ⟨(some 11), none, .bin .add (.t 10) (.c (.int .i64 1))⟩, ⟨(some 3), none, .mv (.t 11)⟩])))
def k97 : KC := (.seq (.ops [⟨(some 1), none, .box true (.t 0)⟩, ⟨(some 2), none, .mv (.c (.bool false))⟩])
  (.seq (.seq (.ops [⟨(some 4), none, .fieldA 0 (.t 1)⟩, ⟨(some 5), none, .load false 1 (.t 4)⟩, ⟨(some 6), none, .call (.c (.fn (.func 102) [] [])) [(.t 5), (.c (.int .i64 1)), (.c (.int .i64 5))]⟩, ⟨(some 7), none, .not (.t 6)⟩])
  (.cond (.t 7) (.seq (.ops [⟨(some 2), none, .mv (.c (.bool false))⟩])
  .ret) .skip))
  (.seq (.seq (.ops [⟨(some 3), none, .mv (.c (.int .i64 0))⟩])
  (.block 0 (.loop k97_b0)))
  (.seq (.ops [⟨(some 2), none, .mv (.c (.bool true))⟩])
  .ret))))
theorem e97 {args : List PV} {σ : Heap} {K : PV → Heap → Prop} (hl : args.length ≤ 40) (h : Wf σ → (∀ a ∈ args, PV.upto σ.length a) → vc (mkCfg Try.prog mixed [1] 40 σ.length) k97 (FinK σ.length [.t 2] K) (argEnv 0 args) σ) : ACall Try.prog 97 args σ K :=
  ACall_enter (C := mkCfg Try.prog mixed [1] 40 σ.length) (c := Try.f97.body.getD .skip) Try.func97 (by kernel_rfl) (by kernel_rfl) (by kernel_rfl) rfl hl (by kernel_rfl) (by kernel_rfl) h
/- impl.IsMap -/
/- live [1, 10, 11, 20, 21, 22, 23, 24, 25, 28, 29, 30, 31, 32, 33, 34, 35] -/
def k77_b0 : KC := (.seq (.ops [⟨(some 12), none, .bin .lss (.t 11) (.c (.int .i64 5))⟩])
  (.seq (.cond (.t 12) .skip (.exit 0))
  (.seq (.block 1 (.seq (.ops [⟨(some 13), none, .mv (.t 11)⟩, ⟨(some 14), none, .idxV 5 1 false (.t 10) (.t 11)⟩, ⟨(some 3), none, .mv (.t 13)⟩, ⟨(some 4), none, .mv (.t 14)⟩])
  (.seq (.ops [⟨(some 15), none, .mv (.t 3)⟩, ⟨(some 16), none, .fieldA 0 (.t 1)⟩, ⟨(some 17), none, .load false 1 (.t 16)⟩, ⟨(some 18), none, .bin .lss (.t 15) (.t 17)⟩, ⟨(some 19), none, .mv (.t 18)⟩, ⟨(some 20), some (19, true), .mv (.t 4)⟩, ⟨(some 21), some (19, true), .fieldA 0 (.t 1)⟩, ⟨(some 22), some (19, true), .load false 1 (.t 21)⟩, ⟨(some 23), some (19, true), .bin .sub (.t 22) (.c (.int .i64 1))⟩, ⟨(some 24), some (19, true), .call (.c (.fn (.func 103) [] [])) [(.t 20), (.c (.int .i64 0)), (.t 23)]⟩, ⟨(some 25), some (19, true), .not (.t 24)⟩, ⟨(some 26), none, .pick (.t 19) (.t 25) (.c (.bool false))⟩, ⟨(some 27), none, .mv (.t 26)⟩, ⟨(some 28), some (27, false), .mv (.t 3)⟩, ⟨(some 29), some (27, false), .fieldA 0 (.t 1)⟩, ⟨(some 30), some (27, false), .load false 1 (.t 29)⟩, ⟨(some 31), some (27, false), .bin .geq (.t 28) (.t 30)⟩, ⟨(some 32), some (27, false), .mv (.t 31)⟩, ⟨(some 33), some (32, true), .mv (.t 4)⟩, ⟨(some 34), some (32, true), .bin .neq (.t 33) (.c (.int .i64 0))⟩, ⟨(some 35), some (27, false), .pick (.t 32) (.t 34) (.c (.bool false))⟩, ⟨(some 36), none, .pick (.t 27) (.c (.bool true)) (.t 35)⟩])
  (.cond (.t 36) (.seq (.ops [⟨(some 2), none, .mv (.c (.bool false))⟩])
  .ret) .skip))))
  (.ops [⟨(some 37), none, .bin .add (.t 11) (.c (.int .i64 1))⟩, ⟨(some 11), none, .mv (.t 37)⟩]))))
def k77 : KC := (.seq (.ops [⟨(some 1), none, .box true (.t 0)⟩, ⟨(some 2), none, .mv (.c (.bool false))⟩])
  (.seq (.seq (.ops [⟨(some 5), none, .fieldA 0 (.t 1)⟩, ⟨(some 6), none, .load false 1 (.t 5)⟩, ⟨(some 7), none, .call (.c (.fn (.func 103) [] [])) [(.t 6), (.c (.int .i64 1)), (.c (.int .i64 5))]⟩, ⟨(some 8), none, .not (.t 7)⟩])
  (.cond (.t 8) (.seq (.ops [⟨(some 2), none, .mv (.c (.bool false))⟩])
  .ret) .skip))
  (.seq (.seq (.ops [⟨(some 9), none, .fieldA 1 (.t 1)⟩, ⟨(some 10), none, .load true 5 (.t 9)⟩, ⟨(some 11), none, .mv (.c (.int .i64 0))⟩])
  (.block 0 (.loop k77_b0)))
  (.seq (.ops [⟨(some 2), none, .mv (.c (.bool true))⟩])
  .ret))))
theorem e77 {args : List PV} {σ : Heap} {K : PV → Heap → Prop} (hl : args.length ≤ 38) (h : Wf σ → (∀ a ∈ args, PV.upto σ.length a) → vc (mkCfg Try.prog mixed [1] 38 σ.length) k77 (FinK σ.length [.t 2] K) (argEnv 0 args) σ) : ACall Try.prog 77 args σ K :=
  ACall_enter (C := mkCfg Try.prog mixed [1] 38 σ.length) (c := Try.f77.body.getD .skip) Try.func77 (by kernel_rfl) (by kernel_rfl) (by kernel_rfl) rfl hl (by kernel_rfl) (by kernel_rfl) h
/- spec.l01Identity -/
/- live [0, 2, 3, 4] -/
def k75_b0 : KC := (.seq (.seq (.ops [⟨(some 7), none, .mv (.t 4)⟩, ⟨(some 8), none, .mv (.t 0)⟩, ⟨(some 9), none, .bin .lss (.t 7) (.t 8)⟩])
  (.cond (.t 9) .skip (.exit 0)))
  (.seq (.block 1 (.ops [⟨(some 12), none, .mv (.t 4)⟩, ⟨(some 13), none, .mv (.t 4)⟩, ⟨(some 14), none, .fieldA 1 (.t 3)⟩, ⟨(some 15), none, .idxA 5 1 (.t 14) (.t 12)⟩, ⟨none, none, .store 1 (.t 15) (.t 13)⟩]))
  (.ops [⟨(some 10), none, .mv (.t 4)⟩, ⟨(some 11), none, .bin .add (.t 10) (.c (.int .i64 1))⟩, ⟨(some 4), none, .mv (.t 11)⟩])))
def k75 : KC := (.seq (.ops [⟨(some 2), none, .alloc [.int .i64 0, .int .i64 0, .int .i64 0, .int .i64 0, .int .i64 0, .int .i64 0]⟩])
  (.seq (.ops [⟨(some 5), none, .mv (.t 0)⟩, ⟨(some 6), none, .build [.int .i64 0, .int .i64 0, .int .i64 0, .int .i64 0, .int .i64 0, .int .i64 0] [(0, 1, (.t 5))]⟩, ⟨(some 3), none, .alloc [.int .i64 0, .int .i64 0, .int .i64 0, .int .i64 0, .int .i64 0, .int .i64 0]⟩, ⟨none, none, .store 6 (.t 3) (.t 6)⟩])
  (.seq (.seq (.ops [⟨(some 4), none, .mv (.c (.int .i64 0))⟩])
  (.block 0 (.loop k75_b0)))
  (.seq (.ops [⟨(some 16), none, .load true 6 (.t 3)⟩, ⟨none, none, .store 6 (.t 2) (.t 16)⟩])
  .ret))))
theorem e75 {args : List PV} {σ : Heap} {K : PV → Heap → Prop} (hl : args.length ≤ 17) (h : Wf σ → (∀ a ∈ args, PV.upto σ.length a) → vc (mkCfg Try.prog mixed [] 17 σ.length) k75 (FinK σ.length [.cell 2 true 6] K) (argEnv 0 args) σ) : ACall Try.prog 75 args σ K :=
  ACall_enter (C := mkCfg Try.prog mixed [] 17 σ.length) (c := Try.f75.body.getD .skip) Try.func75 (by kernel_rfl) (by kernel_rfl) (by kernel_rfl) rfl hl (by kernel_rfl) (by kernel_rfl) h
/- spec.l01Times -/
/- live [2, 3, 4, 5, 6] -/
def k99_b0 : KC := (.seq (.seq (.ops [⟨(some 10), none, .mv (.t 6)⟩, ⟨(some 11), none, .fieldA 0 (.t 2)⟩, ⟨(some 12), none, .load false 1 (.t 11)⟩, ⟨(some 13), none, .bin .lss (.t 10) (.t 12)⟩])
  (.cond (.t 13) .skip (.exit 0)))
  (.seq (.block 1 (.ops [⟨(some 16), none, .mv (.t 6)⟩, ⟨(some 17), none, .mv (.t 6)⟩, ⟨(some 18), none, .fieldA 1 (.t 2)⟩, ⟨(some 19), none, .idxA 5 1 (.t 18) (.t 17)⟩, ⟨(some 20), none, .load false 1 (.t 19)⟩, ⟨(some 21), none, .fieldA 1 (.t 3)⟩, ⟨(some 22), none, .idxA 5 1 (.t 21) (.t 20)⟩, ⟨(some 23), none, .load false 1 (.t 22)⟩, ⟨(some 24), none, .fieldA 1 (.t 5)⟩, ⟨(some 25), none, .idxA 5 1 (.t 24) (.t 16)⟩, ⟨none, none, .store 1 (.t 25) (.t 23)⟩]))
  (.ops [⟨(some 14), none, .mv (.t 6)⟩, ⟨(some 15), none, .bin .add (.t 14) (.c (.int .i64 1))⟩, ⟨(some 6), none, .mv (.t 15)⟩])))
def k99 : KC := (.seq (.ops [⟨(some 2), none, .box true (.t 0)⟩, ⟨(some 3), none, .box true (.t 1)⟩, ⟨(some 4), none, .alloc [.int .i64 0, .int .i64 0, .int .i64 0, .int .i64 0, .int .i64 0, .int .i64 0]⟩])
  (.seq (.ops [⟨(some 7), none, .fieldA 0 (.t 2)⟩, ⟨(some 8), none, .load false 1 (.t 7)⟩, ⟨(some 9), none, .build [.int .i64 0, .int .i64 0, .int .i64 0, .int .i64 0, .int .i64 0, .int .i64 0] [(0, 1, (.t 8))]⟩, ⟨(some 5), none, .alloc [.int .i64 0, .int .i64 0, .int .i64 0, .int .i64 0, .int .i64 0, .int .i64 0]⟩, ⟨none, none, .store 6 (.t 5) (.t 9)⟩])
  (.seq (.seq (.ops [⟨(some 6), none, .mv (.c (.int .i64 0))⟩])
  (.block 0 (.loop k99_b0)))
  (.seq (.ops [⟨(some 26), none, .load true 6 (.t 5)⟩, ⟨none, none, .store 6 (.t 4) (.t 26)⟩])
  .ret))))
theorem e99 {args : List PV} {σ : Heap} {K : PV → Heap → Prop} (hl : args.length ≤ 27) (h : Wf σ → (∀ a ∈ args, PV.upto σ.length a) → vc (mkCfg Try.prog mixed [2, 3] 27 σ.length) k99 (FinK σ.length [.cell 4 true 6] K) (argEnv 0 args) σ) : ACall Try.prog 99 args σ K :=
  ACall_enter (C := mkCfg Try.prog mixed [2, 3] 27 σ.length) (c := Try.f99.body.getD .skip) Try.func99 (by kernel_rfl) (by kernel_rfl) (by kernel_rfl) rfl hl (by kernel_rfl) (by kernel_rfl) h
/- (impl.Map).times -/
/- live [2, 3, 4, 7, 8] -/
def k131_b0 : KC := (.seq (.ops [⟨(some 9), none, .bin .lss (.t 8) (.t 7)⟩])
  (.seq (.cond (.t 9) .skip (.exit 0))
  (.seq (.block 1 (.seq (.ops [⟨(some 10), none, .mv (.t 8)⟩, ⟨(some 5), none, .mv (.t 10)⟩])
  (.ops [⟨(some 11), none, .mv (.t 5)⟩, ⟨(some 12), none, .mv (.t 5)⟩, ⟨(some 13), none, .fieldA 1 (.t 2)⟩, ⟨(some 14), none, .idxA 5 1 (.t 13) (.t 12)⟩, ⟨(some 15), none, .load false 1 (.t 14)⟩, ⟨(some 16), none, .fieldA 1 (.t 3)⟩, ⟨(some 17), none, .idxA 5 1 (.t 16) (.t 15)⟩, ⟨(some 18), none, .load false 1 (.t 17)⟩, ⟨(some 19), none, .fieldA 1 (.t 2)⟩, ⟨(some 20), none, .idxA 5 1 (.t 19) (.t 11)⟩, ⟨none, none, .store 1 (.t 20) (.t 18)⟩])))
  (.ops [⟨(some 21), none, .bin .add (.t 8) (.c (.int .i64 1))⟩, ⟨(some 8), none, .mv (.t 21)⟩]))))
def k131 : KC := (.seq (.ops [⟨(some 2), none, .box false (.t 0)⟩, ⟨(some 3), none, .box true (.t 1)⟩, ⟨(some 4), none, .alloc [.int .i64 0, .int .i64 0, .int .i64 0, .int .i64 0, .int .i64 0, .int .i64 0]⟩])
  (.seq (.seq (.ops [⟨(some 6), none, .fieldA 0 (.t 2)⟩, ⟨(some 7), none, .load false 1 (.t 6)⟩, ⟨(some 8), none, .mv (.c (.int .i64 0))⟩])
  (.block 0 (.loop k131_b0)))
  (.seq (.ops [⟨(some 22), none, .load true 6 (.t 2)⟩, ⟨none, none, .store 6 (.t 4) (.t 22)⟩])
  .ret)))
theorem e131 {args : List PV} {σ : Heap} {K : PV → Heap → Prop} (hl : args.length ≤ 23) (h : Wf σ → (∀ a ∈ args, PV.upto σ.length a) → vc (mkCfg Try.prog mixed [3] 23 σ.length) k131 (FinK σ.length [.cell 4 true 6] K) (argEnv 0 args) σ) : ACall Try.prog 131 args σ K :=
  ACall_enter (C := mkCfg Try.prog mixed [3] 23 σ.length) (c := Try.f131.body.getD .skip) Try.func131 (by kernel_rfl) (by kernel_rfl) (by kernel_rfl) rfl hl (by kernel_rfl) (by kernel_rfl) h
end Go.Proofs.Ytkljidghocnllaa
