/- The compact code of functions of the seat, and how their calls are entered: printed by this session's own program. -/
import Derived.Test.YtpkddcjecfogeaaCb
namespace Go.Proofs.Ytpkddcjecfogeaa
open Go.Kv
set_option maxRecDepth 100000
/- impl.leastForm -/
/- live [2, 4, 5, 10, 11, 12] -/
def k67_b0 : KC := (.seq (.ops [⟨(some 13), none, .bin .lss (.t 12) (.t 11)⟩])
  (.seq (.cond (.t 13) .skip (.exit 0))
  (.seq (.block 1 (.seq (.ops [⟨(some 14), none, .idxS 6 (.t 10) (.t 12)⟩, ⟨(some 15), none, .load true 6 (.t 14)⟩, ⟨(some 7), none, .alloc [.int .i64 0, .int .i64 0, .int .i64 0, .int .i64 0, .int .i64 0, .int .i64 0]⟩, ⟨none, none, .store 6 (.t 7) (.t 15)⟩])
  (.seq (.ops [⟨(some 16), none, .load true 6 (.t 2)⟩, ⟨(some 17), none, .load true 6 (.t 7)⟩, ⟨(some 18), none, .call (.c (.fn (.func 122) [] [])) [(.t 16), (.t 17)]⟩, ⟨(some 8), none, .alloc [.int .i64 0, .int .i64 0, .int .i64 0, .int .i64 0, .int .i64 0, .int .i64 0]⟩, ⟨none, none, .store 6 (.t 8) (.t 18)⟩])
  (.seq (.ops [⟨(some 19), none, .load true 6 (.t 8)⟩, ⟨(some 20), none, .load true 6 (.t 5)⟩, ⟨(some 21), none, .call (.c (.fn (.func 123) [] [])) [(.t 19), (.t 20)]⟩, ⟨(some 22), none, .bin .lss (.t 21) (.c (.int .i64 0))⟩])
  (.cond (.t 22) (.ops [⟨(some 23), none, .load true 6 (.t 8)⟩, ⟨none, none, .store 6 (.t 5) (.t 23)⟩]) .skip)))))
  (.ops [⟨(some 24), none, .bin .add (.t 12) (.c (.int .i64 1))⟩, ⟨(some 12), none, .mv (.t 24)⟩]))))
def k67 : KC := (.seq (.ops [⟨(some 2), none, .box true (.t 0)⟩, ⟨(some 4), none, .alloc [.int .i64 0, .int .i64 0, .int .i64 0, .int .i64 0, .int .i64 0, .int .i64 0]⟩])
  (.seq (.ops [⟨(some 9), none, .load true 6 (.t 2)⟩, ⟨(some 5), none, .alloc [.int .i64 0, .int .i64 0, .int .i64 0, .int .i64 0, .int .i64 0, .int .i64 0]⟩, ⟨none, none, .store 6 (.t 5) (.t 9)⟩])
  (.seq (.seq (.ops [⟨(some 10), none, .mv (.t 1)⟩, ⟨(some 11), none, .len false (.t 10)⟩, ⟨(some 12), none, .mv (.c (.int .i64 0))⟩])
  (.block 0 (.loop k67_b0)))
  (.seq (.ops [⟨(some 25), none, .load true 6 (.t 5)⟩, ⟨none, none, .store 6 (.t 4) (.t 25)⟩])
  .ret))))
theorem e67 {args : List PV} {σ : Heap} {K : PV → Heap → Prop} (hl : args.length ≤ 26) (h : Wf σ → (∀ a ∈ args, PV.upto σ.length a) → vc (mkCfg Try.prog mixed [2] 26 σ.length) k67 (FinK σ.length [.cell 4 true 6] K) (argEnv 0 args) σ) : ACall Try.prog 67 args σ K :=
  ACall_enter (C := mkCfg Try.prog mixed [2] 26 σ.length) (c := Try.f67.body.getD .skip) Try.func67 (by kernel_rfl) (by kernel_rfl) (by kernel_rfl) rfl hl (by kernel_rfl) (by kernel_rfl) h
/- spec.l09Least -/
/- live [1, 2, 4, 5, 6] -/
def k68_b0 : KC := (.seq (.seq (.ops [⟨(some 9), none, .mv (.t 6)⟩, ⟨(some 10), none, .mv (.t 1)⟩, ⟨(some 11), none, .len false (.t 10)⟩, ⟨(some 12), none, .bin .lss (.t 9) (.t 11)⟩])
  (.cond (.t 12) .skip (.exit 0)))
  (.seq (.block 1 (.seq (.draw [⟨(some 15), none, .load true 6 (.t 2)⟩, ⟨(some 16), none, .mv (.t 1)⟩, ⟨(some 17), none, .mv (.t 6)⟩, ⟨(some 18), none, .idxS 6 (.t 16) (.t 17)⟩, ⟨(some 19), none, .load true 6 (.t 18)⟩, ⟨(some 20), none, .pcall (.c (.fn (.func 63) [] [])) [(.t 15), (.t 19)]⟩, ⟨(some 7), none, .alloc [.int .i64 0, .int .i64 0, .int .i64 0, .int .i64 0, .int .i64 0, .int .i64 0]⟩, ⟨none, none, .store 6 (.t 7) (.t 20)⟩])
  (.seq (.ops [⟨(some 21), none, .load true 6 (.t 7)⟩, ⟨(some 22), none, .load true 6 (.t 5)⟩, ⟨(some 23), none, .call (.c (.fn (.func 124) [] [])) [(.t 21), (.t 22)]⟩])
  (.cond (.t 23) (.ops [⟨(some 24), none, .load true 6 (.t 7)⟩, ⟨none, none, .store 6 (.t 5) (.t 24)⟩]) .skip))))
  (.ops [⟨(some 13), none, .mv (.t 6)⟩, ⟨(some 14), none, .bin .add (.t 13) (.c (.int .i64 1))⟩, ⟨(some 6), none, .mv (.t 14)⟩])))
def k68 : KC := (.seq (.ops [⟨(some 2), none, .box true (.t 0)⟩, ⟨(some 4), none, .alloc [.int .i64 0, .int .i64 0, .int .i64 0, .int .i64 0, .int .i64 0, .int .i64 0]⟩])
  (.seq (.ops [⟨(some 8), none, .load true 6 (.t 2)⟩, ⟨(some 5), none, .alloc [.int .i64 0, .int .i64 0, .int .i64 0, .int .i64 0, .int .i64 0, .int .i64 0]⟩, ⟨none, none, .store 6 (.t 5) (.t 8)⟩])
  (.seq (.seq (.ops [⟨(some 6), none, .mv (.c (.int .i64 0))⟩])
  (.block 0 (.loop k68_b0)))
  (.seq (.ops [⟨(some 25), none, .load true 6 (.t 5)⟩, ⟨none, none, .store 6 (.t 4) (.t 25)⟩])
  .ret))))
theorem e68 {args : List PV} {σ : Heap} {K : PV → Heap → Prop} (hl : args.length ≤ 26) (h : Wf σ → (∀ a ∈ args, PV.upto σ.length a) → vc (mkCfg Try.prog mixed [2] 26 σ.length) k68 (FinK σ.length [.cell 4 true 6] K) (argEnv 0 args) σ) : ACall Try.prog 68 args σ K :=
  ACall_enter (C := mkCfg Try.prog mixed [2] 26 σ.length) (c := Try.f68.body.getD .skip) Try.func68 (by kernel_rfl) (by kernel_rfl) (by kernel_rfl) rfl hl (by kernel_rfl) (by kernel_rfl) h
/- impl.LeastForm -/
def k23 : KC := (.seq (.ops [⟨(some 1), none, .box true (.t 0)⟩, ⟨(some 2), none, .alloc [.int .i64 0, .int .i64 0, .int .i64 0, .int .i64 0, .int .i64 0, .int .i64 0]⟩, ⟨(some 3), none, .mv (.c (.int .i64 0))⟩])
  (.seq (.seq (.ops [⟨(some 4), none, .load true 6 (.t 1)⟩, ⟨(some 5), none, .call (.c (.fn (.func 52) [] [])) [(.t 4)]⟩, ⟨(some 6), none, .not (.t 5)⟩])
  (.cond (.t 6) (.seq (.ops [⟨(some 7), none, .build [.int .i64 0, .int .i64 0, .int .i64 0, .int .i64 0, .int .i64 0, .int .i64 0] []⟩, ⟨none, none, .store 6 (.t 2) (.t 7)⟩, ⟨(some 3), none, .mv (.c (.int .i64 1))⟩])
  .ret) .skip))
  (.seq (.draw [⟨(some 8), none, .load true 6 (.t 1)⟩, ⟨(some 9), none, .fieldA 0 (.t 1)⟩, ⟨(some 10), none, .load false 1 (.t 9)⟩, ⟨(some 11), none, .pcall (.c (.fn (.func 65) [] [])) [(.t 10)]⟩, ⟨(some 12), none, .pcall (.c (.fn (.func 67) [] [])) [(.t 8), (.t 11)]⟩, ⟨none, none, .store 6 (.t 2) (.t 12)⟩, ⟨(some 3), none, .mv (.c (.int .i64 0))⟩])
  .ret)))
theorem e23 {args : List PV} {σ : Heap} {K : PV → Heap → Prop} (hl : args.length ≤ 13) (h : Wf σ → (∀ a ∈ args, PV.upto σ.length a) → vc (mkCfg Try.prog mixed [1] 13 σ.length) k23 (FinK σ.length [.cell 2 true 6, .t 3] K) (argEnv 0 args) σ) : ACall Try.prog 23 args σ K :=
  ACall_enter (C := mkCfg Try.prog mixed [1] 13 σ.length) (c := Try.f23.body.getD .skip) Try.func23 (by kernel_rfl) (by kernel_rfl) (by kernel_rfl) rfl hl (by kernel_rfl) (by kernel_rfl) h
/- spec.LeastForm -/
def k22 : KC := (.seq (.ops [⟨(some 1), none, .box true (.t 0)⟩, ⟨(some 2), none, .alloc [.int .i64 0, .int .i64 0, .int .i64 0, .int .i64 0, .int .i64 0, .int .i64 0]⟩, ⟨(some 3), none, .mv (.c (.int .i64 0))⟩])
  (.seq (.seq (.ops [⟨(some 4), none, .load true 6 (.t 1)⟩, ⟨(some 5), none, .call (.c (.fn (.func 49) [] [])) [(.t 4)]⟩, ⟨(some 6), none, .not (.t 5)⟩])
  (.cond (.t 6) (.seq (.ops [⟨(some 7), none, .build [.int .i64 0, .int .i64 0, .int .i64 0, .int .i64 0, .int .i64 0, .int .i64 0] []⟩, ⟨none, none, .store 6 (.t 2) (.t 7)⟩, ⟨(some 3), none, .mv (.c (.int .i64 1))⟩])
  .ret) .skip))
  (.seq (.draw [⟨(some 8), none, .load true 6 (.t 1)⟩, ⟨(some 9), none, .fieldA 0 (.t 1)⟩, ⟨(some 10), none, .load false 1 (.t 9)⟩, ⟨(some 11), none, .bsl true 2 1 []⟩, ⟨(some 12), none, .pcall (.c (.fn (.func 61) [] [])) [(.t 10), (.t 11)]⟩, ⟨(some 13), none, .pcall (.c (.fn (.func 68) [] [])) [(.t 8), (.t 12)]⟩, ⟨none, none, .store 6 (.t 2) (.t 13)⟩, ⟨(some 3), none, .mv (.c (.int .i64 0))⟩])
  .ret)))
theorem e22 {args : List PV} {σ : Heap} {K : PV → Heap → Prop} (hl : args.length ≤ 14) (h : Wf σ → (∀ a ∈ args, PV.upto σ.length a) → vc (mkCfg Try.prog mixed [1, 11] 14 σ.length) k22 (FinK σ.length [.cell 2 true 6, .t 3] K) (argEnv 0 args) σ) : ACall Try.prog 22 args σ K :=
  ACall_enter (C := mkCfg Try.prog mixed [1, 11] 14 σ.length) (c := Try.f22.body.getD .skip) Try.func22 (by kernel_rfl) (by kernel_rfl) (by kernel_rfl) rfl hl (by kernel_rfl) (by kernel_rfl) h
/- impl.AreSameShape -/
def k26 : KC := (.seq (.ops [⟨(some 2), none, .box true (.t 0)⟩, ⟨(some 3), none, .box true (.t 1)⟩, ⟨(some 4), none, .mv (.c (.bool false))⟩, ⟨(some 5), none, .mv (.c (.int .i64 0))⟩])
  (.seq (.seq (.ops [⟨(some 8), none, .load true 6 (.t 2)⟩, ⟨(some 9), none, .load true 6 (.t 3)⟩, ⟨(some 10), none, .call (.c (.fn (.func 71) [] [])) [(.t 8), (.t 9)]⟩, ⟨(some 6), none, .mv (.t 10)⟩])
  (.seq (.ops [⟨(some 11), none, .mv (.t 6)⟩, ⟨(some 12), none, .bin .neq (.t 11) (.c (.int .i64 0))⟩])
  (.cond (.t 12) (.seq (.ops [⟨(some 13), none, .mv (.t 6)⟩, ⟨(some 4), none, .mv (.c (.bool false))⟩, ⟨(some 5), none, .mv (.t 13)⟩])
  .ret) .skip)))
  (.seq (.ops [⟨(some 14), none, .fieldA 0 (.t 2)⟩, ⟨(some 15), none, .load false 1 (.t 14)⟩, ⟨(some 16), none, .call (.c (.fn (.func 65) [] [])) [(.t 15)]⟩, ⟨(some 7), none, .mv (.t 16)⟩])
  (.seq (.draw [⟨(some 17), none, .load true 6 (.t 2)⟩, ⟨(some 18), none, .mv (.t 7)⟩, ⟨(some 20), none, .load true 6 (.t 3)⟩, ⟨(some 21), none, .mv (.t 7)⟩, ⟨(some 19), none, .pcall (.c (.fn (.func 67) [] [])) [(.t 17), (.t 18)]⟩, ⟨(some 22), none, .pcall (.c (.fn (.func 67) [] [])) [(.t 20), (.t 21)]⟩, ⟨(some 23), none, .aeq false 6 (.t 19) (.t 22)⟩, ⟨(some 4), none, .mv (.t 23)⟩, ⟨(some 5), none, .mv (.c (.int .i64 0))⟩])
  .ret))))
theorem e26 {args : List PV} {σ : Heap} {K : PV → Heap → Prop} (hl : args.length ≤ 24) (h : Wf σ → (∀ a ∈ args, PV.upto σ.length a) → vc (mkCfg Try.prog mixed [2, 3] 24 σ.length) k26 (FinK σ.length [.t 4, .t 5] K) (argEnv 0 args) σ) : ACall Try.prog 26 args σ K :=
  ACall_enter (C := mkCfg Try.prog mixed [2, 3] 24 σ.length) (c := Try.f26.body.getD .skip) Try.func26 (by kernel_rfl) (by kernel_rfl) (by kernel_rfl) rfl hl (by kernel_rfl) (by kernel_rfl) h
/- spec.AreSameShape -/
def k25 : KC := (.seq (.ops [⟨(some 2), none, .box true (.t 0)⟩, ⟨(some 3), none, .box true (.t 1)⟩, ⟨(some 4), none, .mv (.c (.bool false))⟩, ⟨(some 5), none, .mv (.c (.int .i64 0))⟩])
  (.seq (.seq (.ops [⟨(some 8), none, .load true 6 (.t 2)⟩, ⟨(some 9), none, .load true 6 (.t 3)⟩, ⟨(some 10), none, .call (.c (.fn (.func 70) [] [])) [(.t 8), (.t 9)]⟩, ⟨(some 6), none, .mv (.t 10)⟩])
  (.seq (.ops [⟨(some 11), none, .mv (.t 6)⟩, ⟨(some 12), none, .bin .neq (.t 11) (.c (.int .i64 0))⟩])
  (.cond (.t 12) (.seq (.ops [⟨(some 13), none, .mv (.t 6)⟩, ⟨(some 4), none, .mv (.c (.bool false))⟩, ⟨(some 5), none, .mv (.t 13)⟩])
  .ret) .skip)))
  (.seq (.ops [⟨(some 14), none, .fieldA 0 (.t 2)⟩, ⟨(some 15), none, .load false 1 (.t 14)⟩, ⟨(some 16), none, .bsl false 2 1 []⟩, ⟨(some 17), none, .call (.c (.fn (.func 61) [] [])) [(.t 15), (.t 16)]⟩, ⟨(some 7), none, .mv (.t 17)⟩])
  (.seq (.draw [⟨(some 18), none, .load true 6 (.t 2)⟩, ⟨(some 19), none, .mv (.t 7)⟩, ⟨(some 21), none, .load true 6 (.t 3)⟩, ⟨(some 22), none, .mv (.t 7)⟩, ⟨(some 20), none, .pcall (.c (.fn (.func 68) [] [])) [(.t 18), (.t 19)]⟩, ⟨(some 23), none, .pcall (.c (.fn (.func 68) [] [])) [(.t 21), (.t 22)]⟩, ⟨(some 24), none, .aeq false 6 (.t 20) (.t 23)⟩, ⟨(some 4), none, .mv (.t 24)⟩, ⟨(some 5), none, .mv (.c (.int .i64 0))⟩])
  .ret))))
theorem e25 {args : List PV} {σ : Heap} {K : PV → Heap → Prop} (hl : args.length ≤ 25) (h : Wf σ → (∀ a ∈ args, PV.upto σ.length a) → vc (mkCfg Try.prog mixed [2, 3] 25 σ.length) k25 (FinK σ.length [.t 4, .t 5] K) (argEnv 0 args) σ) : ACall Try.prog 25 args σ K :=
  ACall_enter (C := mkCfg Try.prog mixed [2, 3] 25 σ.length) (c := Try.f25.body.getD .skip) Try.func25 (by kernel_rfl) (by kernel_rfl) (by kernel_rfl) rfl hl (by kernel_rfl) (by kernel_rfl) h
/- impl.pairCode -/
def k71 : KC := (.seq (.ops [⟨(some 2), none, .box true (.t 0)⟩, ⟨(some 3), none, .box true (.t 1)⟩, ⟨(some 4), none, .mv (.c (.int .i64 0))⟩])
  (.seq (.block 0 (.seq (.ops [⟨(some 6), none, .load true 6 (.t 2)⟩, ⟨(some 7), none, .call (.c (.fn (.func 52) [] [])) [(.t 6)]⟩, ⟨(some 8), none, .not (.t 7)⟩, ⟨(some 9), none, .mv (.t 8)⟩, ⟨(some 10), some (9, false), .load true 6 (.t 3)⟩, ⟨(some 11), some (9, false), .call (.c (.fn (.func 52) [] [])) [(.t 10)]⟩, ⟨(some 12), some (9, false), .not (.t 11)⟩, ⟨(some 13), none, .pick (.t 9) (.c (.bool true)) (.t 12)⟩, ⟨(some 5), none, .mv (.t 13)⟩])
  (.cond (.t 5) (.seq (.ops [⟨(some 4), none, .mv (.c (.int .i64 1))⟩])
  .ret) (.seq (.ops [⟨(some 15), none, .fieldA 0 (.t 2)⟩, ⟨(some 16), none, .load false 1 (.t 15)⟩, ⟨(some 17), none, .fieldA 0 (.t 3)⟩, ⟨(some 18), none, .load false 1 (.t 17)⟩, ⟨(some 19), none, .bin .neq (.t 16) (.t 18)⟩, ⟨(some 14), none, .mv (.t 19)⟩])
  (.cond (.t 14) (.seq (.ops [⟨(some 4), none, .mv (.c (.int .i64 2))⟩])
  .ret) .skip)))))
  (.seq (.ops [⟨(some 4), none, .mv (.c (.int .i64 0))⟩])
  .ret)))
theorem e71 {args : List PV} {σ : Heap} {K : PV → Heap → Prop} (hl : args.length ≤ 20) (h : Wf σ → (∀ a ∈ args, PV.upto σ.length a) → vc (mkCfg Try.prog mixed [2, 3] 20 σ.length) k71 (FinK σ.length [.t 4] K) (argEnv 0 args) σ) : ACall Try.prog 71 args σ K :=
  ACall_enter (C := mkCfg Try.prog mixed [2, 3] 20 σ.length) (c := Try.f71.body.getD .skip) Try.func71 (by kernel_rfl) (by kernel_rfl) (by kernel_rfl) rfl hl (by kernel_rfl) (by kernel_rfl) h
/- spec.l01Like -/
def k70 : KC := (.seq (.ops [⟨(some 2), none, .box true (.t 0)⟩, ⟨(some 3), none, .box true (.t 1)⟩, ⟨(some 4), none, .mv (.c (.int .i64 0))⟩])
  (.seq (.block 0 (.seq (.ops [⟨(some 6), none, .load true 6 (.t 2)⟩, ⟨(some 7), none, .call (.c (.fn (.func 49) [] [])) [(.t 6)]⟩, ⟨(some 8), none, .not (.t 7)⟩, ⟨(some 9), none, .mv (.t 8)⟩, ⟨(some 10), some (9, false), .load true 6 (.t 3)⟩, ⟨(some 11), some (9, false), .call (.c (.fn (.func 49) [] [])) [(.t 10)]⟩, ⟨(some 12), some (9, false), .not (.t 11)⟩, ⟨(some 13), none, .pick (.t 9) (.c (.bool true)) (.t 12)⟩, ⟨(some 5), none, .mv (.t 13)⟩])
  (.cond (.t 5) (.seq (.ops [⟨(some 4), none, .mv (.c (.int .i64 1))⟩])
  .ret) (.seq (.ops [⟨(some 15), none, .fieldA 0 (.t 2)⟩, ⟨(some 16), none, .load false 1 (.t 15)⟩, ⟨(some 17), none, .fieldA 0 (.t 3)⟩, ⟨(some 18), none, .load false 1 (.t 17)⟩, ⟨(some 19), none, .bin .neq (.t 16) (.t 18)⟩, ⟨(some 14), none, .mv (.t 19)⟩])
  (.cond (.t 14) (.seq (.ops [⟨(some 4), none, .mv (.c (.int .i64 2))⟩])
  .ret) .skip)))))
  (.seq (.ops [⟨(some 4), none, .mv (.c (.int .i64 0))⟩])
  .ret)))
theorem e70 {args : List PV} {σ : Heap} {K : PV → Heap → Prop} (hl : args.length ≤ 20) (h : Wf σ → (∀ a ∈ args, PV.upto σ.length a) → vc (mkCfg Try.prog mixed [2, 3] 20 σ.length) k70 (FinK σ.length [.t 4] K) (argEnv 0 args) σ) : ACall Try.prog 70 args σ K :=
  ACall_enter (C := mkCfg Try.prog mixed [2, 3] 20 σ.length) (c := Try.f70.body.getD .skip) Try.func70 (by kernel_rfl) (by kernel_rfl) (by kernel_rfl) rfl hl (by kernel_rfl) (by kernel_rfl) h
end Go.Proofs.Ytpkddcjecfogeaa
