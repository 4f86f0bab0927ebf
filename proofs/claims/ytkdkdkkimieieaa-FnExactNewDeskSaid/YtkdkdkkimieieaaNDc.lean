/- The compact code of functions of the seat, and how their calls are entered: printed by this session's own program. -/
import Derived.Test.YtkdkdkkimieieaaCb
namespace Go.Proofs.Ytkdkdkkimieieaa
open Go.Kv
set_option maxRecDepth 100000
/- laws.markDesk -/
def k27 : KC := (.seq (.ops [⟨(some 2), none, .box true (.t 0)⟩, ⟨(some 4), none, .mv (.c (.int .i64 0))⟩])
  (.seq (.ops [⟨(some 5), none, .fieldA 0 (.t 2)⟩, ⟨(some 6), none, .load false 1 (.t 5)⟩, ⟨(some 7), none, .mv (.t 1)⟩, ⟨(some 8), none, .call (.c (.fn (.func 62) [] [])) [(.t 6), (.t 7)]⟩, ⟨(some 1), none, .mv (.t 8)⟩])
  (.seq (.ops [⟨(some 9), none, .mv (.t 1)⟩, ⟨(some 4), none, .mv (.t 9)⟩])
  .ret)))
theorem e27 {args : List PV} {σ : Heap} {K : PV → Heap → Prop} (hl : args.length ≤ 10) (h : Wf σ → (∀ a ∈ args, PV.upto σ.length a) → vc (mkCfg Try.prog mixed [2] 10 σ.length) k27 (FinK σ.length [.t 4] K) (argEnv 0 args) σ) : ACall Try.prog 27 args σ K :=
  ACall_enter (C := mkCfg Try.prog mixed [2] 10 σ.length) (c := Try.f27.body.getD .skip) Try.func27 (by kernel_rfl) (by kernel_rfl) (by kernel_rfl) rfl hl (by kernel_rfl) (by kernel_rfl) h
/- laws.heldDesk -/
def k28 : KC := (.seq (.ops [⟨(some 2), none, .box true (.t 0)⟩, ⟨(some 4), none, .mv (.c (.int .i64 0))⟩])
  (.seq (.ops [⟨(some 5), none, .fieldA 0 (.t 2)⟩, ⟨(some 6), none, .load false 1 (.t 5)⟩, ⟨(some 7), none, .mv (.t 1)⟩, ⟨(some 8), none, .call (.c (.fn (.func 63) [] [])) [(.t 6), (.t 7)]⟩, ⟨(some 1), none, .mv (.t 8)⟩])
  (.seq (.seq (.ops [⟨(some 9), none, .mv (.t 1)⟩, ⟨(some 10), none, .bin .lss (.t 9) (.c (.int .i64 0))⟩])
  (.cond (.t 10) (.seq (.ops [⟨(some 4), none, .mv (.c (.int .i64 (-1)))⟩])
  .ret) .skip))
  (.seq (.ops [⟨(some 11), none, .mv (.t 1)⟩, ⟨(some 4), none, .mv (.t 11)⟩])
  .ret))))
theorem e28 {args : List PV} {σ : Heap} {K : PV → Heap → Prop} (hl : args.length ≤ 12) (h : Wf σ → (∀ a ∈ args, PV.upto σ.length a) → vc (mkCfg Try.prog mixed [2] 12 σ.length) k28 (FinK σ.length [.t 4] K) (argEnv 0 args) σ) : ACall Try.prog 28 args σ K :=
  ACall_enter (C := mkCfg Try.prog mixed [2] 12 σ.length) (c := Try.f28.body.getD .skip) Try.func28 (by kernel_rfl) (by kernel_rfl) (by kernel_rfl) rfl hl (by kernel_rfl) (by kernel_rfl) h
/- impl.NewDesk -/
def k25 : KC := (.seq (.ops [⟨(some 0), none, .alloc [.nils, .int .i64 0, .int .i64 0, .int .i64 0, .int .i64 0, .int .i64 0, .int .i64 0]⟩])
  (.seq (.ops [⟨(some 1), none, .build [.int .i64 0, .int .i64 0, .int .i64 0, .int .i64 0, .int .i64 0] [(0, 1, (.c (.int .i64 1))), (1, 1, (.c (.int .i64 0)))]⟩, ⟨(some 2), none, .build [.int .i64 0, .int .i64 0, .int .i64 0, .int .i64 0, .int .i64 0, .int .i64 0] [(0, 1, (.c (.int .i64 2))), (1, 5, (.t 1))]⟩, ⟨(some 3), none, .build [.int .i64 0, .int .i64 0, .int .i64 0, .int .i64 0, .int .i64 0, .int .i64 0] [(0, 1, (.c (.int .i64 2)))]⟩, ⟨(some 4), none, .bsl false 33 6 [(.t 2), (.t 3)]⟩, ⟨(some 5), none, .call (.c (.fn (.func 59) [] [])) [(.t 4)]⟩, ⟨none, none, .store 7 (.t 0) (.t 5)⟩])
  .ret))
theorem e25 {args : List PV} {σ : Heap} {K : PV → Heap → Prop} (hl : args.length ≤ 6) (h : Wf σ → (∀ a ∈ args, PV.upto σ.length a) → vc (mkCfg Try.prog mixed [] 6 σ.length) k25 (FinK σ.length [.cell 0 true 7] K) (argEnv 0 args) σ) : ACall Try.prog 25 args σ K :=
  ACall_enter (C := mkCfg Try.prog mixed [] 6 σ.length) (c := Try.f25.body.getD .skip) Try.func25 (by kernel_rfl) (by kernel_rfl) (by kernel_rfl) rfl hl (by kernel_rfl) (by kernel_rfl) h
/- impl.fresh -/
def k59 : KC := (.seq (.ops [⟨(some 2), none, .alloc [.nils, .int .i64 0, .int .i64 0, .int .i64 0, .int .i64 0, .int .i64 0, .int .i64 0]⟩])
  (.seq (.ops [⟨(some 3), none, .mv (.t 0)⟩, ⟨(some 4), none, .mv (.t 0)⟩, ⟨(some 5), none, .idxS 6 (.t 4) (.c (.int .i64 0))⟩, ⟨(some 6), none, .load true 6 (.t 5)⟩, ⟨(some 7), none, .build [.nils, .int .i64 0, .int .i64 0, .int .i64 0, .int .i64 0, .int .i64 0, .int .i64 0] [(0, 1, (.t 3)), (1, 6, (.t 6))]⟩, ⟨none, none, .store 7 (.t 2) (.t 7)⟩])
  .ret))
theorem e59 {args : List PV} {σ : Heap} {K : PV → Heap → Prop} (hl : args.length ≤ 8) (h : Wf σ → (∀ a ∈ args, PV.upto σ.length a) → vc (mkCfg Try.prog mixed [] 8 σ.length) k59 (FinK σ.length [.cell 2 true 7] K) (argEnv 0 args) σ) : ACall Try.prog 59 args σ K :=
  ACall_enter (C := mkCfg Try.prog mixed [] 8 σ.length) (c := Try.f59.body.getD .skip) Try.func59 (by kernel_rfl) (by kernel_rfl) (by kernel_rfl) rfl hl (by kernel_rfl) (by kernel_rfl) h
/- spec.NewDesk -/
def k24 : KC := (.seq (.ops [⟨(some 0), none, .alloc [.nils, .int .i64 0, .int .i64 0, .int .i64 0, .int .i64 0, .int .i64 0, .int .i64 0]⟩])
  (.seq (.ops [⟨(some 1), none, .call (.c (.fn (.func 58) [] [])) []⟩, ⟨none, none, .store 7 (.t 0) (.t 1)⟩])
  .ret))
theorem e24 {args : List PV} {σ : Heap} {K : PV → Heap → Prop} (hl : args.length ≤ 2) (h : Wf σ → (∀ a ∈ args, PV.upto σ.length a) → vc (mkCfg Try.prog mixed [] 2 σ.length) k24 (FinK σ.length [.cell 0 true 7] K) (argEnv 0 args) σ) : ACall Try.prog 24 args σ K :=
  ACall_enter (C := mkCfg Try.prog mixed [] 2 σ.length) (c := Try.f24.body.getD .skip) Try.func24 (by kernel_rfl) (by kernel_rfl) (by kernel_rfl) rfl hl (by kernel_rfl) (by kernel_rfl) h
/- spec.l11New -/
def k58 : KC := (.seq (.ops [⟨(some 0), none, .alloc [.nils, .int .i64 0, .int .i64 0, .int .i64 0, .int .i64 0, .int .i64 0, .int .i64 0]⟩])
  (.seq (.ops [⟨(some 1), none, .build [.int .i64 0, .int .i64 0, .int .i64 0, .int .i64 0, .int .i64 0] [(0, 1, (.c (.int .i64 1))), (1, 1, (.c (.int .i64 0)))]⟩, ⟨(some 2), none, .build [.int .i64 0, .int .i64 0, .int .i64 0, .int .i64 0, .int .i64 0, .int .i64 0] [(0, 1, (.c (.int .i64 2))), (1, 5, (.t 1))]⟩, ⟨(some 3), none, .build [.int .i64 0, .int .i64 0, .int .i64 0, .int .i64 0, .int .i64 0, .int .i64 0] [(0, 1, (.c (.int .i64 2)))]⟩, ⟨(some 4), none, .bsl false 33 6 [(.t 2), (.t 3)]⟩, ⟨(some 5), none, .call (.c (.fn (.func 92) [] [])) [(.t 4)]⟩, ⟨none, none, .store 7 (.t 0) (.t 5)⟩])
  .ret))
theorem e58 {args : List PV} {σ : Heap} {K : PV → Heap → Prop} (hl : args.length ≤ 6) (h : Wf σ → (∀ a ∈ args, PV.upto σ.length a) → vc (mkCfg Try.prog mixed [] 6 σ.length) k58 (FinK σ.length [.cell 0 true 7] K) (argEnv 0 args) σ) : ACall Try.prog 58 args σ K :=
  ACall_enter (C := mkCfg Try.prog mixed [] 6 σ.length) (c := Try.f58.body.getD .skip) Try.func58 (by kernel_rfl) (by kernel_rfl) (by kernel_rfl) rfl hl (by kernel_rfl) (by kernel_rfl) h
/- spec.l11Fresh -/
def k92 : KC := (.seq (.ops [⟨(some 2), none, .alloc [.nils, .int .i64 0, .int .i64 0, .int .i64 0, .int .i64 0, .int .i64 0, .int .i64 0]⟩])
  (.seq (.ops [⟨(some 3), none, .mv (.t 0)⟩, ⟨(some 4), none, .mv (.t 0)⟩, ⟨(some 5), none, .idxS 6 (.t 4) (.c (.int .i64 0))⟩, ⟨(some 6), none, .load true 6 (.t 5)⟩, ⟨(some 7), none, .build [.nils, .int .i64 0, .int .i64 0, .int .i64 0, .int .i64 0, .int .i64 0, .int .i64 0] [(0, 1, (.t 3)), (1, 6, (.t 6))]⟩, ⟨none, none, .store 7 (.t 2) (.t 7)⟩])
  .ret))
theorem e92 {args : List PV} {σ : Heap} {K : PV → Heap → Prop} (hl : args.length ≤ 8) (h : Wf σ → (∀ a ∈ args, PV.upto σ.length a) → vc (mkCfg Try.prog mixed [] 8 σ.length) k92 (FinK σ.length [.cell 2 true 7] K) (argEnv 0 args) σ) : ACall Try.prog 92 args σ K :=
  ACall_enter (C := mkCfg Try.prog mixed [] 8 σ.length) (c := Try.f92.body.getD .skip) Try.func92 (by kernel_rfl) (by kernel_rfl) (by kernel_rfl) rfl hl (by kernel_rfl) (by kernel_rfl) h
/- laws.FnExactNewDesk -/
def k6 : KC := (.seq (.ops [⟨(some 0), none, .mv (.c (.bool false))⟩])
  (.seq (.ops [⟨(some 6), none, .call (.c (.fn (.func 24) [] [])) []⟩, ⟨(some 1), none, .alloc [.nils, .int .i64 0, .int .i64 0, .int .i64 0, .int .i64 0, .int .i64 0, .int .i64 0]⟩, ⟨none, none, .store 7 (.t 1) (.t 6)⟩])
  (.seq (.ops [⟨(some 7), none, .call (.c (.fn (.func 25) [] [])) []⟩, ⟨(some 2), none, .alloc [.nils, .int .i64 0, .int .i64 0, .int .i64 0, .int .i64 0, .int .i64 0, .int .i64 0]⟩, ⟨none, none, .store 7 (.t 2) (.t 7)⟩])
  (.seq (.seq (.ops [⟨(some 8), none, .load true 7 (.t 2)⟩, ⟨(some 9), none, .load true 7 (.t 1)⟩, ⟨(some 10), none, .call (.c (.fn (.func 26) [] [])) [(.t 8), (.t 9)]⟩, ⟨(some 11), none, .not (.t 10)⟩])
  (.cond (.t 11) (.seq (.ops [⟨(some 0), none, .mv (.c (.bool false))⟩])
  .ret) .skip))
  (.seq (.ops [⟨(some 3), none, .mv (.c (.int .i64 1))⟩])
  (.seq (.ops [⟨(some 12), none, .load true 7 (.t 2)⟩, ⟨(some 13), none, .mv (.t 3)⟩, ⟨(some 14), none, .call (.c (.fn (.func 27) [] [])) [(.t 12), (.t 13)]⟩, ⟨(some 3), none, .mv (.t 14)⟩])
  (.seq (.ops [⟨(some 4), none, .mv (.c (.int .i64 1))⟩])
  (.seq (.ops [⟨(some 15), none, .load true 7 (.t 2)⟩, ⟨(some 16), none, .mv (.t 4)⟩, ⟨(some 17), none, .call (.c (.fn (.func 28) [] [])) [(.t 15), (.t 16)]⟩, ⟨(some 4), none, .mv (.t 17)⟩])
  (.seq (.seq (.ops [⟨(some 18), none, .mv (.t 4)⟩, ⟨(some 19), none, .bin .lss (.t 18) (.c (.int .i64 0))⟩])
  (.cond (.t 19) (.seq (.ops [⟨(some 0), none, .mv (.c (.bool false))⟩])
  .ret) .skip))
  (.seq (.seq (.ops [⟨(some 20), none, .mv (.t 4)⟩, ⟨(some 21), none, .mv (.t 3)⟩, ⟨(some 22), none, .bin .neq (.t 20) (.t 21)⟩])
  (.cond (.t 22) (.seq (.ops [⟨(some 0), none, .mv (.c (.bool false))⟩])
  .ret) .skip))
  (.seq (.ops [⟨(some 23), none, .call (.c (.fn (.func 25) [] [])) []⟩, ⟨(some 5), none, .alloc [.nils, .int .i64 0, .int .i64 0, .int .i64 0, .int .i64 0, .int .i64 0, .int .i64 0]⟩, ⟨none, none, .store 7 (.t 5) (.t 23)⟩])
  (.seq (.seq (.ops [⟨(some 24), none, .load true 7 (.t 5)⟩, ⟨(some 25), none, .load true 7 (.t 1)⟩, ⟨(some 26), none, .call (.c (.fn (.func 26) [] [])) [(.t 24), (.t 25)]⟩, ⟨(some 27), none, .not (.t 26)⟩])
  (.cond (.t 27) (.seq (.ops [⟨(some 0), none, .mv (.c (.bool false))⟩])
  .ret) .skip))
  (.seq (.ops [⟨(some 4), none, .mv (.c (.int .i64 1))⟩])
  (.seq (.ops [⟨(some 28), none, .load true 7 (.t 2)⟩, ⟨(some 29), none, .mv (.t 4)⟩, ⟨(some 30), none, .call (.c (.fn (.func 28) [] [])) [(.t 28), (.t 29)]⟩, ⟨(some 4), none, .mv (.t 30)⟩])
  (.seq (.seq (.ops [⟨(some 31), none, .mv (.t 4)⟩, ⟨(some 32), none, .bin .lss (.t 31) (.c (.int .i64 0))⟩])
  (.cond (.t 32) (.seq (.ops [⟨(some 0), none, .mv (.c (.bool false))⟩])
  .ret) .skip))
  (.seq (.seq (.ops [⟨(some 33), none, .mv (.t 4)⟩, ⟨(some 34), none, .mv (.t 3)⟩, ⟨(some 35), none, .bin .neq (.t 33) (.t 34)⟩])
  (.cond (.t 35) (.seq (.ops [⟨(some 0), none, .mv (.c (.bool false))⟩])
  .ret) .skip))
  (.seq (.ops [⟨(some 0), none, .mv (.c (.bool true))⟩])
  .ret)))))))))))))))))
theorem e6 {args : List PV} {σ : Heap} {K : PV → Heap → Prop} (hl : args.length ≤ 36) (h : Wf σ → (∀ a ∈ args, PV.upto σ.length a) → vc (mkCfg Try.prog mixed [] 36 σ.length) k6 (FinK σ.length [.t 0] K) (argEnv 0 args) σ) : ACall Try.prog 6 args σ K :=
  ACall_enter (C := mkCfg Try.prog mixed [] 36 σ.length) (c := Try.f6.body.getD .skip) Try.func6 (by kernel_rfl) (by kernel_rfl) (by kernel_rfl) rfl hl (by kernel_rfl) (by kernel_rfl) h
end Go.Proofs.Ytkdkdkkimieieaa
