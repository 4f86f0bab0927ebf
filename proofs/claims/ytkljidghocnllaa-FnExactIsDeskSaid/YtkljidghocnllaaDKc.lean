/- The compact code of functions of the seat, and how their calls are entered: printed by this session's own program. -/
import Derived.Test.YtkljidghocnllaaCb
namespace Go.Proofs.Ytkljidghocnllaa
open Go.Kv
set_option maxRecDepth 100000
/- laws.szDesk -/
def k18 : KC := (.seq (.ops [⟨(some 2), none, .box true (.t 0)⟩, ⟨(some 4), none, .mv (.c (.int .i64 0))⟩])
  (.seq (.ops [⟨(some 5), none, .fieldA 0 (.t 2)⟩, ⟨(some 6), none, .load false 1 (.t 5)⟩, ⟨(some 7), none, .mv (.t 1)⟩, ⟨(some 8), none, .call (.c (.fn (.func 37) [] [])) [(.t 6), (.t 7)]⟩, ⟨(some 1), none, .mv (.t 8)⟩])
  (.seq (.seq (.ops [⟨(some 9), none, .mv (.t 1)⟩, ⟨(some 10), none, .bin .lss (.t 9) (.c (.int .i64 0))⟩])
  (.cond (.t 10) (.seq (.ops [⟨(some 4), none, .mv (.c (.int .i64 (-1)))⟩])
  .ret) .skip))
  (.seq (.ops [⟨(some 11), none, .mv (.t 1)⟩, ⟨(some 4), none, .mv (.t 11)⟩])
  .ret))))
theorem e18 {args : List PV} {σ : Heap} {K : PV → Heap → Prop} (hl : args.length ≤ 12) (h : Wf σ → (∀ a ∈ args, PV.upto σ.length a) → vc (mkCfg Try.prog mixed [2] 12 σ.length) k18 (FinK σ.length [.t 4] K) (argEnv 0 args) σ) : ACall Try.prog 18 args σ K :=
  ACall_enter (C := mkCfg Try.prog mixed [2] 12 σ.length) (c := Try.f18.body.getD .skip) Try.func18 (by kernel_rfl) (by kernel_rfl) (by kernel_rfl) rfl hl (by kernel_rfl) (by kernel_rfl) h
/- laws.toDesk -/
def k20 : KC := (.seq (.ops [⟨(some 1), none, .box true (.t 0)⟩, ⟨(some 2), none, .alloc [.nils, .int .i64 0, .int .i64 0, .int .i64 0, .int .i64 0, .int .i64 0, .int .i64 0]⟩])
  (.seq (.ops [⟨(some 3), none, .alloc [.nils, .int .i64 0, .int .i64 0, .int .i64 0, .int .i64 0, .int .i64 0, .int .i64 0]⟩])
  (.seq (.ops [⟨(some 4), none, .fieldA 0 (.t 1)⟩, ⟨(some 5), none, .load false 1 (.t 4)⟩, ⟨(some 6), none, .call (.c (.fn (.func 39) [] [])) [(.t 5)]⟩, ⟨(some 7), none, .fieldA 0 (.t 3)⟩, ⟨none, none, .store 1 (.t 7) (.t 6)⟩])
  (.seq (.ops [⟨(some 8), none, .fieldA 1 (.t 1)⟩, ⟨(some 9), none, .load true 6 (.t 8)⟩, ⟨(some 10), none, .call (.c (.fn (.func 16) [] [])) [(.t 9)]⟩, ⟨(some 11), none, .fieldA 1 (.t 3)⟩, ⟨none, none, .store 6 (.t 11) (.t 10)⟩])
  (.seq (.ops [⟨(some 12), none, .load true 7 (.t 3)⟩, ⟨none, none, .store 7 (.t 2) (.t 12)⟩])
  .ret)))))
theorem e20 {args : List PV} {σ : Heap} {K : PV → Heap → Prop} (hl : args.length ≤ 13) (h : Wf σ → (∀ a ∈ args, PV.upto σ.length a) → vc (mkCfg Try.prog mixed [1] 13 σ.length) k20 (FinK σ.length [.cell 2 true 7] K) (argEnv 0 args) σ) : ACall Try.prog 20 args σ K :=
  ACall_enter (C := mkCfg Try.prog mixed [1] 13 σ.length) (c := Try.f20.body.getD .skip) Try.func20 (by kernel_rfl) (by kernel_rfl) (by kernel_rfl) rfl hl (by kernel_rfl) (by kernel_rfl) h
/- laws.eqDesk -/
def k22 : KC := (.seq (.ops [⟨(some 2), none, .box true (.t 0)⟩, ⟨(some 3), none, .box true (.t 1)⟩, ⟨(some 4), none, .mv (.c (.bool false))⟩])
  (.seq (.seq (.ops [⟨(some 5), none, .fieldA 0 (.t 2)⟩, ⟨(some 6), none, .load false 1 (.t 5)⟩, ⟨(some 7), none, .fieldA 0 (.t 3)⟩, ⟨(some 8), none, .load false 1 (.t 7)⟩, ⟨(some 9), none, .call (.c (.fn (.func 41) [] [])) [(.t 6), (.t 8)]⟩, ⟨(some 10), none, .not (.t 9)⟩])
  (.cond (.t 10) (.seq (.ops [⟨(some 4), none, .mv (.c (.bool false))⟩])
  .ret) .skip))
  (.seq (.seq (.ops [⟨(some 11), none, .fieldA 1 (.t 2)⟩, ⟨(some 12), none, .load true 6 (.t 11)⟩, ⟨(some 13), none, .fieldA 1 (.t 3)⟩, ⟨(some 14), none, .load true 6 (.t 13)⟩, ⟨(some 15), none, .call (.c (.fn (.func 30) [] [])) [(.t 12), (.t 14)]⟩, ⟨(some 16), none, .not (.t 15)⟩])
  (.cond (.t 16) (.seq (.ops [⟨(some 4), none, .mv (.c (.bool false))⟩])
  .ret) .skip))
  (.seq (.ops [⟨(some 4), none, .mv (.c (.bool true))⟩])
  .ret))))
theorem e22 {args : List PV} {σ : Heap} {K : PV → Heap → Prop} (hl : args.length ≤ 17) (h : Wf σ → (∀ a ∈ args, PV.upto σ.length a) → vc (mkCfg Try.prog mixed [2, 3] 17 σ.length) k22 (FinK σ.length [.t 4] K) (argEnv 0 args) σ) : ACall Try.prog 22 args σ K :=
  ACall_enter (C := mkCfg Try.prog mixed [2, 3] 17 σ.length) (c := Try.f22.body.getD .skip) Try.func22 (by kernel_rfl) (by kernel_rfl) (by kernel_rfl) rfl hl (by kernel_rfl) (by kernel_rfl) h
/- impl.IsDesk -/
def k21 : KC := (.seq (.ops [⟨(some 1), none, .box true (.t 0)⟩, ⟨(some 2), none, .mv (.c (.bool false))⟩])
  (.seq (.ops [⟨(some 3), none, .fieldA 0 (.t 1)⟩, ⟨(some 4), none, .load false 1 (.t 3)⟩, ⟨(some 5), none, .fieldA 1 (.t 1)⟩, ⟨(some 6), none, .load true 6 (.t 5)⟩, ⟨(some 7), none, .bsl false 27 6 [(.t 6)]⟩, ⟨(some 8), none, .call (.c (.fn (.func 64) [] [])) [(.t 4), (.t 7)]⟩, ⟨(some 9), none, .bin .eql (.t 8) (.c (.int .i64 0))⟩, ⟨(some 2), none, .mv (.t 9)⟩])
  .ret))
theorem e21 {args : List PV} {σ : Heap} {K : PV → Heap → Prop} (hl : args.length ≤ 10) (h : Wf σ → (∀ a ∈ args, PV.upto σ.length a) → vc (mkCfg Try.prog mixed [1] 10 σ.length) k21 (FinK σ.length [.t 2] K) (argEnv 0 args) σ) : ACall Try.prog 21 args σ K :=
  ACall_enter (C := mkCfg Try.prog mixed [1] 10 σ.length) (c := Try.f21.body.getD .skip) Try.func21 (by kernel_rfl) (by kernel_rfl) (by kernel_rfl) rfl hl (by kernel_rfl) (by kernel_rfl) h
/- spec.IsDesk -/
def k19 : KC := (.seq (.ops [⟨(some 1), none, .box true (.t 0)⟩, ⟨(some 2), none, .mv (.c (.bool false))⟩])
  (.seq (.ops [⟨(some 3), none, .fieldA 0 (.t 1)⟩, ⟨(some 4), none, .load false 1 (.t 3)⟩, ⟨(some 5), none, .fieldA 1 (.t 1)⟩, ⟨(some 6), none, .load true 6 (.t 5)⟩, ⟨(some 7), none, .bsl false 27 6 [(.t 6)]⟩, ⟨(some 8), none, .call (.c (.fn (.func 63) [] [])) [(.t 4), (.t 7)]⟩, ⟨(some 9), none, .bin .eql (.t 8) (.c (.int .i64 0))⟩, ⟨(some 2), none, .mv (.t 9)⟩])
  .ret))
theorem e19 {args : List PV} {σ : Heap} {K : PV → Heap → Prop} (hl : args.length ≤ 10) (h : Wf σ → (∀ a ∈ args, PV.upto σ.length a) → vc (mkCfg Try.prog mixed [1] 10 σ.length) k19 (FinK σ.length [.t 2] K) (argEnv 0 args) σ) : ACall Try.prog 19 args σ K :=
  ACall_enter (C := mkCfg Try.prog mixed [1] 10 σ.length) (c := Try.f19.body.getD .skip) Try.func19 (by kernel_rfl) (by kernel_rfl) (by kernel_rfl) rfl hl (by kernel_rfl) (by kernel_rfl) h
/- laws.FnExactIsDesk -/
def k4 : KC := (.seq (.ops [⟨(some 1), none, .box true (.t 0)⟩, ⟨(some 2), none, .mv (.c (.bool false))⟩])
  (.seq (.ops [⟨(some 3), none, .mv (.c (.int .i64 1048576))⟩])
  (.seq (.ops [⟨(some 7), none, .load true 7 (.t 1)⟩, ⟨(some 8), none, .mv (.t 3)⟩, ⟨(some 9), none, .call (.c (.fn (.func 18) [] [])) [(.t 7), (.t 8)]⟩, ⟨(some 3), none, .mv (.t 9)⟩])
  (.seq (.seq (.ops [⟨(some 10), none, .mv (.t 3)⟩, ⟨(some 11), none, .bin .lss (.t 10) (.c (.int .i64 0))⟩])
  (.cond (.t 11) (.seq (.ops [⟨(some 2), none, .mv (.c (.bool true))⟩])
  .ret) .skip))
  (.seq (.ops [⟨(some 12), none, .load true 7 (.t 1)⟩, ⟨(some 13), none, .call (.c (.fn (.func 20) [] [])) [(.t 12)]⟩, ⟨(some 14), none, .call (.c (.fn (.func 19) [] [])) [(.t 13)]⟩, ⟨(some 4), none, .mv (.t 14)⟩])
  (.seq (.ops [⟨(some 15), none, .load true 7 (.t 1)⟩, ⟨(some 16), none, .call (.c (.fn (.func 20) [] [])) [(.t 15)]⟩, ⟨(some 5), none, .alloc [.nils, .int .i64 0, .int .i64 0, .int .i64 0, .int .i64 0, .int .i64 0, .int .i64 0]⟩, ⟨none, none, .store 7 (.t 5) (.t 16)⟩])
  (.seq (.ops [⟨(some 17), none, .load true 7 (.t 5)⟩, ⟨(some 18), none, .call (.c (.fn (.func 21) [] [])) [(.t 17)]⟩, ⟨(some 6), none, .mv (.t 18)⟩])
  (.seq (.seq (.ops [⟨(some 19), none, .mv (.t 6)⟩, ⟨(some 20), none, .mv (.t 4)⟩, ⟨(some 21), none, .beq true (.t 19) (.t 20)⟩])
  (.cond (.t 21) (.seq (.ops [⟨(some 2), none, .mv (.c (.bool false))⟩])
  .ret) .skip))
  (.seq (.seq (.draw [⟨(some 22), none, .load true 7 (.t 5)⟩, ⟨(some 23), none, .load true 7 (.t 1)⟩, ⟨(some 24), none, .pcall (.c (.fn (.func 20) [] [])) [(.t 23)]⟩, ⟨(some 25), none, .pcall (.c (.fn (.func 22) [] [])) [(.t 22), (.t 24)]⟩, ⟨(some 26), none, .not (.t 25)⟩])
  (.cond (.t 26) (.seq (.ops [⟨(some 2), none, .mv (.c (.bool false))⟩])
  .ret) .skip))
  (.seq (.ops [⟨(some 2), none, .mv (.c (.bool true))⟩])
  .ret))))))))))
theorem e4 {args : List PV} {σ : Heap} {K : PV → Heap → Prop} (hl : args.length ≤ 27) (h : Wf σ → (∀ a ∈ args, PV.upto σ.length a) → vc (mkCfg Try.prog mixed [1] 27 σ.length) k4 (FinK σ.length [.t 2] K) (argEnv 0 args) σ) : ACall Try.prog 4 args σ K :=
  ACall_enter (C := mkCfg Try.prog mixed [1] 27 σ.length) (c := Try.f4.body.getD .skip) Try.func4 (by kernel_rfl) (by kernel_rfl) (by kernel_rfl) rfl hl (by kernel_rfl) (by kernel_rfl) h
end Go.Proofs.Ytkljidghocnllaa
