/- The compact code of functions of the seat, and how their calls are entered: printed by this session's own program. -/
import Derived.Test.YtpkddcjecfogeaaCb
namespace Go.Proofs.Ytpkddcjecfogeaa
open Go.Kv
set_option maxRecDepth 100000
/- (impl.Map).image -/
/- live [2, 5, 8, 9, 10] -/
def k88_b0 : KC := (.seq (.ops [⟨(some 11), none, .bin .lss (.t 10) (.t 9)⟩])
  (.seq (.cond (.t 11) .skip (.exit 0))
  (.seq (.block 1 (.seq (.ops [⟨(some 12), none, .idxS 1 (.t 8) (.t 10)⟩, ⟨(some 13), none, .load false 1 (.t 12)⟩, ⟨(some 7), none, .mv (.t 13)⟩])
  (.ops [⟨(some 14), none, .mv (.t 5)⟩, ⟨(some 15), none, .mv (.t 7)⟩, ⟨(some 16), none, .fieldA 1 (.t 2)⟩, ⟨(some 17), none, .idxA 5 1 (.t 16) (.t 15)⟩, ⟨(some 18), none, .load false 1 (.t 17)⟩, ⟨(some 19), none, .bsl true 2 1 [(.t 18)]⟩, ⟨(some 20), none, .app (.t 14) (.t 19) 2 1⟩, ⟨(some 5), none, .mv (.t 20)⟩])))
  (.ops [⟨(some 21), none, .bin .add (.t 10) (.c (.int .i64 1))⟩, ⟨(some 10), none, .mv (.t 21)⟩]))))
def k88 : KC := (.seq (.ops [⟨(some 2), none, .box true (.t 0)⟩, ⟨(some 4), none, .mv (.c (.nils))⟩])
  (.seq (.ops [⟨(some 5), none, .mv (.c (.nils))⟩])
  (.seq (.seq (.ops [⟨(some 8), none, .mv (.t 1)⟩, ⟨(some 9), none, .len false (.t 8)⟩, ⟨(some 10), none, .mv (.c (.int .i64 0))⟩])
  (.block 0 (.loop k88_b0)))
  (.seq (.ops [⟨(some 22), none, .mv (.t 5)⟩, ⟨(some 23), none, .call (.c (.fn (.func 135) [] [])) [(.t 22)]⟩])
  (.seq (.ops [⟨(some 24), none, .mv (.t 5)⟩, ⟨(some 25), none, .call (.c (.fn (.func 136) [] [])) [(.t 24)]⟩, ⟨(some 4), none, .mv (.t 25)⟩])
  .ret)))))
theorem e88 {args : List PV} {σ : Heap} {K : PV → Heap → Prop} (hl : args.length ≤ 26) (h : Wf σ → (∀ a ∈ args, PV.upto σ.length a) → vc (mkCfg Try.prog mixed [2, 19] 26 σ.length) k88 (FinK σ.length [.t 4] K) (argEnv 0 args) σ) : ACall Try.prog 88 args σ K :=
  ACall_enter (C := mkCfg Try.prog mixed [2, 19] 26 σ.length) (c := Try.f88.body.getD .skip) Try.func88 (by kernel_rfl) (by kernel_rfl) (by kernel_rfl) rfl hl (by kernel_rfl) (by kernel_rfl) h
/- (impl.Map).rank -/
def k169 : KC := (.seq (.ops [⟨(some 1), none, .box true (.t 0)⟩, ⟨(some 2), none, .mv (.c (.int .i64 0))⟩])
  (.seq (.draw [⟨(some 3), none, .load true 6 (.t 1)⟩, ⟨(some 4), none, .fieldA 0 (.t 1)⟩, ⟨(some 5), none, .load false 1 (.t 4)⟩, ⟨(some 6), none, .pcall (.c (.fn (.func 103) [] [])) [(.t 5)]⟩, ⟨(some 7), none, .pcall (.c (.fn (.func 88) [] [])) [(.t 3), (.t 6)]⟩, ⟨(some 8), none, .len false (.t 7)⟩, ⟨(some 2), none, .mv (.t 8)⟩])
  .ret))
theorem e169 {args : List PV} {σ : Heap} {K : PV → Heap → Prop} (hl : args.length ≤ 9) (h : Wf σ → (∀ a ∈ args, PV.upto σ.length a) → vc (mkCfg Try.prog mixed [1] 9 σ.length) k169 (FinK σ.length [.t 2] K) (argEnv 0 args) σ) : ACall Try.prog 169 args σ K :=
  ACall_enter (C := mkCfg Try.prog mixed [1] 9 σ.length) (c := Try.f169.body.getD .skip) Try.func169 (by kernel_rfl) (by kernel_rfl) (by kernel_rfl) rfl hl (by kernel_rfl) (by kernel_rfl) h
/- (impl.Map).isPermutation -/
def k120 : KC := (.seq (.ops [⟨(some 1), none, .box true (.t 0)⟩, ⟨(some 2), none, .mv (.c (.bool false))⟩])
  (.seq (.draw [⟨(some 3), none, .load true 6 (.t 1)⟩, ⟨(some 5), none, .fieldA 0 (.t 1)⟩, ⟨(some 6), none, .load false 1 (.t 5)⟩, ⟨(some 4), none, .pcall (.c (.fn (.func 169) [] [])) [(.t 3)]⟩, ⟨(some 7), none, .bin .eql (.t 4) (.t 6)⟩, ⟨(some 2), none, .mv (.t 7)⟩])
  .ret))
theorem e120 {args : List PV} {σ : Heap} {K : PV → Heap → Prop} (hl : args.length ≤ 8) (h : Wf σ → (∀ a ∈ args, PV.upto σ.length a) → vc (mkCfg Try.prog mixed [1] 8 σ.length) k120 (FinK σ.length [.t 2] K) (argEnv 0 args) σ) : ACall Try.prog 120 args σ K :=
  ACall_enter (C := mkCfg Try.prog mixed [1] 8 σ.length) (c := Try.f120.body.getD .skip) Try.func120 (by kernel_rfl) (by kernel_rfl) (by kernel_rfl) rfl hl (by kernel_rfl) (by kernel_rfl) h
/- impl.permutations -/
def k65 : KC := (.seq (.ops [⟨(some 2), none, .mv (.c (.nils))⟩])
  (.seq (.ops [⟨(some 3), none, .mv (.t 0)⟩, ⟨(some 4), none, .call (.c (.fn (.func 66) [] [])) [(.t 3)]⟩, ⟨(some 5), none, .call (.c (.fn (.func 118) [] [])) [(.t 4), (.c (.fn (.func 119) [] []))]⟩, ⟨(some 2), none, .mv (.t 5)⟩])
  .ret))
theorem e65 {args : List PV} {σ : Heap} {K : PV → Heap → Prop} (hl : args.length ≤ 6) (h : Wf σ → (∀ a ∈ args, PV.upto σ.length a) → vc (mkCfg Try.prog mixed [] 6 σ.length) k65 (FinK σ.length [.t 2] K) (argEnv 0 args) σ) : ACall Try.prog 65 args σ K :=
  ACall_enter (C := mkCfg Try.prog mixed [] 6 σ.length) (c := Try.f65.body.getD .skip) Try.func65 (by kernel_rfl) (by kernel_rfl) (by kernel_rfl) rfl hl (by kernel_rfl) (by kernel_rfl) h
/- impl.permutations$1 -/
def k119 : KC := (.seq (.ops [⟨(some 1), none, .box true (.t 0)⟩, ⟨(some 2), none, .mv (.c (.bool false))⟩])
  (.seq (.ops [⟨(some 3), none, .load true 6 (.t 1)⟩, ⟨(some 4), none, .call (.c (.fn (.func 120) [] [])) [(.t 3)]⟩, ⟨(some 5), none, .not (.t 4)⟩, ⟨(some 2), none, .mv (.t 5)⟩])
  .ret))
theorem e119 {args : List PV} {σ : Heap} {K : PV → Heap → Prop} (hl : args.length ≤ 6) (h : Wf σ → (∀ a ∈ args, PV.upto σ.length a) → vc (mkCfg Try.prog mixed [1] 6 σ.length) k119 (FinK σ.length [.t 2] K) (argEnv 0 args) σ) : ACall Try.prog 119 args σ K :=
  ACall_enter (C := mkCfg Try.prog mixed [1] 6 σ.length) (c := Try.f119.body.getD .skip) Try.func119 (by kernel_rfl) (by kernel_rfl) (by kernel_rfl) rfl hl (by kernel_rfl) (by kernel_rfl) h
end Go.Proofs.Ytpkddcjecfogeaa
