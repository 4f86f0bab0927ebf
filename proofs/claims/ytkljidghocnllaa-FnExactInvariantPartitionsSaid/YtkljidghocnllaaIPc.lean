/- The compact code of functions of the seat, and how their calls are entered: printed by this session's own program. -/
import Derived.Test.YtkljidghocnllaaCb
namespace Go.Proofs.Ytkljidghocnllaa
open Go.Kv
set_option maxRecDepth 100000
/- impl.invariantPartitions -/
def k91 : KC := (.seq (.ops [⟨(some 1), none, .box true (.t 0)⟩, ⟨(some 2), none, .mv (.c (.nils))⟩])
  (.seq (.ops [⟨(some 3), none, .load false 1 (.t 1)⟩, ⟨(some 4), none, .idxS 6 (.t 3) (.c (.int .i64 0))⟩, ⟨(some 5), none, .fieldA 0 (.t 4)⟩, ⟨(some 6), none, .load false 1 (.t 5)⟩, ⟨(some 7), none, .call (.c (.fn (.func 124) [] [])) [(.t 6)]⟩, ⟨(some 8), none, .mkfn (.func 125) [] [(.t 1)]⟩, ⟨(some 9), none, .call (.c (.fn (.func 123) [] [])) [(.t 7), (.t 8)]⟩, ⟨(some 2), none, .mv (.t 9)⟩])
  .ret))
theorem e91 {args : List PV} {σ : Heap} {K : PV → Heap → Prop} (hl : args.length ≤ 10) (h : Wf σ → (∀ a ∈ args, PV.upto σ.length a) → vc (mkCfg Try.prog mixed [1] 10 σ.length) k91 (FinK σ.length [.t 2] K) (argEnv 0 args) σ) : ACall Try.prog 91 args σ K :=
  ACall_enter (C := mkCfg Try.prog mixed [1] 10 σ.length) (c := Try.f91.body.getD .skip) Try.func91 (by kernel_rfl) (by kernel_rfl) (by kernel_rfl) rfl hl (by kernel_rfl) (by kernel_rfl) h
/- impl.invariantPartitions$1 -/
def k125 : KC := (.seq (.ops [⟨(some 3), none, .mv (.c (.bool false))⟩])
  (.seq (.ops [⟨(some 4), none, .load false 1 (.t 1)⟩, ⟨(some 5), none, .mv (.t 0)⟩, ⟨(some 6), none, .call (.c (.fn (.func 82) [] [])) [(.t 4), (.t 5)]⟩, ⟨(some 7), none, .not (.t 6)⟩, ⟨(some 3), none, .mv (.t 7)⟩])
  .ret))
theorem e125 {args : List PV} {σ : Heap} {K : PV → Heap → Prop} (hl : args.length ≤ 8) (h : Wf σ → (∀ a ∈ args, PV.upto σ.length a) → vc (mkCfg Try.prog mixed [] 8 σ.length) k125 (FinK σ.length [.t 3] K) (argEnv 0 args) σ) : ACall Try.prog 125 args σ K :=
  ACall_enter (C := mkCfg Try.prog mixed [] 8 σ.length) (c := Try.f125.body.getD .skip) Try.func125 (by kernel_rfl) (by kernel_rfl) (by kernel_rfl) rfl hl (by kernel_rfl) (by kernel_rfl) h
/- impl.InvariantPartitions -/
def k52 : KC := (.seq (.ops [⟨(some 2), none, .mv (.c (.nils))⟩, ⟨(some 3), none, .mv (.c (.int .i64 0))⟩])
  (.seq (.seq (.ops [⟨(some 5), none, .mv (.t 0)⟩, ⟨(some 6), none, .call (.c (.fn (.func 64) [] [])) [(.t 5), (.c (.nils))]⟩, ⟨(some 4), none, .mv (.t 6)⟩])
  (.seq (.ops [⟨(some 7), none, .mv (.t 4)⟩, ⟨(some 8), none, .bin .neq (.t 7) (.c (.int .i64 0))⟩])
  (.cond (.t 8) (.seq (.ops [⟨(some 9), none, .mv (.t 4)⟩, ⟨(some 2), none, .mv (.c (.nils))⟩, ⟨(some 3), none, .mv (.t 9)⟩])
  .ret) .skip)))
  (.seq (.ops [⟨(some 10), none, .mv (.t 0)⟩, ⟨(some 11), none, .call (.c (.fn (.func 91) [] [])) [(.t 10)]⟩, ⟨(some 2), none, .mv (.t 11)⟩, ⟨(some 3), none, .mv (.c (.int .i64 0))⟩])
  .ret)))
theorem e52 {args : List PV} {σ : Heap} {K : PV → Heap → Prop} (hl : args.length ≤ 12) (h : Wf σ → (∀ a ∈ args, PV.upto σ.length a) → vc (mkCfg Try.prog mixed [] 12 σ.length) k52 (FinK σ.length [.t 2, .t 3] K) (argEnv 0 args) σ) : ACall Try.prog 52 args σ K :=
  ACall_enter (C := mkCfg Try.prog mixed [] 12 σ.length) (c := Try.f52.body.getD .skip) Try.func52 (by kernel_rfl) (by kernel_rfl) (by kernel_rfl) rfl hl (by kernel_rfl) (by kernel_rfl) h
/- spec.InvariantPartitions -/
def k51 : KC := (.seq (.ops [⟨(some 2), none, .mv (.c (.nils))⟩, ⟨(some 3), none, .mv (.c (.int .i64 0))⟩])
  (.seq (.seq (.ops [⟨(some 5), none, .mv (.t 0)⟩, ⟨(some 6), none, .call (.c (.fn (.func 63) [] [])) [(.t 5), (.c (.nils))]⟩, ⟨(some 4), none, .mv (.t 6)⟩])
  (.seq (.ops [⟨(some 7), none, .mv (.t 4)⟩, ⟨(some 8), none, .bin .neq (.t 7) (.c (.int .i64 0))⟩])
  (.cond (.t 8) (.seq (.ops [⟨(some 9), none, .mv (.t 4)⟩, ⟨(some 2), none, .mv (.c (.nils))⟩, ⟨(some 3), none, .mv (.t 9)⟩])
  .ret) .skip)))
  (.seq (.ops [⟨(some 10), none, .mv (.t 0)⟩, ⟨(some 11), none, .call (.c (.fn (.func 90) [] [])) [(.t 10)]⟩, ⟨(some 2), none, .mv (.t 11)⟩, ⟨(some 3), none, .mv (.c (.int .i64 0))⟩])
  .ret)))
theorem e51 {args : List PV} {σ : Heap} {K : PV → Heap → Prop} (hl : args.length ≤ 12) (h : Wf σ → (∀ a ∈ args, PV.upto σ.length a) → vc (mkCfg Try.prog mixed [] 12 σ.length) k51 (FinK σ.length [.t 2, .t 3] K) (argEnv 0 args) σ) : ACall Try.prog 51 args σ K :=
  ACall_enter (C := mkCfg Try.prog mixed [] 12 σ.length) (c := Try.f51.body.getD .skip) Try.func51 (by kernel_rfl) (by kernel_rfl) (by kernel_rfl) rfl hl (by kernel_rfl) (by kernel_rfl) h
/- spec.l10All -/
/- live [0, 3, 4, 5] -/
def k90_b0 : KC := (.seq (.seq (.ops [⟨(some 13), none, .mv (.t 5)⟩, ⟨(some 14), none, .mv (.t 3)⟩, ⟨(some 15), none, .len false (.t 14)⟩, ⟨(some 16), none, .bin .lss (.t 13) (.t 15)⟩])
  (.cond (.t 16) .skip (.exit 0)))
  (.seq (.block 1 (.seq (.ops [⟨(some 19), none, .mv (.t 0)⟩, ⟨(some 20), none, .mv (.t 3)⟩, ⟨(some 21), none, .mv (.t 5)⟩, ⟨(some 22), none, .idxS 1 (.t 20) (.t 21)⟩, ⟨(some 23), none, .load false 1 (.t 22)⟩, ⟨(some 24), none, .call (.c (.fn (.func 80) [] [])) [(.t 19), (.t 23)]⟩])
  (.cond (.t 24) (.ops [⟨(some 25), none, .mv (.t 4)⟩, ⟨(some 26), none, .mv (.t 3)⟩, ⟨(some 27), none, .mv (.t 5)⟩, ⟨(some 28), none, .idxS 1 (.t 26) (.t 27)⟩, ⟨(some 29), none, .load false 1 (.t 28)⟩, ⟨(some 30), none, .bsl true 50 1 [(.t 29)]⟩, ⟨(some 31), none, .app (.t 25) (.t 30) 50 1⟩, ⟨(some 4), none, .mv (.t 31)⟩]) .skip)))
  (.ops [⟨(some 17), none, .mv (.t 5)⟩, ⟨(some 18), none, .bin .add (.t 17) (.c (.int .i64 1))⟩, ⟨(some 5), none, .mv (.t 18)⟩])))
def k90 : KC := (.seq (.ops [⟨(some 2), none, .mv (.c (.nils))⟩])
  (.seq (.ops [⟨(some 6), none, .bsl false 2 1 [(.c (.int .i64 0))]⟩, ⟨(some 7), none, .mv (.t 0)⟩, ⟨(some 8), none, .idxS 6 (.t 7) (.c (.int .i64 0))⟩, ⟨(some 9), none, .fieldA 0 (.t 8)⟩, ⟨(some 10), none, .load false 1 (.t 9)⟩, ⟨(some 11), none, .call (.c (.fn (.func 122) [] [])) [(.t 6), (.c (.int .i64 1)), (.t 10)]⟩, ⟨(some 12), none, .bsl false 50 1 []⟩, ⟨(some 3), none, .mv (.t 11)⟩, ⟨(some 4), none, .mv (.t 12)⟩])
  (.seq (.seq (.ops [⟨(some 5), none, .mv (.c (.int .i64 0))⟩])
  (.block 0 (.loop k90_b0)))
  (.seq (.ops [⟨(some 32), none, .mv (.t 4)⟩, ⟨(some 2), none, .mv (.t 32)⟩])
  .ret))))
theorem e90 {args : List PV} {σ : Heap} {K : PV → Heap → Prop} (hl : args.length ≤ 33) (h : Wf σ → (∀ a ∈ args, PV.upto σ.length a) → vc (mkCfg Try.prog mixed [30] 33 σ.length) k90 (FinK σ.length [.t 2] K) (argEnv 0 args) σ) : ACall Try.prog 90 args σ K :=
  ACall_enter (C := mkCfg Try.prog mixed [30] 33 σ.length) (c := Try.f90.body.getD .skip) Try.func90 (by kernel_rfl) (by kernel_rfl) (by kernel_rfl) rfl hl (by kernel_rfl) (by kernel_rfl) h
end Go.Proofs.Ytkljidghocnllaa
