/- The compact code of functions of the seat, and how their calls are entered: printed by this session's own program. -/
import Derived.Test.YtkljidghocnllaaCb
namespace Go.Proofs.Ytkljidghocnllaa
open Go.Kv
set_option maxRecDepth 100000
/- impl.partitions -/
/- live [4, 6, 10, 11, 13, 14, 15, 25, 26] -/
def k124_b0 : KC := (.seq (.ops [⟨(some 27), none, .bin .lss (.t 26) (.t 25)⟩])
  (.seq (.cond (.t 27) .skip (.exit 4))
  (.seq (.block 5 (.seq (.ops [⟨(some 28), none, .mv (.t 26)⟩, ⟨(some 8), none, .mv (.t 28)⟩])
  (.ops [⟨(some 29), none, .mv (.t 4)⟩, ⟨(some 30), none, .mv (.t 6)⟩, ⟨(some 31), none, .call (.c (.fn (.func 74) [] [])) [(.t 30)]⟩, ⟨(some 32), none, .mv (.t 8)⟩, ⟨(some 33), none, .bsl true 2 1 [(.t 32)]⟩, ⟨(some 34), none, .app (.t 31) (.t 33) 2 1⟩, ⟨(some 35), none, .bsl true 50 1 [(.t 34)]⟩, ⟨(some 36), none, .app (.t 29) (.t 35) 50 1⟩, ⟨(some 4), none, .mv (.t 36)⟩])))
  (.ops [⟨(some 37), none, .bin .add (.t 26) (.c (.int .i64 1))⟩, ⟨(some 26), none, .mv (.t 37)⟩]))))
/- live [4, 10, 11, 13, 14, 15] -/
def k124_b1 : KC := (.seq (.ops [⟨(some 16), none, .bin .lss (.t 15) (.t 14)⟩])
  (.seq (.cond (.t 16) .skip (.exit 2))
  (.seq (.block 3 (.seq (.ops [⟨(some 17), none, .idxS 1 (.t 13) (.t 15)⟩, ⟨(some 18), none, .load false 1 (.t 17)⟩, ⟨(some 6), none, .mv (.t 18)⟩])
  (.seq (.ops [⟨(some 7), none, .mv (.c (.int .i64 0))⟩])
  (.seq (.seq (.ops [⟨(some 19), none, .mv (.t 6)⟩, ⟨(some 20), none, .len false (.t 19)⟩, ⟨(some 21), none, .bin .gtr (.t 20) (.c (.int .i64 0))⟩])
  (.cond (.t 21) (.ops [⟨(some 22), none, .mv (.t 6)⟩, ⟨(some 23), none, .call (.c (.fn (.func 89) [] [])) [(.t 22)]⟩, ⟨(some 7), none, .mv (.t 23)⟩]) .skip))
  (.seq (.ops [⟨(some 24), none, .mv (.t 7)⟩, ⟨(some 25), none, .bin .add (.t 24) (.c (.int .i64 1))⟩, ⟨(some 26), none, .mv (.c (.int .i64 0))⟩])
  (.block 4 (.loop k124_b0)))))))
  (.ops [⟨(some 38), none, .bin .add (.t 15) (.c (.int .i64 1))⟩, ⟨(some 15), none, .mv (.t 38)⟩]))))
/- live [3, 10, 11] -/
def k124_b2 : KC := (.seq (.ops [⟨(some 12), none, .bin .lss (.t 11) (.t 10)⟩])
  (.seq (.cond (.t 12) .skip (.exit 0))
  (.seq (.block 1 (.seq (.ops [⟨(some 4), none, .mv (.c (.nils))⟩])
  (.seq (.seq (.ops [⟨(some 13), none, .mv (.t 3)⟩, ⟨(some 14), none, .len false (.t 13)⟩, ⟨(some 15), none, .mv (.c (.int .i64 0))⟩])
  (.block 2 (.loop k124_b1)))
  (.ops [⟨(some 39), none, .mv (.t 4)⟩, ⟨(some 3), none, .mv (.t 39)⟩]))))
  (.ops [⟨(some 40), none, .bin .add (.t 11) (.c (.int .i64 1))⟩, ⟨(some 11), none, .mv (.t 40)⟩]))))
def k124 : KC := (.seq (.ops [⟨(some 2), none, .mv (.c (.nils))⟩])
  (.seq (.ops [⟨(some 9), none, .bsl false 50 1 [(.c (.nils))]⟩, ⟨(some 3), none, .mv (.t 9)⟩])
  (.seq (.seq (.ops [⟨(some 10), none, .mv (.t 0)⟩, ⟨(some 11), none, .mv (.c (.int .i64 0))⟩])
  (.block 0 (.loop k124_b2)))
  (.seq (.ops [⟨(some 41), none, .mv (.t 3)⟩, ⟨(some 2), none, .mv (.t 41)⟩])
  .ret))))
theorem e124 {args : List PV} {σ : Heap} {K : PV → Heap → Prop} (hl : args.length ≤ 42) (h : Wf σ → (∀ a ∈ args, PV.upto σ.length a) → vc (mkCfg Try.prog mixed [33, 35] 42 σ.length) k124 (FinK σ.length [.t 2] K) (argEnv 0 args) σ) : ACall Try.prog 124 args σ K :=
  ACall_enter (C := mkCfg Try.prog mixed [33, 35] 42 σ.length) (c := Try.f124.body.getD .skip) Try.func124 (by kernel_rfl) (by kernel_rfl) (by kernel_rfl) rfl hl (by kernel_rfl) (by kernel_rfl) h
/- spec.l10Partitions -/
/- live [0, 1, 2, 7, 8] -/
def k122_b0 : KC := (.seq (.seq (.ops [⟨(some 16), none, .mv (.t 8)⟩, ⟨(some 17), none, .mv (.t 1)⟩, ⟨(some 18), none, .bin .leq (.t 16) (.t 17)⟩])
  (.cond (.t 18) .skip (.exit 0)))
  (.seq (.block 1 (.ops [⟨(some 21), none, .mv (.t 7)⟩, ⟨(some 22), none, .mv (.t 0)⟩, ⟨(some 23), none, .call (.c (.fn (.func 109) [] [])) [(.t 22)]⟩, ⟨(some 24), none, .mv (.t 8)⟩, ⟨(some 25), none, .bsl true 2 1 [(.t 24)]⟩, ⟨(some 26), none, .app (.t 23) (.t 25) 2 1⟩, ⟨(some 27), none, .mv (.t 1)⟩, ⟨(some 28), none, .mv (.t 8)⟩, ⟨(some 29), none, .bin .add (.t 28) (.c (.int .i64 1))⟩, ⟨(some 30), none, .mnmx true (.t 27) [(.t 29)]⟩, ⟨(some 31), none, .mv (.t 2)⟩, ⟨(some 32), none, .call (.c (.fn (.func 122) [] [])) [(.t 26), (.t 30), (.t 31)]⟩, ⟨(some 33), none, .app (.t 21) (.t 32) 50 1⟩, ⟨(some 7), none, .mv (.t 33)⟩]))
  (.ops [⟨(some 19), none, .mv (.t 8)⟩, ⟨(some 20), none, .bin .add (.t 19) (.c (.int .i64 1))⟩, ⟨(some 8), none, .mv (.t 20)⟩])))
def k122 : KC := (.seq (.ops [⟨(some 6), none, .mv (.c (.nils))⟩])
  (.seq (.seq (.ops [⟨(some 9), none, .mv (.t 0)⟩, ⟨(some 10), none, .len false (.t 9)⟩, ⟨(some 11), none, .mv (.t 2)⟩, ⟨(some 12), none, .bin .eql (.t 10) (.t 11)⟩])
  (.cond (.t 12) (.seq (.ops [⟨(some 13), none, .mv (.t 0)⟩, ⟨(some 14), none, .bsl false 50 1 [(.t 13)]⟩, ⟨(some 6), none, .mv (.t 14)⟩])
  .ret) .skip))
  (.seq (.ops [⟨(some 15), none, .bsl false 50 1 []⟩, ⟨(some 7), none, .mv (.t 15)⟩])
  (.seq (.seq (.ops [⟨(some 8), none, .mv (.c (.int .i64 0))⟩])
  (.block 0 (.loop k122_b0)))
  (.seq (.ops [⟨(some 34), none, .mv (.t 7)⟩, ⟨(some 6), none, .mv (.t 34)⟩])
  .ret)))))
theorem e122 {args : List PV} {σ : Heap} {K : PV → Heap → Prop} (hl : args.length ≤ 35) (h : Wf σ → (∀ a ∈ args, PV.upto σ.length a) → vc (mkCfg Try.prog mixed [25] 35 σ.length) k122 (FinK σ.length [.t 6] K) (argEnv 0 args) σ) : ACall Try.prog 122 args σ K :=
  ACall_enter (C := mkCfg Try.prog mixed [25] 35 σ.length) (c := Try.f122.body.getD .skip) Try.func122 (by kernel_rfl) (by kernel_rfl) (by kernel_rfl) rfl hl (by kernel_rfl) (by kernel_rfl) h
/- slices.Clone[[]int64,int64] -/
def k74 : KC := (.seq (.ops [⟨(some 2), none, .mv (.c (.nils))⟩])
  (.seq (.seq (.ops [⟨(some 3), none, .mv (.t 0)⟩, ⟨(some 4), none, .isn false (.t 3)⟩])
  (.cond (.t 4) (.seq (.ops [⟨(some 2), none, .mv (.c (.nils))⟩])
  .ret) .skip))
  (.seq (.ops [⟨(some 5), none, .bsl false 2 1 []⟩, ⟨(some 6), none, .mv (.t 0)⟩, ⟨(some 7), none, .app (.t 5) (.t 6) 2 1⟩, ⟨(some 2), none, .mv (.t 7)⟩])
  .ret)))
theorem e74 {args : List PV} {σ : Heap} {K : PV → Heap → Prop} (hl : args.length ≤ 8) (h : Wf σ → (∀ a ∈ args, PV.upto σ.length a) → vc (mkCfg Try.prog mixed [] 8 σ.length) k74 (FinK σ.length [.t 2] K) (argEnv 0 args) σ) : ACall Try.prog 74 args σ K :=
  ACall_enter (C := mkCfg Try.prog mixed [] 8 σ.length) (c := Try.f74.body.getD .skip) Try.func74 (by kernel_rfl) (by kernel_rfl) (by kernel_rfl) rfl hl (by kernel_rfl) (by kernel_rfl) h
end Go.Proofs.Ytkljidghocnllaa
