/- The compact code of functions of the seat, and how their calls are entered: printed by this session's own program. -/
import Derived.Test.YtkdkdkkimieieaaCb
namespace Go.Proofs.Ytkdkdkkimieieaa
open Go.Kv
set_option maxRecDepth 100000
/- (impl.Map).isCyclic -/
/- live [1, 2, 5, 11, 12] -/
def k101_b0 : KC := (.seq (.ops [⟨(some 13), none, .bin .lss (.t 12) (.t 11)⟩])
  (.seq (.cond (.t 13) .skip (.exit 0))
  (.seq (.block 1 (.seq (.seq (.ops [⟨(some 14), none, .mv (.t 5)⟩, ⟨(some 15), none, .mv (.t 1)⟩, ⟨(some 16), none, .bin .eql (.t 14) (.t 15)⟩])
  (.cond (.t 16) (.seq (.ops [⟨(some 4), none, .mv (.c (.bool true))⟩])
  .ret) .skip))
  (.ops [⟨(some 17), none, .mv (.t 5)⟩, ⟨(some 18), none, .fieldA 1 (.t 2)⟩, ⟨(some 19), none, .idxA 5 1 (.t 18) (.t 17)⟩, ⟨(some 20), none, .load false 1 (.t 19)⟩, ⟨(some 5), none, .mv (.t 20)⟩])))
  (.ops [⟨(some 21), none, .bin .add (.t 12) (.c (.int .i64 1))⟩, ⟨(some 12), none, .mv (.t 21)⟩]))))
def k101 : KC := (.seq (.ops [⟨(some 2), none, .box true (.t 0)⟩, ⟨(some 4), none, .mv (.c (.bool false))⟩])
  (.seq (.ops [⟨(some 6), none, .mv (.t 1)⟩, ⟨(some 7), none, .fieldA 1 (.t 2)⟩, ⟨(some 8), none, .idxA 5 1 (.t 7) (.t 6)⟩, ⟨(some 9), none, .load false 1 (.t 8)⟩, ⟨(some 5), none, .mv (.t 9)⟩])
  (.seq (.seq (.ops [⟨(some 10), none, .fieldA 0 (.t 2)⟩, ⟨(some 11), none, .load false 1 (.t 10)⟩, ⟨(some 12), none, .mv (.c (.int .i64 0))⟩])
  (.block 0 (.loop k101_b0)))
  (.seq (.ops [⟨(some 4), none, .mv (.c (.bool false))⟩])
  .ret))))
theorem e101 {args : List PV} {σ : Heap} {K : PV → Heap → Prop} (hl : args.length ≤ 22) (h : Wf σ → (∀ a ∈ args, PV.upto σ.length a) → vc (mkCfg Try.prog mixed [2] 22 σ.length) k101 (FinK σ.length [.t 4] K) (argEnv 0 args) σ) : ACall Try.prog 101 args σ K :=
  ACall_enter (C := mkCfg Try.prog mixed [2] 22 σ.length) (c := Try.f101.body.getD .skip) Try.func101 (by kernel_rfl) (by kernel_rfl) (by kernel_rfl) rfl hl (by kernel_rfl) (by kernel_rfl) h
/- (impl.Map).end -/
/- live [1, 2, 6] -/
def k81_b0 : KC := (.seq (.seq (.ops [⟨(some 7), none, .load true 6 (.t 2)⟩, ⟨(some 8), none, .mv (.t 1)⟩, ⟨(some 9), none, .call (.c (.fn (.func 101) [] [])) [(.t 7), (.t 8)]⟩, ⟨(some 10), none, .not (.t 9)⟩])
  (.cond (.t 10) .skip (.exit 0)))
  (.block 1 (.seq (.ops [⟨(some 11), none, .mv (.t 1)⟩, ⟨(some 12), none, .fieldA 1 (.t 2)⟩, ⟨(some 13), none, .idxA 5 1 (.t 12) (.t 11)⟩, ⟨(some 14), none, .load false 1 (.t 13)⟩, ⟨(some 1), none, .mv (.t 14)⟩])
  (.ops [⟨(some 15), none, .mv (.t 6)⟩, ⟨(some 16), none, .bin .add (.t 15) (.c (.int .i64 1))⟩, ⟨(some 6), none, .mv (.t 16)⟩]))))
def k81 : KC := (.seq (.ops [⟨(some 2), none, .box true (.t 0)⟩, ⟨(some 4), none, .mv (.c (.int .i64 0))⟩, ⟨(some 5), none, .mv (.c (.int .i64 0))⟩])
  (.seq (.ops [⟨(some 6), none, .mv (.c (.int .i64 0))⟩])
  (.seq (.block 0 (.loop k81_b0))
  (.seq (.ops [⟨(some 17), none, .mv (.t 1)⟩, ⟨(some 18), none, .mv (.t 6)⟩, ⟨(some 4), none, .mv (.t 17)⟩, ⟨(some 5), none, .mv (.t 18)⟩])
  .ret))))
theorem e81 {args : List PV} {σ : Heap} {K : PV → Heap → Prop} (hl : args.length ≤ 19) (h : Wf σ → (∀ a ∈ args, PV.upto σ.length a) → vc (mkCfg Try.prog mixed [2] 19 σ.length) k81 (FinK σ.length [.t 4, .t 5] K) (argEnv 0 args) σ) : ACall Try.prog 81 args σ K :=
  ACall_enter (C := mkCfg Try.prog mixed [2] 19 σ.length) (c := Try.f81.body.getD .skip) Try.func81 (by kernel_rfl) (by kernel_rfl) (by kernel_rfl) rfl hl (by kernel_rfl) (by kernel_rfl) h
/- (impl.Map).cycleOf -/
/- live [1, 2, 5, 6] -/
def k84_b0 : KC := (.seq (.seq (.ops [⟨(some 13), none, .mv (.t 6)⟩, ⟨(some 14), none, .mv (.t 1)⟩, ⟨(some 15), none, .bin .neq (.t 13) (.t 14)⟩])
  (.cond (.t 15) .skip (.exit 0)))
  (.seq (.block 1 (.ops [⟨(some 20), none, .mv (.t 5)⟩, ⟨(some 21), none, .mv (.t 6)⟩, ⟨(some 22), none, .bsl true 2 1 [(.t 21)]⟩, ⟨(some 23), none, .app (.t 20) (.t 22) 2 1⟩, ⟨(some 5), none, .mv (.t 23)⟩]))
  (.ops [⟨(some 16), none, .mv (.t 6)⟩, ⟨(some 17), none, .fieldA 1 (.t 2)⟩, ⟨(some 18), none, .idxA 5 1 (.t 17) (.t 16)⟩, ⟨(some 19), none, .load false 1 (.t 18)⟩, ⟨(some 6), none, .mv (.t 19)⟩])))
def k84 : KC := (.seq (.ops [⟨(some 2), none, .box true (.t 0)⟩, ⟨(some 4), none, .mv (.c (.nils))⟩])
  (.seq (.ops [⟨(some 7), none, .mv (.t 1)⟩, ⟨(some 8), none, .bsl false 2 1 [(.t 7)]⟩, ⟨(some 5), none, .mv (.t 8)⟩])
  (.seq (.seq (.ops [⟨(some 9), none, .mv (.t 1)⟩, ⟨(some 10), none, .fieldA 1 (.t 2)⟩, ⟨(some 11), none, .idxA 5 1 (.t 10) (.t 9)⟩, ⟨(some 12), none, .load false 1 (.t 11)⟩, ⟨(some 6), none, .mv (.t 12)⟩])
  (.block 0 (.loop k84_b0)))
  (.seq (.ops [⟨(some 24), none, .mv (.t 5)⟩, ⟨(some 4), none, .mv (.t 24)⟩])
  .ret))))
theorem e84 {args : List PV} {σ : Heap} {K : PV → Heap → Prop} (hl : args.length ≤ 25) (h : Wf σ → (∀ a ∈ args, PV.upto σ.length a) → vc (mkCfg Try.prog mixed [2, 22] 25 σ.length) k84 (FinK σ.length [.t 4] K) (argEnv 0 args) σ) : ACall Try.prog 84 args σ K :=
  ACall_enter (C := mkCfg Try.prog mixed [2, 22] 25 σ.length) (c := Try.f84.body.getD .skip) Try.func84 (by kernel_rfl) (by kernel_rfl) (by kernel_rfl) rfl hl (by kernel_rfl) (by kernel_rfl) h
/- slices.Min[[]int64,int64] -/
/- live [0, 3, 4] -/
def k83_b0 : KC := (.seq (.seq (.ops [⟨(some 12), none, .mv (.t 4)⟩, ⟨(some 13), none, .mv (.t 0)⟩, ⟨(some 14), none, .len false (.t 13)⟩, ⟨(some 15), none, .bin .lss (.t 12) (.t 14)⟩])
  (.cond (.t 15) .skip (.exit 0)))
  (.seq (.block 1 (.ops [⟨(some 18), none, .mv (.t 3)⟩, ⟨(some 19), none, .mv (.t 0)⟩, ⟨(some 20), none, .mv (.t 4)⟩, ⟨(some 21), none, .idxS 1 (.t 19) (.t 20)⟩, ⟨(some 22), none, .load false 1 (.t 21)⟩, ⟨(some 23), none, .mnmx false (.t 18) [(.t 22)]⟩, ⟨(some 3), none, .mv (.t 23)⟩]))
  (.ops [⟨(some 16), none, .mv (.t 4)⟩, ⟨(some 17), none, .bin .add (.t 16) (.c (.int .i64 1))⟩, ⟨(some 4), none, .mv (.t 17)⟩])))
def k83 : KC := (.seq (.ops [⟨(some 2), none, .mv (.c (.int .i64 0))⟩])
  (.seq (.seq (.ops [⟨(some 5), none, .mv (.t 0)⟩, ⟨(some 6), none, .len false (.t 5)⟩, ⟨(some 7), none, .bin .lss (.t 6) (.c (.int .i64 1))⟩])
  (.cond (.t 7) (.ops [⟨(some 8), none, .bad⟩, ⟨none, none, .bad⟩]) .skip))
  (.seq (.ops [⟨(some 9), none, .mv (.t 0)⟩, ⟨(some 10), none, .idxS 1 (.t 9) (.c (.int .i64 0))⟩, ⟨(some 11), none, .load false 1 (.t 10)⟩, ⟨(some 3), none, .mv (.t 11)⟩])
  (.seq (.seq (.ops [⟨(some 4), none, .mv (.c (.int .i64 1))⟩])
  (.block 0 (.loop k83_b0)))
  (.seq (.ops [⟨(some 24), none, .mv (.t 3)⟩, ⟨(some 2), none, .mv (.t 24)⟩])
  .ret)))))
theorem e83 {args : List PV} {σ : Heap} {K : PV → Heap → Prop} (hl : args.length ≤ 25) (h : Wf σ → (∀ a ∈ args, PV.upto σ.length a) → vc (mkCfg Try.prog mixed [] 25 σ.length) k83 (FinK σ.length [.t 2] K) (argEnv 0 args) σ) : ACall Try.prog 83 args σ K :=
  ACall_enter (C := mkCfg Try.prog mixed [] 25 σ.length) (c := Try.f83.body.getD .skip) Try.func83 (by kernel_rfl) (by kernel_rfl) (by kernel_rfl) rfl hl (by kernel_rfl) (by kernel_rfl) h
/- spec.l01Power -/
/- live [1, 2, 4, 5] -/
def k80_b0 : KC := (.seq (.seq (.ops [⟨(some 9), none, .mv (.t 1)⟩, ⟨(some 10), none, .bin .gtr (.t 9) (.c (.int .i64 0))⟩])
  (.cond (.t 10) .skip (.exit 0)))
  (.seq (.block 1 (.seq (.seq (.ops [⟨(some 13), none, .mv (.t 1)⟩, ⟨(some 14), none, .bin .rem (.t 13) (.c (.int .i64 2))⟩, ⟨(some 15), none, .bin .eql (.t 14) (.c (.int .i64 1))⟩])
  (.cond (.t 15) (.ops [⟨(some 16), none, .load true 6 (.t 5)⟩, ⟨(some 17), none, .load true 6 (.t 2)⟩, ⟨(some 18), none, .call (.c (.fn (.func 66) [] [])) [(.t 16), (.t 17)]⟩, ⟨none, none, .store 6 (.t 5) (.t 18)⟩]) .skip))
  (.ops [⟨(some 19), none, .load true 6 (.t 2)⟩, ⟨(some 20), none, .load true 6 (.t 2)⟩, ⟨(some 21), none, .call (.c (.fn (.func 66) [] [])) [(.t 19), (.t 20)]⟩, ⟨none, none, .store 6 (.t 2) (.t 21)⟩])))
  (.ops [⟨(some 11), none, .mv (.t 1)⟩, ⟨(some 12), none, .bin .quo (.t 11) (.c (.int .i64 2))⟩, ⟨(some 1), none, .mv (.t 12)⟩])))
def k80 : KC := (.seq (.ops [⟨(some 2), none, .box false (.t 0)⟩, ⟨(some 4), none, .alloc [.int .i64 0, .int .i64 0, .int .i64 0, .int .i64 0, .int .i64 0, .int .i64 0]⟩])
  (.seq (.ops [⟨(some 6), none, .fieldA 0 (.t 2)⟩, ⟨(some 7), none, .load false 1 (.t 6)⟩, ⟨(some 8), none, .call (.c (.fn (.func 100) [] [])) [(.t 7)]⟩, ⟨(some 5), none, .alloc [.int .i64 0, .int .i64 0, .int .i64 0, .int .i64 0, .int .i64 0, .int .i64 0]⟩, ⟨none, none, .store 6 (.t 5) (.t 8)⟩])
  (.seq (.block 0 (.loop k80_b0))
  (.seq (.ops [⟨(some 22), none, .load true 6 (.t 5)⟩, ⟨none, none, .store 6 (.t 4) (.t 22)⟩])
  .ret))))
theorem e80 {args : List PV} {σ : Heap} {K : PV → Heap → Prop} (hl : args.length ≤ 23) (h : Wf σ → (∀ a ∈ args, PV.upto σ.length a) → vc (mkCfg Try.prog mixed [] 23 σ.length) k80 (FinK σ.length [.cell 4 true 6] K) (argEnv 0 args) σ) : ACall Try.prog 80 args σ K :=
  ACall_enter (C := mkCfg Try.prog mixed [] 23 σ.length) (c := Try.f80.body.getD .skip) Try.func80 (by kernel_rfl) (by kernel_rfl) (by kernel_rfl) rfl hl (by kernel_rfl) (by kernel_rfl) h
/- spec.l01Image -/
/- live [1, 3, 4] -/
def k79_b0 : KC := (.seq (.seq (.ops [⟨(some 5), none, .mv (.t 4)⟩, ⟨(some 6), none, .fieldA 0 (.t 1)⟩, ⟨(some 7), none, .load false 1 (.t 6)⟩, ⟨(some 8), none, .bin .lss (.t 5) (.t 7)⟩])
  (.cond (.t 8) .skip (.exit 0)))
  (.seq (.block 1 (.ops [⟨(some 11), none, .mv (.t 3)⟩, ⟨(some 12), none, .mv (.t 4)⟩, ⟨(some 13), none, .fieldA 1 (.t 1)⟩, ⟨(some 14), none, .idxA 5 1 (.t 13) (.t 12)⟩, ⟨(some 15), none, .load false 1 (.t 14)⟩, ⟨(some 16), none, .conv .u64 (.t 15)⟩, ⟨(some 17), none, .bin .shl (.c (.int .i64 1)) (.t 16)⟩, ⟨(some 18), none, .bin .or (.t 11) (.t 17)⟩, ⟨(some 3), none, .mv (.t 18)⟩]))
  (.ops [⟨(some 9), none, .mv (.t 4)⟩, ⟨(some 10), none, .bin .add (.t 9) (.c (.int .i64 1))⟩, ⟨(some 4), none, .mv (.t 10)⟩])))
def k79 : KC := (.seq (.ops [⟨(some 1), none, .box true (.t 0)⟩, ⟨(some 2), none, .mv (.c (.int .i64 0))⟩])
  (.seq (.ops [⟨(some 3), none, .mv (.c (.int .i64 0))⟩])
  (.seq (.seq (.ops [⟨(some 4), none, .mv (.c (.int .i64 0))⟩])
  (.block 0 (.loop k79_b0)))
  (.seq (.ops [⟨(some 19), none, .mv (.t 3)⟩, ⟨(some 2), none, .mv (.t 19)⟩])
  .ret))))
theorem e79 {args : List PV} {σ : Heap} {K : PV → Heap → Prop} (hl : args.length ≤ 20) (h : Wf σ → (∀ a ∈ args, PV.upto σ.length a) → vc (mkCfg Try.prog mixed [1] 20 σ.length) k79 (FinK σ.length [.t 2] K) (argEnv 0 args) σ) : ACall Try.prog 79 args σ K :=
  ACall_enter (C := mkCfg Try.prog mixed [1] 20 σ.length) (c := Try.f79.body.getD .skip) Try.func79 (by kernel_rfl) (by kernel_rfl) (by kernel_rfl) rfl hl (by kernel_rfl) (by kernel_rfl) h
end Go.Proofs.Ytkdkdkkimieieaa
