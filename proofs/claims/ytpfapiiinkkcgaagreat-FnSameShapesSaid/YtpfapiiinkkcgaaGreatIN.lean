/- Inverses of permutations, renumbered maps, comparing of maps: both sides. -/
import Derived.Test.YtpfapiiinkkcgaaGreatCb
import Derived.Test.YtpfapiiinkkcgaaGreatCSS
import Derived.Test.YtpfapiiinkkcgaaGreatG5
namespace Go.Proofs.YtpfapiiinkkcgaaGreat
open Go.Kv
set_option maxRecDepth 100000
/- (impl.Map).inverse -/
/- live [1, 2, 3, 7, 8] -/
def k174_b0 : KC := (.seq (.ops [⟨(some 9), none, .bin .lss (.t 8) (.t 7)⟩])
  (.seq (.cond (.t 9) .skip (.exit 0))
  (.seq (.block 1 (.seq (.ops [⟨(some 10), none, .mv (.t 8)⟩, ⟨(some 4), none, .mv (.t 10)⟩])
  (.ops [⟨(some 11), none, .mv (.t 4)⟩, ⟨(some 12), none, .fieldA 1 (.t 1)⟩, ⟨(some 13), none, .idxA 5 1 (.t 12) (.t 11)⟩, ⟨(some 14), none, .load false 1 (.t 13)⟩, ⟨(some 15), none, .mv (.t 4)⟩, ⟨(some 16), none, .fieldA 1 (.t 3)⟩, ⟨(some 17), none, .idxA 5 1 (.t 16) (.t 14)⟩, ⟨none, none, .store 1 (.t 17) (.t 15)⟩])))
  (.ops [⟨(some 18), none, .bin .add (.t 8) (.c (.int .i64 1))⟩, ⟨(some 8), none, .mv (.t 18)⟩]))))
def k174 : KC := (.seq (.ops [⟨(some 1), none, .box true (.t 0)⟩, ⟨(some 2), none, .alloc [.int .i64 0, .int .i64 0, .int .i64 0, .int .i64 0, .int .i64 0, .int .i64 0]⟩])
  (.seq (.ops [⟨(some 5), none, .load true 6 (.t 1)⟩, ⟨(some 3), none, .alloc [.int .i64 0, .int .i64 0, .int .i64 0, .int .i64 0, .int .i64 0, .int .i64 0]⟩, ⟨none, none, .store 6 (.t 3) (.t 5)⟩])
  (.seq (.seq (.ops [⟨(some 6), none, .fieldA 0 (.t 1)⟩, ⟨(some 7), none, .load false 1 (.t 6)⟩, ⟨(some 8), none, .mv (.c (.int .i64 0))⟩])
  (.block 0 (.loop k174_b0)))
  (.seq (.ops [⟨(some 19), none, .load true 6 (.t 3)⟩, ⟨none, none, .store 6 (.t 2) (.t 19)⟩])
  .ret))))
theorem e174 {args : List PV} {σ : Heap} {K : PV → Heap → Prop} (hl : args.length ≤ 20) (h : Wf σ → (∀ a ∈ args, PV.upto σ.length a) → vc (mkCfg Tryz.prog mixed [1] 20 σ.length) k174 (FinK σ.length [.cell 2 true 6] K) (argEnv 0 args) σ) : ACall Tryz.prog 174 args σ K :=
  ACall_enter (C := mkCfg Tryz.prog mixed [1] 20 σ.length) (c := Tryz.f174.body.getD .skip) Tryz.func174 (by kernel_rfl) (by kernel_rfl) (by kernel_rfl) rfl hl (by kernel_rfl) (by kernel_rfl) h
/- spec.l01Inverse -/
/- live [1, 2, 3, 4] -/
def k142_b0 : KC := (.seq (.seq (.ops [⟨(some 8), none, .mv (.t 4)⟩, ⟨(some 9), none, .fieldA 0 (.t 1)⟩, ⟨(some 10), none, .load false 1 (.t 9)⟩, ⟨(some 11), none, .bin .lss (.t 8) (.t 10)⟩])
  (.cond (.t 11) .skip (.exit 0)))
  (.seq (.block 1 (.ops [⟨(some 14), none, .mv (.t 4)⟩, ⟨(some 15), none, .fieldA 1 (.t 1)⟩, ⟨(some 16), none, .idxA 5 1 (.t 15) (.t 14)⟩, ⟨(some 17), none, .load false 1 (.t 16)⟩, ⟨(some 18), none, .mv (.t 4)⟩, ⟨(some 19), none, .fieldA 1 (.t 3)⟩, ⟨(some 20), none, .idxA 5 1 (.t 19) (.t 17)⟩, ⟨none, none, .store 1 (.t 20) (.t 18)⟩]))
  (.ops [⟨(some 12), none, .mv (.t 4)⟩, ⟨(some 13), none, .bin .add (.t 12) (.c (.int .i64 1))⟩, ⟨(some 4), none, .mv (.t 13)⟩])))
def k142 : KC := (.seq (.ops [⟨(some 1), none, .box true (.t 0)⟩, ⟨(some 2), none, .alloc [.int .i64 0, .int .i64 0, .int .i64 0, .int .i64 0, .int .i64 0, .int .i64 0]⟩])
  (.seq (.ops [⟨(some 5), none, .fieldA 0 (.t 1)⟩, ⟨(some 6), none, .load false 1 (.t 5)⟩, ⟨(some 7), none, .build [.int .i64 0, .int .i64 0, .int .i64 0, .int .i64 0, .int .i64 0, .int .i64 0] [(0, 1, (.t 6))]⟩, ⟨(some 3), none, .alloc [.int .i64 0, .int .i64 0, .int .i64 0, .int .i64 0, .int .i64 0, .int .i64 0]⟩, ⟨none, none, .store 6 (.t 3) (.t 7)⟩])
  (.seq (.seq (.ops [⟨(some 4), none, .mv (.c (.int .i64 0))⟩])
  (.block 0 (.loop k142_b0)))
  (.seq (.ops [⟨(some 21), none, .load true 6 (.t 3)⟩, ⟨none, none, .store 6 (.t 2) (.t 21)⟩])
  .ret))))
theorem e142 {args : List PV} {σ : Heap} {K : PV → Heap → Prop} (hl : args.length ≤ 22) (h : Wf σ → (∀ a ∈ args, PV.upto σ.length a) → vc (mkCfg Tryz.prog mixed [1] 22 σ.length) k142 (FinK σ.length [.cell 2 true 6] K) (argEnv 0 args) σ) : ACall Tryz.prog 142 args σ K :=
  ACall_enter (C := mkCfg Tryz.prog mixed [1] 22 σ.length) (c := Tryz.f142.body.getD .skip) Tryz.func142 (by kernel_rfl) (by kernel_rfl) (by kernel_rfl) rfl hl (by kernel_rfl) (by kernel_rfl) h
/- (impl.Map).renumbered -/
def k139 : KC := (.seq (.ops [⟨(some 2), none, .box true (.t 0)⟩, ⟨(some 3), none, .box true (.t 1)⟩, ⟨(some 4), none, .alloc [.int .i64 0, .int .i64 0, .int .i64 0, .int .i64 0, .int .i64 0, .int .i64 0]⟩])
  (.seq (.draw [⟨(some 5), none, .load true 6 (.t 3)⟩, ⟨(some 7), none, .load true 6 (.t 2)⟩, ⟨(some 9), none, .load true 6 (.t 3)⟩, ⟨(some 6), none, .pcall (.c (.fn (.func 174) [] [])) [(.t 5)]⟩, ⟨(some 8), none, .pcall (.c (.fn (.func 118) [] [])) [(.t 6), (.t 7)]⟩, ⟨(some 10), none, .pcall (.c (.fn (.func 118) [] [])) [(.t 8), (.t 9)]⟩, ⟨none, none, .store 6 (.t 4) (.t 10)⟩])
  .ret))
theorem e139 {args : List PV} {σ : Heap} {K : PV → Heap → Prop} (hl : args.length ≤ 11) (h : Wf σ → (∀ a ∈ args, PV.upto σ.length a) → vc (mkCfg Tryz.prog mixed [2, 3] 11 σ.length) k139 (FinK σ.length [.cell 4 true 6] K) (argEnv 0 args) σ) : ACall Tryz.prog 139 args σ K :=
  ACall_enter (C := mkCfg Tryz.prog mixed [2, 3] 11 σ.length) (c := Tryz.f139.body.getD .skip) Tryz.func139 (by kernel_rfl) (by kernel_rfl) (by kernel_rfl) rfl hl (by kernel_rfl) (by kernel_rfl) h
/- spec.l01Renamed -/
def k83 : KC := (.seq (.ops [⟨(some 2), none, .box true (.t 0)⟩, ⟨(some 3), none, .box true (.t 1)⟩, ⟨(some 4), none, .alloc [.int .i64 0, .int .i64 0, .int .i64 0, .int .i64 0, .int .i64 0, .int .i64 0]⟩])
  (.seq (.draw [⟨(some 5), none, .load true 6 (.t 3)⟩, ⟨(some 7), none, .load true 6 (.t 2)⟩, ⟨(some 9), none, .load true 6 (.t 3)⟩, ⟨(some 6), none, .pcall (.c (.fn (.func 142) [] [])) [(.t 5)]⟩, ⟨(some 8), none, .pcall (.c (.fn (.func 131) [] [])) [(.t 6), (.t 7)]⟩, ⟨(some 10), none, .pcall (.c (.fn (.func 131) [] [])) [(.t 8), (.t 9)]⟩, ⟨none, none, .store 6 (.t 4) (.t 10)⟩])
  .ret))
theorem e83 {args : List PV} {σ : Heap} {K : PV → Heap → Prop} (hl : args.length ≤ 11) (h : Wf σ → (∀ a ∈ args, PV.upto σ.length a) → vc (mkCfg Tryz.prog mixed [2, 3] 11 σ.length) k83 (FinK σ.length [.cell 4 true 6] K) (argEnv 0 args) σ) : ACall Tryz.prog 83 args σ K :=
  ACall_enter (C := mkCfg Tryz.prog mixed [2, 3] 11 σ.length) (c := Tryz.f83.body.getD .skip) Tryz.func83 (by kernel_rfl) (by kernel_rfl) (by kernel_rfl) rfl hl (by kernel_rfl) (by kernel_rfl) h
/- cmp.Compare[int64] -/
def k97 : KC := (.seq (.ops [⟨(some 4), none, .mv (.c (.int .i64 0))⟩])
  (.seq (.ops [⟨(some 7), none, .mv (.t 0)⟩, ⟨(some 8), none, .call (.c (.fn (.func 147) [] [])) [(.t 7)]⟩, ⟨(some 5), none, .mv (.t 8)⟩])
  (.seq (.ops [⟨(some 9), none, .mv (.t 1)⟩, ⟨(some 10), none, .call (.c (.fn (.func 147) [] [])) [(.t 9)]⟩, ⟨(some 6), none, .mv (.t 10)⟩])
  (.seq (.seq (.ops [⟨(some 11), none, .mv (.t 5)⟩])
  (.cond (.t 11) (.seq (.seq (.ops [⟨(some 12), none, .mv (.t 6)⟩])
  (.cond (.t 12) (.seq (.ops [⟨(some 4), none, .mv (.c (.int .i64 0))⟩])
  .ret) .skip))
  (.seq (.ops [⟨(some 4), none, .mv (.c (.int .i64 (-1)))⟩])
  .ret)) .skip))
  (.seq (.seq (.ops [⟨(some 13), none, .mv (.t 6)⟩])
  (.cond (.t 13) (.seq (.ops [⟨(some 4), none, .mv (.c (.int .i64 1))⟩])
  .ret) .skip))
  (.seq (.seq (.ops [⟨(some 14), none, .mv (.t 0)⟩, ⟨(some 15), none, .mv (.t 1)⟩, ⟨(some 16), none, .bin .lss (.t 14) (.t 15)⟩])
  (.cond (.t 16) (.seq (.ops [⟨(some 4), none, .mv (.c (.int .i64 (-1)))⟩])
  .ret) .skip))
  (.seq (.seq (.ops [⟨(some 17), none, .mv (.t 0)⟩, ⟨(some 18), none, .mv (.t 1)⟩, ⟨(some 19), none, .bin .gtr (.t 17) (.t 18)⟩])
  (.cond (.t 19) (.seq (.ops [⟨(some 4), none, .mv (.c (.int .i64 1))⟩])
  .ret) .skip))
  (.seq (.ops [⟨(some 4), none, .mv (.c (.int .i64 0))⟩])
  .ret))))))))
theorem e97 {args : List PV} {σ : Heap} {K : PV → Heap → Prop} (hl : args.length ≤ 20) (h : Wf σ → (∀ a ∈ args, PV.upto σ.length a) → vc (mkCfg Tryz.prog mixed [] 20 σ.length) k97 (FinK σ.length [.t 4] K) (argEnv 0 args) σ) : ACall Tryz.prog 97 args σ K :=
  ACall_enter (C := mkCfg Tryz.prog mixed [] 20 σ.length) (c := Tryz.f97.body.getD .skip) Tryz.func97 (by kernel_rfl) (by kernel_rfl) (by kernel_rfl) rfl hl (by kernel_rfl) (by kernel_rfl) h
/- slices.Compare[[]int64,int64] -/
/- live [0, 1, 9, 10, 11] -/
def k176_b0 : KC := (.seq (.ops [⟨(some 12), none, .bin .lss (.t 11) (.t 10)⟩])
  (.seq (.cond (.t 12) .skip (.exit 0))
  (.seq (.block 1 (.seq (.ops [⟨(some 13), none, .mv (.t 11)⟩, ⟨(some 14), none, .idxS 1 (.t 9) (.t 11)⟩, ⟨(some 15), none, .load false 1 (.t 14)⟩, ⟨(some 5), none, .mv (.t 13)⟩, ⟨(some 6), none, .mv (.t 15)⟩])
  (.seq (.seq (.ops [⟨(some 16), none, .mv (.t 5)⟩, ⟨(some 17), none, .mv (.t 1)⟩, ⟨(some 18), none, .len false (.t 17)⟩, ⟨(some 19), none, .bin .geq (.t 16) (.t 18)⟩])
  (.cond (.t 19) (.seq (.ops [⟨(some 4), none, .mv (.c (.int .i64 1))⟩])
  .ret) .skip))
  (.seq (.ops [⟨(some 20), none, .mv (.t 1)⟩, ⟨(some 21), none, .mv (.t 5)⟩, ⟨(some 22), none, .idxS 1 (.t 20) (.t 21)⟩, ⟨(some 23), none, .load false 1 (.t 22)⟩, ⟨(some 7), none, .mv (.t 23)⟩])
  (.seq (.ops [⟨(some 24), none, .mv (.t 6)⟩, ⟨(some 25), none, .mv (.t 7)⟩, ⟨(some 26), none, .call (.c (.fn (.func 97) [] [])) [(.t 24), (.t 25)]⟩, ⟨(some 8), none, .mv (.t 26)⟩])
  (.seq (.ops [⟨(some 27), none, .mv (.t 8)⟩, ⟨(some 28), none, .bin .neq (.t 27) (.c (.int .i64 0))⟩])
  (.cond (.t 28) (.seq (.ops [⟨(some 29), none, .mv (.t 8)⟩, ⟨(some 4), none, .mv (.t 29)⟩])
  .ret) .skip)))))))
  (.ops [⟨(some 30), none, .bin .add (.t 11) (.c (.int .i64 1))⟩, ⟨(some 11), none, .mv (.t 30)⟩]))))
def k176 : KC := (.seq (.ops [⟨(some 4), none, .mv (.c (.int .i64 0))⟩])
  (.seq (.seq (.ops [⟨(some 9), none, .mv (.t 0)⟩, ⟨(some 10), none, .len false (.t 9)⟩, ⟨(some 11), none, .mv (.c (.int .i64 0))⟩])
  (.block 0 (.loop k176_b0)))
  (.seq (.seq (.ops [⟨(some 31), none, .mv (.t 0)⟩, ⟨(some 32), none, .len false (.t 31)⟩, ⟨(some 33), none, .mv (.t 1)⟩, ⟨(some 34), none, .len false (.t 33)⟩, ⟨(some 35), none, .bin .lss (.t 32) (.t 34)⟩])
  (.cond (.t 35) (.seq (.ops [⟨(some 4), none, .mv (.c (.int .i64 (-1)))⟩])
  .ret) .skip))
  (.seq (.ops [⟨(some 4), none, .mv (.c (.int .i64 0))⟩])
  .ret))))
theorem e176 {args : List PV} {σ : Heap} {K : PV → Heap → Prop} (hl : args.length ≤ 36) (h : Wf σ → (∀ a ∈ args, PV.upto σ.length a) → vc (mkCfg Tryz.prog mixed [] 36 σ.length) k176 (FinK σ.length [.t 4] K) (argEnv 0 args) σ) : ACall Tryz.prog 176 args σ K :=
  ACall_enter (C := mkCfg Tryz.prog mixed [] 36 σ.length) (c := Tryz.f176.body.getD .skip) Tryz.func176 (by kernel_rfl) (by kernel_rfl) (by kernel_rfl) rfl hl (by kernel_rfl) (by kernel_rfl) h
/- cmp.Or[int] -/
/- live [3, 6, 7, 8] -/
def k175_b0 : KC := (.seq (.ops [⟨(some 9), none, .bin .lss (.t 8) (.t 7)⟩])
  (.seq (.cond (.t 9) .skip (.exit 0))
  (.seq (.block 1 (.seq (.ops [⟨(some 10), none, .idxS 1 (.t 6) (.t 8)⟩, ⟨(some 11), none, .load false 1 (.t 10)⟩, ⟨(some 5), none, .mv (.t 11)⟩])
  (.seq (.ops [⟨(some 12), none, .mv (.t 5)⟩, ⟨(some 13), none, .mv (.t 3)⟩, ⟨(some 14), none, .bin .neq (.t 12) (.t 13)⟩])
  (.cond (.t 14) (.seq (.ops [⟨(some 15), none, .mv (.t 5)⟩, ⟨(some 2), none, .mv (.t 15)⟩])
  .ret) .skip))))
  (.ops [⟨(some 16), none, .bin .add (.t 8) (.c (.int .i64 1))⟩, ⟨(some 8), none, .mv (.t 16)⟩]))))
def k175 : KC := (.seq (.ops [⟨(some 2), none, .mv (.c (.int .i64 0))⟩])
  (.seq (.ops [⟨(some 3), none, .mv (.c (.int .i64 0))⟩])
  (.seq (.seq (.ops [⟨(some 6), none, .mv (.t 0)⟩, ⟨(some 7), none, .len false (.t 6)⟩, ⟨(some 8), none, .mv (.c (.int .i64 0))⟩])
  (.block 0 (.loop k175_b0)))
  (.seq (.ops [⟨(some 17), none, .mv (.t 3)⟩, ⟨(some 2), none, .mv (.t 17)⟩])
  .ret))))
theorem e175 {args : List PV} {σ : Heap} {K : PV → Heap → Prop} (hl : args.length ≤ 18) (h : Wf σ → (∀ a ∈ args, PV.upto σ.length a) → vc (mkCfg Tryz.prog mixed [] 18 σ.length) k175 (FinK σ.length [.t 2] K) (argEnv 0 args) σ) : ACall Tryz.prog 175 args σ K :=
  ACall_enter (C := mkCfg Tryz.prog mixed [] 18 σ.length) (c := Tryz.f175.body.getD .skip) Tryz.func175 (by kernel_rfl) (by kernel_rfl) (by kernel_rfl) rfl hl (by kernel_rfl) (by kernel_rfl) h
/- (impl.Map).compare -/
def k140 : KC := (.seq (.ops [⟨(some 2), none, .box true (.t 0)⟩, ⟨(some 3), none, .box true (.t 1)⟩, ⟨(some 4), none, .mv (.c (.int .i64 0))⟩])
  (.seq (.draw [⟨(some 5), none, .fieldA 0 (.t 2)⟩, ⟨(some 6), none, .load false 1 (.t 5)⟩, ⟨(some 7), none, .fieldA 0 (.t 3)⟩, ⟨(some 8), none, .load false 1 (.t 7)⟩, ⟨(some 10), none, .fieldA 1 (.t 2)⟩, ⟨(some 11), none, .slA 5 (.t 10) none⟩, ⟨(some 12), none, .fieldA 1 (.t 3)⟩, ⟨(some 13), none, .slA 5 (.t 12) none⟩, ⟨(some 9), none, .pcall (.c (.fn (.func 97) [] [])) [(.t 6), (.t 8)]⟩, ⟨(some 14), none, .pcall (.c (.fn (.func 176) [] [])) [(.t 11), (.t 13)]⟩, ⟨(some 15), none, .bsl false 3 1 [(.t 9), (.t 14)]⟩, ⟨(some 16), none, .call (.c (.fn (.func 175) [] [])) [(.t 15)]⟩, ⟨(some 4), none, .mv (.t 16)⟩])
  .ret))
theorem e140 {args : List PV} {σ : Heap} {K : PV → Heap → Prop} (hl : args.length ≤ 17) (h : Wf σ → (∀ a ∈ args, PV.upto σ.length a) → vc (mkCfg Tryz.prog mixed [2, 3] 17 σ.length) k140 (FinK σ.length [.t 4] K) (argEnv 0 args) σ) : ACall Tryz.prog 140 args σ K :=
  ACall_enter (C := mkCfg Tryz.prog mixed [2, 3] 17 σ.length) (c := Tryz.f140.body.getD .skip) Tryz.func140 (by kernel_rfl) (by kernel_rfl) (by kernel_rfl) rfl hl (by kernel_rfl) (by kernel_rfl) h
/- spec.l01Less -/
/- live [2, 3, 5] -/
def k170_b0 : KC := (.seq (.seq (.ops [⟨(some 16), none, .mv (.t 5)⟩, ⟨(some 17), none, .fieldA 0 (.t 2)⟩, ⟨(some 18), none, .load false 1 (.t 17)⟩, ⟨(some 19), none, .bin .lss (.t 16) (.t 18)⟩])
  (.cond (.t 19) .skip (.exit 0)))
  (.seq (.block 1 (.seq (.draw [⟨(some 22), none, .mv (.t 5)⟩, ⟨(some 23), none, .fieldA 1 (.t 2)⟩, ⟨(some 24), none, .idxA 5 1 (.t 23) (.t 22)⟩, ⟨(some 25), none, .load false 1 (.t 24)⟩, ⟨(some 26), none, .mv (.t 5)⟩, ⟨(some 27), none, .fieldA 1 (.t 3)⟩, ⟨(some 28), none, .idxA 5 1 (.t 27) (.t 26)⟩, ⟨(some 29), none, .load false 1 (.t 28)⟩, ⟨(some 30), none, .bin .neq (.t 25) (.t 29)⟩])
  (.cond (.t 30) (.seq (.draw [⟨(some 31), none, .mv (.t 5)⟩, ⟨(some 32), none, .fieldA 1 (.t 2)⟩, ⟨(some 33), none, .idxA 5 1 (.t 32) (.t 31)⟩, ⟨(some 34), none, .load false 1 (.t 33)⟩, ⟨(some 35), none, .mv (.t 5)⟩, ⟨(some 36), none, .fieldA 1 (.t 3)⟩, ⟨(some 37), none, .idxA 5 1 (.t 36) (.t 35)⟩, ⟨(some 38), none, .load false 1 (.t 37)⟩, ⟨(some 39), none, .bin .lss (.t 34) (.t 38)⟩, ⟨(some 4), none, .mv (.t 39)⟩])
  .ret) .skip)))
  (.ops [⟨(some 20), none, .mv (.t 5)⟩, ⟨(some 21), none, .bin .add (.t 20) (.c (.int .i64 1))⟩, ⟨(some 5), none, .mv (.t 21)⟩])))
def k170 : KC := (.seq (.ops [⟨(some 2), none, .box true (.t 0)⟩, ⟨(some 3), none, .box true (.t 1)⟩, ⟨(some 4), none, .mv (.c (.bool false))⟩])
  (.seq (.seq (.ops [⟨(some 6), none, .fieldA 0 (.t 2)⟩, ⟨(some 7), none, .load false 1 (.t 6)⟩, ⟨(some 8), none, .fieldA 0 (.t 3)⟩, ⟨(some 9), none, .load false 1 (.t 8)⟩, ⟨(some 10), none, .bin .neq (.t 7) (.t 9)⟩])
  (.cond (.t 10) (.seq (.ops [⟨(some 11), none, .fieldA 0 (.t 2)⟩, ⟨(some 12), none, .load false 1 (.t 11)⟩, ⟨(some 13), none, .fieldA 0 (.t 3)⟩, ⟨(some 14), none, .load false 1 (.t 13)⟩, ⟨(some 15), none, .bin .lss (.t 12) (.t 14)⟩, ⟨(some 4), none, .mv (.t 15)⟩])
  .ret) .skip))
  (.seq (.seq (.ops [⟨(some 5), none, .mv (.c (.int .i64 0))⟩])
  (.block 0 (.loop k170_b0)))
  (.seq (.ops [⟨(some 4), none, .mv (.c (.bool false))⟩])
  .ret))))
theorem e170 {args : List PV} {σ : Heap} {K : PV → Heap → Prop} (hl : args.length ≤ 40) (h : Wf σ → (∀ a ∈ args, PV.upto σ.length a) → vc (mkCfg Tryz.prog mixed [2, 3] 40 σ.length) k170 (FinK σ.length [.t 4] K) (argEnv 0 args) σ) : ACall Tryz.prog 170 args σ K :=
  ACall_enter (C := mkCfg Tryz.prog mixed [2, 3] 40 σ.length) (c := Tryz.f170.body.getD .skip) Tryz.func170 (by kernel_rfl) (by kernel_rfl) (by kernel_rfl) rfl hl (by kernel_rfl) (by kernel_rfl) h
end Go.Proofs.YtpfapiiinkkcgaaGreat
namespace Go.Proofs.YtpfapiiinkkcgaaGreat
open Go.Kv
set_option linter.unusedVariables false
set_option linter.unusedSimpArgs false
attribute [local irreducible] ACall PCall KL
theorem nodup_le : ∀ (n : Nat) (l : List Nat), l.Nodup → (∀ x ∈ l, x < n) → l.length ≤ n
  | 0, l, _, h => by
    cases l with
    | nil => simp
    | cons a l => have := h a (by simp); omega
  | n + 1, l, hl, h => by
    by_cases hm : n ∈ l
    · have h1 := nodup_le n (l.erase n) (hl.erase n) fun x hx => by
        have := (hl.mem_erase_iff).1 hx
        have := h x this.2
        omega
      rw [List.length_erase_of_mem hm] at h1
      omega
    · have := nodup_le n l hl fun x hx => by
        have h2 := h x hx
        by_cases e : x = n
        · subst e; exact absurd hx hm
        · omega
      omega
theorem perm_mem {p : List Nat} {n : Nat} (hp : Ok p n) (hn : p.Nodup) {y : Nat} (hy : y < n) : y ∈ p := by
  by_cases h : y ∈ p
  · exact h
  · have := nodup_le n (y :: p) (List.nodup_cons.2 ⟨h, hn⟩) fun x hx => by
      rcases List.mem_cons.1 hx with rfl | hx
      · exact hy
      · exact hp.lt x hx
    simp [hp.len] at this
    omega
/-- The inverse. -/
def inv (p : List Nat) : List Nat := (List.range p.length).map fun y => p.idxOf y
/-- The inverse, as far as it is told by the first i points; the rest stands as it did. -/
def invS (p : List Nat) (b : Nat → Nat) (i : Nat) : List Nat := (List.range p.length).map fun y => if y ∈ p.take i then p.idxOf y else b y
@[simp] theorem invS_length (p : List Nat) (b : Nat → Nat) (i : Nat) : (invS p b i).length = p.length := by simp [invS]
theorem invS_zero (p : List Nat) (b : Nat → Nat) : invS p b 0 = (List.range p.length).map b := by simp [invS]
theorem invS_succ {p : List Nat} {n : Nat} (hp : Ok p n) (hn : p.Nodup) (b : Nat → Nat) {i : Nat} (hi : i < n) : (invS p b i).set (p.getD i 0) i = invS p b (i + 1) := by
  have hil : i < p.length := by rw [hp.len]; exact hi
  have hg : p.getD i 0 = p[i] := by simp [List.getD_eq_getElem?_getD, hil]
  have hpi : p[i] < p.length := by rw [hp.len]; exact hp.lt _ (List.getElem_mem hil)
  rw [hg]
  apply List.ext_getElem (by simp)
  intro y h1 h2
  simp only [invS_length] at h2
  rw [List.getElem_set]
  simp only [invS, List.getElem_map, List.getElem_range]
  rw [List.take_succ_eq_append_getElem hil]
  by_cases e : p[i] = y
  · subst e
    rw [if_pos rfl, if_pos (List.mem_append.2 (.inr (List.mem_singleton.2 rfl)))]
    exact (hn.idxOf_getElem i hil).symm
  · rw [if_neg e]
    by_cases hm : y ∈ p.take i
    · rw [if_pos hm, if_pos (List.mem_append.2 (.inl hm))]
    · rw [if_neg hm, if_neg (by simp only [List.mem_append, List.mem_singleton, not_or]; exact ⟨hm, fun h => e h.symm⟩)]
theorem invS_all {p : List Nat} {n : Nat} (hp : Ok p n) (hn : p.Nodup) (b : Nat → Nat) : invS p b n = inv p := by
  unfold invS inv
  refine List.map_congr_left fun y hy => ?_
  rw [List.mem_range, hp.len] at hy
  rw [if_pos]
  rw [List.take_of_length_le (by rw [hp.len]; exact Nat.le_refl _)]
  exact perm_mem hp hn hy
theorem inv_ok {p : List Nat} {n : Nat} (hp : Ok p n) (hn : p.Nodup) : Ok (inv p) n := ⟨by simp [inv, hp.len], hp.pos, hp.le, fun x hx => by
  simp only [inv, List.mem_map, List.mem_range, hp.len] at hx
  obtain ⟨y, hy, rfl⟩ := hx
  have := List.idxOf_lt_length_iff.2 (perm_mem hp hn hy)
  rwa [hp.len] at this⟩
theorem p174 (p : List Nat) (n : Nat) (hp : Ok p n) (hn : p.Nodup) : Pure Tryz.prog 174 [.agg (ints (mp p))] (.agg (ints (mp (inv p)))) := by
  have hl6 := hp.mp_len
  have h5 := hp.le
  have e0 : invS p (fun y => p.getD y 0) 0 = p := by
    rw [invS_zero]
    apply List.ext_getElem (by simp)
    intro i h1 h2
    simp [List.getD_eq_getElem?_getD, h2]
  refine e174 (by simp) fun _ _ => ?_
  simp only [k174, argEnv, hl6, hp.len, take6, List.drop_zero, Int.cast_ofNat_Int, go_sem, ↓reduceIte, Nat.reduceEqDiff, Nat.reduceAdd, Nat.reduceMul, Nat.reduceLeDiff, Nat.reduceLT, Int.reduceLE, Int.reduceLT, reduceCtorEq]
  refine KL_ind k174_b0.eq_1 (fun x : Nat => [(1, .fptr (ints (mp p)) 0), (2, .ptr 0 0), (3, .ptr 1 0), (7, .int .i64 n), (8, .int .i64 x)]) (fun x => [.box [.int .i64 0, .int .i64 0, .int .i64 0, .int .i64 0, .int .i64 0, .int .i64 0], .box (ints (mpN n (invS p (fun y => p.getD y 0) x)))]) (fun x => x ≤ n) (fun x => n - x) [1, 2, 3, 7, 8] 0 (by simp [keep]) (by rw [e0, mp, hp.len]) (Nat.zero_le _) fun x hx ih => ?_
  have h6 : (mpN (n : Int) (invS p (fun y => p.getD y 0) x)).length = 6 := mpN_length (by simp [hp.len]; exact h5)
  have hg := hp.get' x
  have hn0 : ∀ k : Nat, (k : Int).toNat = k := fun k => by omega
  try simp only [hl6, h6, hn0, take6, List.drop_zero, Int.cast_ofNat_Int, go_sem, ↓reduceIte, Nat.reduceEqDiff, Nat.reduceAdd, Nat.reduceMul, Nat.reduceLeDiff, Nat.reduceLT, Int.reduceLE, Int.reduceLT, reduceCtorEq]
  refine ⟨fun h1 => ?_, fun h1 => ?_⟩
  · have hxn : x < n := by omega
    have hs := invS_succ hp hn (fun y => p.getD y 0) hxn
    have hms : (mpN (n : Int) (invS p (fun y => p.getD y 0) x)).set (p.getD x 0 + 1) (x : Int) = mpN n (invS p (fun y => p.getD y 0) (x + 1)) := by
      rw [mpN_set (by simp [hp.len]; exact hg), hs]
    refine ⟨by omega, by omega, fun _ => ⟨by omega, by omega, by omega, ih (x + 1) (by omega) (by omega) _ _ (by simp [keep]) (by rw [hms])⟩⟩
  · obtain rfl : x = n := by omega
    have h6' := h6
    rw [invS_all hp hn] at h6'
    rw [invS_all hp hn]
    have e : mpN (x : Int) (inv p) = mp (inv p) := by rw [mp, (inv_ok hp hn).len]
    rw [e] at h6' ⊢
    try simp only [h6', take6, List.drop_zero, Int.cast_ofNat_Int, go_sem, ↓reduceIte, Nat.reduceEqDiff, Nat.reduceAdd, Nat.reduceMul, Nat.reduceLeDiff, Nat.reduceLT, Int.reduceLE, Int.reduceLT, reduceCtorEq]
    exact Kv.Fin.still ⟨rfl, rfl⟩
theorem p142 (p : List Nat) (n : Nat) (hp : Ok p n) (hn : p.Nodup) : Pure Tryz.prog 142 [.agg (ints (mp p))] (.agg (ints (mp (inv p)))) := by
  have hl6 := hp.mp_len
  have h5 := hp.le
  have e0 : mpN (n : Int) (invS p (fun y => 0) 0) = [(n : Int), 0, 0, 0, 0, 0] := by
    rw [invS_zero, hp.len, List.map_const', List.length_range, mpN_rep h5]
  refine e142 (by simp) fun _ _ => ?_
  simp only [k142, argEnv, hl6, hp.len, take6, List.drop_zero, Int.cast_ofNat_Int, go_sem, ↓reduceIte, Nat.reduceEqDiff, Nat.reduceAdd, Nat.reduceMul, Nat.reduceLeDiff, Nat.reduceLT, Int.reduceLE, Int.reduceLT, reduceCtorEq]
  refine KL_ind k142_b0.eq_1 (fun x : Nat => [(1, .fptr (ints (mp p)) 0), (2, .ptr 0 0), (3, .ptr 1 0), (4, .int .i64 x)]) (fun x => [.box [.int .i64 0, .int .i64 0, .int .i64 0, .int .i64 0, .int .i64 0, .int .i64 0], .box (ints (mpN n (invS p (fun y => 0) x)))]) (fun x => x ≤ n) (fun x => n - x) [1, 2, 3, 4] 0 (by simp [keep]) (by rw [e0]; rfl) (Nat.zero_le _) fun x hx ih => ?_
  have h6 : (mpN (n : Int) (invS p (fun y => 0) x)).length = 6 := mpN_length (by simp [hp.len]; exact h5)
  have hg := hp.get' x
  have hn0 : ∀ k : Nat, (k : Int).toNat = k := fun k => by omega
  try simp only [hl6, h6, hn0, hp.len, take6, List.drop_zero, Int.cast_ofNat_Int, go_sem, ↓reduceIte, Nat.reduceEqDiff, Nat.reduceAdd, Nat.reduceMul, Nat.reduceLeDiff, Nat.reduceLT, Int.reduceLE, Int.reduceLT, reduceCtorEq]
  refine ⟨fun h1 => ?_, fun h1 => ?_⟩
  · have hxn : x < n := by omega
    have hs := invS_succ hp hn (fun y => 0) hxn
    have hms : (mpN (n : Int) (invS p (fun y => 0) x)).set (p.getD x 0 + 1) (x : Int) = mpN n (invS p (fun y => 0) (x + 1)) := by
      rw [mpN_set (by simp [hp.len]; exact hg), hs]
    refine ⟨by omega, by omega, fun _ => ⟨by omega, by omega, by omega, ih (x + 1) (by omega) (by omega) _ _ (by simp [keep]) (by rw [hms])⟩⟩
  · obtain rfl : x = n := by omega
    have h6' := h6
    rw [invS_all hp hn] at h6'
    rw [invS_all hp hn]
    have e : mpN (x : Int) (inv p) = mp (inv p) := by rw [mp, (inv_ok hp hn).len]
    rw [e] at h6' ⊢
    try simp only [h6', take6, List.drop_zero, Int.cast_ofNat_Int, go_sem, ↓reduceIte, Nat.reduceEqDiff, Nat.reduceAdd, Nat.reduceMul, Nat.reduceLeDiff, Nat.reduceLT, Int.reduceLE, Int.reduceLT, reduceCtorEq]
    exact Kv.Fin.still ⟨rfl, rfl⟩
/-- A map, renumbered. -/
def rnm (f p : List Nat) : List Nat := mul (mul (inv p) f) p
theorem rnm_ok {f p : List Nat} {n : Nat} (hf : Ok f n) (hp : Ok p n) (hn : p.Nodup) : Ok (rnm f p) n := ((inv_ok hp hn).mul hf).mul hp
theorem p139 (f p : List Nat) (n : Nat) (hf : Ok f n) (hp : Ok p n) (hn : p.Nodup) : Pure Tryz.prog 139 [.agg (ints (mp f)), .agg (ints (mp p))] (.agg (ints (mp (rnm f p)))) := by
  have hlf := hf.mp_len
  have hlp := hp.mp_len
  have hi := inv_ok hp hn
  have h6 : (mp (mul (mul (inv p) f) p)).length = 6 := (rnm_ok hf hp hn).mp_len
  refine e139 (by simp) fun _ _ => ?_
  simp only [k139, argEnv, hlf, hlp, take6, List.drop_zero, Int.cast_ofNat_Int, go_sem, ↓reduceIte, Nat.reduceEqDiff, Nat.reduceAdd, Nat.reduceMul, Nat.reduceLeDiff, Nat.reduceLT, Int.reduceLE, Int.reduceLT, reduceCtorEq]
  refine (p174 p n hp hn).pgo ?_
  try simp only [take6, List.drop_zero, Int.cast_ofNat_Int, go_sem, ↓reduceIte, Nat.reduceEqDiff, Nat.reduceAdd, Nat.reduceMul, Nat.reduceLeDiff, Nat.reduceLT, Int.reduceLE, Int.reduceLT, reduceCtorEq]
  refine (p118 _ f n hi hf).pgo ?_
  try simp only [take6, List.drop_zero, Int.cast_ofNat_Int, go_sem, ↓reduceIte, Nat.reduceEqDiff, Nat.reduceAdd, Nat.reduceMul, Nat.reduceLeDiff, Nat.reduceLT, Int.reduceLE, Int.reduceLT, reduceCtorEq]
  refine (p118 _ p n (hi.mul hf) hp).pgo ?_
  try simp only [h6, take6, List.drop_zero, Int.cast_ofNat_Int, go_sem, ↓reduceIte, Nat.reduceEqDiff, Nat.reduceAdd, Nat.reduceMul, Nat.reduceLeDiff, Nat.reduceLT, Int.reduceLE, Int.reduceLT, reduceCtorEq]
  exact Kv.Fin.still ⟨rfl, rfl⟩
theorem p83 (f p : List Nat) (n : Nat) (hf : Ok f n) (hp : Ok p n) (hn : p.Nodup) : Pure Tryz.prog 83 [.agg (ints (mp f)), .agg (ints (mp p))] (.agg (ints (mp (rnm f p)))) := by
  have hlf := hf.mp_len
  have hlp := hp.mp_len
  have hi := inv_ok hp hn
  have h6 : (mp (mul (mul (inv p) f) p)).length = 6 := (rnm_ok hf hp hn).mp_len
  refine e83 (by simp) fun _ _ => ?_
  simp only [k83, argEnv, hlf, hlp, take6, List.drop_zero, Int.cast_ofNat_Int, go_sem, ↓reduceIte, Nat.reduceEqDiff, Nat.reduceAdd, Nat.reduceMul, Nat.reduceLeDiff, Nat.reduceLT, Int.reduceLE, Int.reduceLT, reduceCtorEq]
  refine (p142 p n hp hn).pgo ?_
  try simp only [take6, List.drop_zero, Int.cast_ofNat_Int, go_sem, ↓reduceIte, Nat.reduceEqDiff, Nat.reduceAdd, Nat.reduceMul, Nat.reduceLeDiff, Nat.reduceLT, Int.reduceLE, Int.reduceLT, reduceCtorEq]
  refine (p131 _ f n hi hf).pgo ?_
  try simp only [take6, List.drop_zero, Int.cast_ofNat_Int, go_sem, ↓reduceIte, Nat.reduceEqDiff, Nat.reduceAdd, Nat.reduceMul, Nat.reduceLeDiff, Nat.reduceLT, Int.reduceLE, Int.reduceLT, reduceCtorEq]
  refine (p131 _ p n (hi.mul hf) hp).pgo ?_
  try simp only [h6, take6, List.drop_zero, Int.cast_ofNat_Int, go_sem, ↓reduceIte, Nat.reduceEqDiff, Nat.reduceAdd, Nat.reduceMul, Nat.reduceLeDiff, Nat.reduceLT, Int.reduceLE, Int.reduceLT, reduceCtorEq]
  exact Kv.Fin.still ⟨rfl, rfl⟩
/-! ### Comparing -/
def cmpI (a b : Int) : Int := if a < b then -1 else if b < a then 1 else 0
def cmpL : List Int → List Int → Int
  | a :: xs, b :: ys => if a < b then -1 else if b < a then 1 else cmpL xs ys
  | _, _ => 0
theorem cmpL_same : ∀ l, cmpL l l = 0
  | [] => rfl
  | a :: l => by simp [cmpL, cmpL_same l]
theorem cmpL_app : ∀ (xs ys zs : List Int), xs.length = ys.length → cmpL (xs ++ zs) (ys ++ zs) = cmpL xs ys
  | [], [], zs, _ => by simp [cmpL, cmpL_same]
  | a :: xs, b :: ys, zs, h => by
    simp only [List.cons_append, cmpL]
    rw [cmpL_app xs ys zs (by simpa using h)]
  | [], _ :: _, _, h => by simp at h
  | _ :: _, [], _, h => by simp at h
theorem cmpL_drop {xs ys : List Int} {i : Nat} (h1 : i < xs.length) (h2 : i < ys.length) : cmpL (xs.drop i) (ys.drop i) = if xs.getD i 0 < ys.getD i 0 then -1 else if ys.getD i 0 < xs.getD i 0 then 1 else cmpL (xs.drop (i + 1)) (ys.drop (i + 1)) := by
  rw [List.drop_eq_getElem_cons h1, List.drop_eq_getElem_cons h2, cmpL]
  simp [List.getD_eq_getElem?_getD, h1, h2]
theorem cmpI_zero {a b : Int} (h : cmpI a b = 0) : ¬ a < b ∧ ¬ b < a := by
  unfold cmpI at h
  split at h
  · omega
  · split at h
    · omega
    · omega
theorem cmpI_ne {a b c : Int} (h : ¬ cmpI a b = 0) : (if a < b then -1 else if b < a then 1 else c) = cmpI a b := by
  unfold cmpI at *
  split
  · rfl
  · split
    · rfl
    · rename_i h1 h2
      rw [if_neg h1, if_neg h2] at h
      exact absurd rfl h
theorem p97 (a b : Int) : Pure Tryz.prog 97 [.int .i64 a, .int .i64 b] (.int .i64 (cmpI a b)) := by
  refine e97 (by simp) fun _ _ => ?_
  simp only [k97, argEnv, take6, List.drop_zero, Int.cast_ofNat_Int, go_sem, ↓reduceIte, Nat.reduceEqDiff, Nat.reduceAdd, Nat.reduceMul, Nat.reduceLeDiff, Nat.reduceLT, Int.reduceLE, Int.reduceLT, reduceCtorEq]
  refine (p147 a).go ?_
  try simp only [take6, List.drop_zero, Int.cast_ofNat_Int, go_sem, ↓reduceIte, Nat.reduceEqDiff, Nat.reduceAdd, Nat.reduceMul, Nat.reduceLeDiff, Nat.reduceLT, Int.reduceLE, Int.reduceLT, reduceCtorEq]
  refine (p147 b).go ?_
  try simp only [take6, List.drop_zero, Int.cast_ofNat_Int, go_sem, ↓reduceIte, Nat.reduceEqDiff, Nat.reduceAdd, Nat.reduceMul, Nat.reduceLeDiff, Nat.reduceLT, Int.reduceLE, Int.reduceLT, reduceCtorEq]
  refine ⟨fun h => Kv.Fin.still ⟨by simp [cmpI, h], rfl⟩, fun h => ⟨fun h' => Kv.Fin.still ⟨by simp [cmpI, h, h'], rfl⟩, fun h' => Kv.Fin.still ⟨by simp [cmpI, h, h'], rfl⟩⟩⟩
theorem p176 (xs ys : List Int) (h : xs.length = ys.length) (hl : ys.length ≤ 4294967296) : Pure Tryz.prog 176 [.list (ints xs), .list (ints ys)] (.int .i64 (cmpL xs ys)) := by
  refine e176 (by simp) fun _ _ => ?_
  simp only [k176, argEnv, h, take6, List.drop_zero, Int.cast_ofNat_Int, go_sem, ↓reduceIte, Nat.reduceEqDiff, Nat.reduceAdd, Nat.reduceMul, Nat.reduceLeDiff, Nat.reduceLT, Int.reduceLE, Int.reduceLT, reduceCtorEq]
  refine KL_ind k176_b0.eq_1 (fun x : Nat => [(0, .list (ints xs)), (1, .list (ints ys)), (9, .list (ints xs)), (10, .int .i64 ys.length), (11, .int .i64 x)]) (fun _ => []) (fun x => x ≤ ys.length ∧ cmpL xs ys = cmpL (xs.drop x) (ys.drop x)) (fun x => ys.length - x) [0, 1, 9, 10, 11] 0 (by simp [keep]) rfl ⟨Nat.zero_le _, by simp⟩ fun x ⟨hx, hc⟩ ih => ?_
  try simp only [h, take6, List.drop_zero, Int.cast_ofNat_Int, go_sem, ↓reduceIte, Nat.reduceEqDiff, Nat.reduceAdd, Nat.reduceMul, Nat.reduceLeDiff, Nat.reduceLT, Int.reduceLE, Int.reduceLT, reduceCtorEq]
  refine ⟨fun h1 => ?_, fun h1 => ?_⟩
  · have hd := cmpL_drop (xs := xs) (ys := ys) (i := x) (by omega) (by omega)
    refine ⟨by omega, fun _ => ⟨fun h2 => absurd h2 (by omega), fun _ => ⟨by omega, fun _ => ?_⟩⟩⟩
    refine (p97 _ _).go ?_
    try simp only [take6, List.drop_zero, Int.cast_ofNat_Int, go_sem, ↓reduceIte, Nat.reduceEqDiff, Nat.reduceAdd, Nat.reduceMul, Nat.reduceLeDiff, Nat.reduceLT, Int.reduceLE, Int.reduceLT, reduceCtorEq]
    refine ⟨fun h2 => Kv.Fin.still ⟨?_, rfl⟩, fun h2 => ⟨by omega, ih (x + 1) ⟨by omega, ?_⟩ (by omega) _ _ (by simp [keep]) rfl⟩⟩
    · rw [hc, hd, cmpI_ne h2]
    · obtain ⟨h3, h4⟩ := cmpI_zero h2
      rw [hc, hd, if_neg h3, if_neg h4]
  · obtain rfl : x = ys.length := by omega
    have e : cmpL xs ys = 0 := by rw [hc, ← h, List.drop_length, h, List.drop_length]; rfl
    exact ⟨fun h2 => absurd h2 (by omega), fun _ => Kv.Fin.still ⟨by rw [e], rfl⟩⟩
def orI : List Int → Int
  | [] => 0
  | a :: l => if a = 0 then orI l else a
theorem p175 (l : List Int) (hl : l.length ≤ 4294967296) : Pure Tryz.prog 175 [.list (ints l)] (.int .i64 (orI l)) := by
  refine e175 (by simp) fun _ _ => ?_
  simp only [k175, argEnv, take6, List.drop_zero, Int.cast_ofNat_Int, go_sem, ↓reduceIte, Nat.reduceEqDiff, Nat.reduceAdd, Nat.reduceMul, Nat.reduceLeDiff, Nat.reduceLT, Int.reduceLE, Int.reduceLT, reduceCtorEq]
  refine KL_ind k175_b0.eq_1 (fun x : Nat => [(3, .int .i64 0), (6, .list (ints l)), (7, .int .i64 l.length), (8, .int .i64 x)]) (fun _ => []) (fun x => x ≤ l.length ∧ orI l = orI (l.drop x)) (fun x => l.length - x) [3, 6, 7, 8] 0 (by simp [keep]) rfl ⟨Nat.zero_le _, by simp⟩ fun x ⟨hx, hc⟩ ih => ?_
  try simp only [take6, List.drop_zero, Int.cast_ofNat_Int, go_sem, ↓reduceIte, Nat.reduceEqDiff, Nat.reduceAdd, Nat.reduceMul, Nat.reduceLeDiff, Nat.reduceLT, Int.reduceLE, Int.reduceLT, reduceCtorEq]
  refine ⟨fun h1 => ?_, fun h1 => ?_⟩
  · have hxl : x < l.length := by omega
    have hd : orI (l.drop x) = if l.getD x 0 = 0 then orI (l.drop (x + 1)) else l.getD x 0 := by
      rw [List.drop_eq_getElem_cons hxl, orI]
      simp [List.getD_eq_getElem?_getD, hxl]
    refine ⟨by omega, fun _ => ⟨fun h2 => Kv.Fin.still ⟨?_, rfl⟩, fun h2 => ⟨by omega, ih (x + 1) ⟨by omega, ?_⟩ (by omega) _ _ (by simp [keep]) rfl⟩⟩⟩
    · rw [hc, hd, if_neg h2]
    · rw [hc, hd, if_pos h2]
  · obtain rfl : x = l.length := by omega
    have e : orI l = 0 := by rw [hc, List.drop_length]; rfl
    exact Kv.Fin.still ⟨by rw [e], rfl⟩
/-- What comes first. -/
def ltM (f g : List Nat) : Bool := decide (cmpL (f.map fun x : Nat => (x : Int)) (g.map fun x : Nat => (x : Int)) < 0)
theorem mp_drop (f : List Nat) : (mp f).drop 1 = (f.map fun x : Nat => (x : Int)) ++ List.replicate (5 - f.length) 0 := rfl
theorem p140 (f g : List Nat) (n : Nat) (hf : Ok f n) (hg : Ok g n) : Pure Tryz.prog 140 [.agg (ints (mp f)), .agg (ints (mp g))] (.int .i64 (cmpL (f.map fun x : Nat => (x : Int)) (g.map fun x : Nat => (x : Int)))) := by
  have hlf := hf.mp_len
  have hlg := hg.mp_len
  have h5f : ((mp f).drop 1).length = 5 := by simp [hlf]
  have h5g : ((mp g).drop 1).length = 5 := by simp [hlg]
  have hdf : ((mp f).drop 1).take 5 = (mp f).drop 1 := List.take_of_length_le (by omega)
  have hdg : ((mp g).drop 1).take 5 = (mp g).drop 1 := List.take_of_length_le (by omega)
  have e : orI [cmpI f.length g.length, cmpL ((mp f).drop 1) ((mp g).drop 1)] = cmpL (f.map fun x : Nat => (x : Int)) (g.map fun x : Nat => (x : Int)) := by
    rw [mp_drop, mp_drop, hf.len, hg.len, cmpL_app _ _ _ (by simp [hf.len, hg.len])]
    simp only [orI, cmpI]
    simp
    intro h; exact h.symm
  refine e140 (by simp) fun _ _ => ?_
  simp only [k140, argEnv, hlf, hlg, hdf, hdg, take6, List.drop_zero, Int.cast_ofNat_Int, go_sem, ↓reduceIte, Nat.reduceEqDiff, Nat.reduceAdd, Nat.reduceMul, Nat.reduceLeDiff, Nat.reduceLT, Int.reduceLE, Int.reduceLT, reduceCtorEq]
  refine (p97 _ _).pgo ?_
  try simp only [take6, List.drop_zero, Int.cast_ofNat_Int, go_sem, ↓reduceIte, Nat.reduceEqDiff, Nat.reduceAdd, Nat.reduceMul, Nat.reduceLeDiff, Nat.reduceLT, Int.reduceLE, Int.reduceLT, reduceCtorEq]
  refine (p176 _ _ (by rw [h5f, h5g]) (by omega)).pgo ?_
  try simp only [take6, List.drop_zero, Int.cast_ofNat_Int, go_sem, ↓reduceIte, Nat.reduceEqDiff, Nat.reduceAdd, Nat.reduceMul, Nat.reduceLeDiff, Nat.reduceLT, Int.reduceLE, Int.reduceLT, reduceCtorEq]
  refine (p175 [cmpI f.length g.length, cmpL ((mp f).drop 1) ((mp g).drop 1)] (by simp)).lend (.cons (Imm.refn rfl rfl) (.nil _)) ?_
  try simp only [take6, List.drop_zero, Int.cast_ofNat_Int, go_sem, ↓reduceIte, Nat.reduceEqDiff, Nat.reduceAdd, Nat.reduceMul, Nat.reduceLeDiff, Nat.reduceLT, Int.reduceLE, Int.reduceLT, reduceCtorEq]
  exact Kv.Fin.still ⟨by rw [e], rfl⟩
theorem p170 (f g : List Nat) (n : Nat) (hf : Ok f n) (hg : Ok g n) : Pure Tryz.prog 170 [.agg (ints (mp f)), .agg (ints (mp g))] (.bool (ltM f g)) := by
  have hlf := hf.mp_len
  have hlg := hg.mp_len
  have h5 := hf.le
  have hml : (f.map fun x : Nat => (x : Int)).length = n := by simp [hf.len]
  have hmg : (g.map fun x : Nat => (x : Int)).length = n := by simp [hg.len]
  have hgf : ∀ x, x < n → (f.map fun x : Nat => (x : Int)).getD x 0 = (f.getD x 0 : Int) := fun x _ => natD f x
  have hgg : ∀ x, x < n → (g.map fun x : Nat => (x : Int)).getD x 0 = (g.getD x 0 : Int) := fun x _ => natD g x
  refine e170 (by simp) fun _ _ => ?_
  simp only [k170, argEnv, hlf, hlg, hf.len, hg.len, take6, List.drop_zero, Int.cast_ofNat_Int, go_sem, ↓reduceIte, Nat.reduceEqDiff, Nat.reduceAdd, Nat.reduceMul, Nat.reduceLeDiff, Nat.reduceLT, Int.reduceLE, Int.reduceLT, reduceCtorEq]
  refine KL_ind k170_b0.eq_1 (fun x : Nat => [(2, .fptr (ints (mp f)) 0), (3, .fptr (ints (mp g)) 0), (5, .int .i64 x)]) (fun _ => []) (fun x => x ≤ n ∧ cmpL (f.map fun x : Nat => (x : Int)) (g.map fun x : Nat => (x : Int)) = cmpL ((f.map fun x : Nat => (x : Int)).drop x) ((g.map fun x : Nat => (x : Int)).drop x)) (fun x => n - x) [2, 3, 5] 0 (by simp [keep]) rfl ⟨Nat.zero_le _, by simp⟩ fun x ⟨hx, hc⟩ ih => ?_
  try simp only [hlf, hlg, hf.len, hg.len, take6, List.drop_zero, Int.cast_ofNat_Int, go_sem, ↓reduceIte, Nat.reduceEqDiff, Nat.reduceAdd, Nat.reduceMul, Nat.reduceLeDiff, Nat.reduceLT, Int.reduceLE, Int.reduceLT, reduceCtorEq]
  refine ⟨fun h1 => ?_, fun h1 => ?_⟩
  · have hxn : x < n := by omega
    have hd := cmpL_drop (xs := f.map fun x : Nat => (x : Int)) (ys := g.map fun x : Nat => (x : Int)) (i := x) (by omega) (by omega)
    rw [hgf x hxn, hgg x hxn] at hd
    refine ⟨by omega, by omega, fun _ => ⟨by omega, by omega, fun _ => ⟨fun h2 => ⟨by omega, by omega, fun _ => ⟨by omega, by omega, fun _ => Kv.Fin.still ⟨?_, rfl⟩⟩⟩, fun h2 => ⟨by omega, ih (x + 1) ⟨by omega, ?_⟩ (by omega) _ _ (by simp [keep]) rfl⟩⟩⟩⟩
    · unfold ltM
      rw [hc, hd]
      by_cases h3 : (f.getD x 0 : Int) < g.getD x 0
      · rw [if_pos h3]; simp only [h3]; rfl
      · rw [if_neg h3, if_pos (by omega)]; simp only [h3]; rfl
    · rw [hc, hd, if_neg (by omega), if_neg (by omega)]
  · obtain rfl : x = n := by omega
    have e : cmpL (f.map fun x : Nat => (x : Int)) (g.map fun x : Nat => (x : Int)) = 0 := by
      rw [hc, List.drop_of_length_le (by omega), List.drop_of_length_le (by omega)]; rfl
    refine Kv.Fin.still ⟨?_, rfl⟩
    unfold ltM; rw [e]; rfl
end Go.Proofs.YtpfapiiinkkcgaaGreat
