/- The compact code of functions of the seat, and how their calls are entered: printed by this session's own program. -/
import Derived.Test.YtpkddcjecfogeaaCb
namespace Go.Proofs.Ytpkddcjecfogeaa
open Go.Kv
set_option maxRecDepth 100000
/- (impl.Map).inverse -/
/- live [1, 2, 3, 7, 8] -/
def k170_b0 : KC := (.seq (.ops [⟨(some 9), none, .bin .lss (.t 8) (.t 7)⟩])
  (.seq (.cond (.t 9) .skip (.exit 0))
  (.seq (.block 1 (.seq (.ops [⟨(some 10), none, .mv (.t 8)⟩, ⟨(some 4), none, .mv (.t 10)⟩])
  (.ops [⟨(some 11), none, .mv (.t 4)⟩, ⟨(some 12), none, .fieldA 1 (.t 1)⟩, ⟨(some 13), none, .idxA 5 1 (.t 12) (.t 11)⟩, ⟨(some 14), none, .load false 1 (.t 13)⟩, ⟨(some 15), none, .mv (.t 4)⟩, ⟨(some 16), none, .fieldA 1 (.t 3)⟩, ⟨(some 17), none, .idxA 5 1 (.t 16) (.t 14)⟩, ⟨none, none, .store 1 (.t 17) (.t 15)⟩])))
  (.ops [⟨(some 18), none, .bin .add (.t 8) (.c (.int .i64 1))⟩, ⟨(some 8), none, .mv (.t 18)⟩]))))
def k170 : KC := (.seq (.ops [⟨(some 1), none, .box true (.t 0)⟩, ⟨(some 2), none, .alloc [.int .i64 0, .int .i64 0, .int .i64 0, .int .i64 0, .int .i64 0, .int .i64 0]⟩])
  (.seq (.ops [⟨(some 5), none, .load true 6 (.t 1)⟩, ⟨(some 3), none, .alloc [.int .i64 0, .int .i64 0, .int .i64 0, .int .i64 0, .int .i64 0, .int .i64 0]⟩, ⟨none, none, .store 6 (.t 3) (.t 5)⟩])
  (.seq (.seq (.ops [⟨(some 6), none, .fieldA 0 (.t 1)⟩, ⟨(some 7), none, .load false 1 (.t 6)⟩, ⟨(some 8), none, .mv (.c (.int .i64 0))⟩])
  (.block 0 (.loop k170_b0)))
  (.seq (.ops [⟨(some 19), none, .load true 6 (.t 3)⟩, ⟨none, none, .store 6 (.t 2) (.t 19)⟩])
  .ret))))
theorem e170 {args : List PV} {σ : Heap} {K : PV → Heap → Prop} (hl : args.length ≤ 20) (h : Wf σ → (∀ a ∈ args, PV.upto σ.length a) → vc (mkCfg Try.prog mixed [1] 20 σ.length) k170 (FinK σ.length [.cell 2 true 6] K) (argEnv 0 args) σ) : ACall Try.prog 170 args σ K :=
  ACall_enter (C := mkCfg Try.prog mixed [1] 20 σ.length) (c := Try.f170.body.getD .skip) Try.func170 (by kernel_rfl) (by kernel_rfl) (by kernel_rfl) rfl hl (by kernel_rfl) (by kernel_rfl) h
/- spec.l01Inverse -/
/- live [1, 2, 3, 4] -/
def k117_b0 : KC := (.seq (.seq (.ops [⟨(some 8), none, .mv (.t 4)⟩, ⟨(some 9), none, .fieldA 0 (.t 1)⟩, ⟨(some 10), none, .load false 1 (.t 9)⟩, ⟨(some 11), none, .bin .lss (.t 8) (.t 10)⟩])
  (.cond (.t 11) .skip (.exit 0)))
  (.seq (.block 1 (.ops [⟨(some 14), none, .mv (.t 4)⟩, ⟨(some 15), none, .fieldA 1 (.t 1)⟩, ⟨(some 16), none, .idxA 5 1 (.t 15) (.t 14)⟩, ⟨(some 17), none, .load false 1 (.t 16)⟩, ⟨(some 18), none, .mv (.t 4)⟩, ⟨(some 19), none, .fieldA 1 (.t 3)⟩, ⟨(some 20), none, .idxA 5 1 (.t 19) (.t 17)⟩, ⟨none, none, .store 1 (.t 20) (.t 18)⟩]))
  (.ops [⟨(some 12), none, .mv (.t 4)⟩, ⟨(some 13), none, .bin .add (.t 12) (.c (.int .i64 1))⟩, ⟨(some 4), none, .mv (.t 13)⟩])))
def k117 : KC := (.seq (.ops [⟨(some 1), none, .box true (.t 0)⟩, ⟨(some 2), none, .alloc [.int .i64 0, .int .i64 0, .int .i64 0, .int .i64 0, .int .i64 0, .int .i64 0]⟩])
  (.seq (.ops [⟨(some 5), none, .fieldA 0 (.t 1)⟩, ⟨(some 6), none, .load false 1 (.t 5)⟩, ⟨(some 7), none, .build [.int .i64 0, .int .i64 0, .int .i64 0, .int .i64 0, .int .i64 0, .int .i64 0] [(0, 1, (.t 6))]⟩, ⟨(some 3), none, .alloc [.int .i64 0, .int .i64 0, .int .i64 0, .int .i64 0, .int .i64 0, .int .i64 0]⟩, ⟨none, none, .store 6 (.t 3) (.t 7)⟩])
  (.seq (.seq (.ops [⟨(some 4), none, .mv (.c (.int .i64 0))⟩])
  (.block 0 (.loop k117_b0)))
  (.seq (.ops [⟨(some 21), none, .load true 6 (.t 3)⟩, ⟨none, none, .store 6 (.t 2) (.t 21)⟩])
  .ret))))
theorem e117 {args : List PV} {σ : Heap} {K : PV → Heap → Prop} (hl : args.length ≤ 22) (h : Wf σ → (∀ a ∈ args, PV.upto σ.length a) → vc (mkCfg Try.prog mixed [1] 22 σ.length) k117 (FinK σ.length [.cell 2 true 6] K) (argEnv 0 args) σ) : ACall Try.prog 117 args σ K :=
  ACall_enter (C := mkCfg Try.prog mixed [1] 22 σ.length) (c := Try.f117.body.getD .skip) Try.func117 (by kernel_rfl) (by kernel_rfl) (by kernel_rfl) rfl hl (by kernel_rfl) (by kernel_rfl) h
/- (impl.Map).renumbered -/
def k122 : KC := (.seq (.ops [⟨(some 2), none, .box true (.t 0)⟩, ⟨(some 3), none, .box true (.t 1)⟩, ⟨(some 4), none, .alloc [.int .i64 0, .int .i64 0, .int .i64 0, .int .i64 0, .int .i64 0, .int .i64 0]⟩])
  (.seq (.draw [⟨(some 5), none, .load true 6 (.t 3)⟩, ⟨(some 7), none, .load true 6 (.t 2)⟩, ⟨(some 9), none, .load true 6 (.t 3)⟩, ⟨(some 6), none, .pcall (.c (.fn (.func 170) [] [])) [(.t 5)]⟩, ⟨(some 8), none, .pcall (.c (.fn (.func 171) [] [])) [(.t 6), (.t 7)]⟩, ⟨(some 10), none, .pcall (.c (.fn (.func 171) [] [])) [(.t 8), (.t 9)]⟩, ⟨none, none, .store 6 (.t 4) (.t 10)⟩])
  .ret))
theorem e122 {args : List PV} {σ : Heap} {K : PV → Heap → Prop} (hl : args.length ≤ 11) (h : Wf σ → (∀ a ∈ args, PV.upto σ.length a) → vc (mkCfg Try.prog mixed [2, 3] 11 σ.length) k122 (FinK σ.length [.cell 4 true 6] K) (argEnv 0 args) σ) : ACall Try.prog 122 args σ K :=
  ACall_enter (C := mkCfg Try.prog mixed [2, 3] 11 σ.length) (c := Try.f122.body.getD .skip) Try.func122 (by kernel_rfl) (by kernel_rfl) (by kernel_rfl) rfl hl (by kernel_rfl) (by kernel_rfl) h
/- spec.l01Renamed -/
def k63 : KC := (.seq (.ops [⟨(some 2), none, .box true (.t 0)⟩, ⟨(some 3), none, .box true (.t 1)⟩, ⟨(some 4), none, .alloc [.int .i64 0, .int .i64 0, .int .i64 0, .int .i64 0, .int .i64 0, .int .i64 0]⟩])
  (.seq (.draw [⟨(some 5), none, .load true 6 (.t 3)⟩, ⟨(some 7), none, .load true 6 (.t 2)⟩, ⟨(some 9), none, .load true 6 (.t 3)⟩, ⟨(some 6), none, .pcall (.c (.fn (.func 117) [] [])) [(.t 5)]⟩, ⟨(some 8), none, .pcall (.c (.fn (.func 116) [] [])) [(.t 6), (.t 7)]⟩, ⟨(some 10), none, .pcall (.c (.fn (.func 116) [] [])) [(.t 8), (.t 9)]⟩, ⟨none, none, .store 6 (.t 4) (.t 10)⟩])
  .ret))
theorem e63 {args : List PV} {σ : Heap} {K : PV → Heap → Prop} (hl : args.length ≤ 11) (h : Wf σ → (∀ a ∈ args, PV.upto σ.length a) → vc (mkCfg Try.prog mixed [2, 3] 11 σ.length) k63 (FinK σ.length [.cell 4 true 6] K) (argEnv 0 args) σ) : ACall Try.prog 63 args σ K :=
  ACall_enter (C := mkCfg Try.prog mixed [2, 3] 11 σ.length) (c := Try.f63.body.getD .skip) Try.func63 (by kernel_rfl) (by kernel_rfl) (by kernel_rfl) rfl hl (by kernel_rfl) (by kernel_rfl) h
/- cmp.Compare[int64] -/
def k59 : KC := (.seq (.ops [⟨(some 4), none, .mv (.c (.int .i64 0))⟩])
  (.seq (.ops [⟨(some 7), none, .mv (.t 0)⟩, ⟨(some 8), none, .call (.c (.fn (.func 114) [] [])) [(.t 7)]⟩, ⟨(some 5), none, .mv (.t 8)⟩])
  (.seq (.ops [⟨(some 9), none, .mv (.t 1)⟩, ⟨(some 10), none, .call (.c (.fn (.func 114) [] [])) [(.t 9)]⟩, ⟨(some 6), none, .mv (.t 10)⟩])
  (.seq (.seq (.ops [⟨(some 11), none, .mv (.t 5)⟩])
  (.cond (.t 11) (.seq (.seq (.ops [⟨(some 12), none, .mv (.t 6)⟩])
  (.cond (.t 12) (.seq (.ops [⟨(some 4), none, .mv (.c (.int .i64 0))⟩])
  .ret) .skip))
  (.seq (.ops [⟨(some 4), none, .mv (.c (.int .i64 (-1)))⟩])
  .ret)) .skip))
  (.seq (.seq (.ops [⟨(some 13), none, .mv (.t 6)⟩])
  (.cond (.t 13) (.seq (.ops [⟨(some 4), none, .mv (.c (.int .i64 1))⟩])
  .ret) .skip))
  (.seq (.seq (.ops [⟨(some 14), none, .mv (.t 0)⟩, ⟨(some 15), none, .mv (.t 1)⟩, ⟨(some 16), none, .bin .lss (.t 14) (.t 15)⟩])
  (.cond (.t 16) (.seq (.ops [⟨(some 4), none, .mv (.c (.int .i64 (-1)))⟩])
  .ret) .skip))
  (.seq (.seq (.ops [⟨(some 17), none, .mv (.t 0)⟩, ⟨(some 18), none, .mv (.t 1)⟩, ⟨(some 19), none, .bin .gtr (.t 17) (.t 18)⟩])
  (.cond (.t 19) (.seq (.ops [⟨(some 4), none, .mv (.c (.int .i64 1))⟩])
  .ret) .skip))
  (.seq (.ops [⟨(some 4), none, .mv (.c (.int .i64 0))⟩])
  .ret))))))))
theorem e59 {args : List PV} {σ : Heap} {K : PV → Heap → Prop} (hl : args.length ≤ 20) (h : Wf σ → (∀ a ∈ args, PV.upto σ.length a) → vc (mkCfg Try.prog mixed [] 20 σ.length) k59 (FinK σ.length [.t 4] K) (argEnv 0 args) σ) : ACall Try.prog 59 args σ K :=
  ACall_enter (C := mkCfg Try.prog mixed [] 20 σ.length) (c := Try.f59.body.getD .skip) Try.func59 (by kernel_rfl) (by kernel_rfl) (by kernel_rfl) rfl hl (by kernel_rfl) (by kernel_rfl) h
/- slices.Compare[[]int64,int64] -/
/- live [0, 1, 9, 10, 11] -/
def k157_b0 : KC := (.seq (.ops [⟨(some 12), none, .bin .lss (.t 11) (.t 10)⟩])
  (.seq (.cond (.t 12) .skip (.exit 0))
  (.seq (.block 1 (.seq (.ops [⟨(some 13), none, .mv (.t 11)⟩, ⟨(some 14), none, .idxS 1 (.t 9) (.t 11)⟩, ⟨(some 15), none, .load false 1 (.t 14)⟩, ⟨(some 5), none, .mv (.t 13)⟩, ⟨(some 6), none, .mv (.t 15)⟩])
  (.seq (.seq (.ops [⟨(some 16), none, .mv (.t 5)⟩, ⟨(some 17), none, .mv (.t 1)⟩, ⟨(some 18), none, .len false (.t 17)⟩, ⟨(some 19), none, .bin .geq (.t 16) (.t 18)⟩])
  (.cond (.t 19) (.seq (.ops [⟨(some 4), none, .mv (.c (.int .i64 1))⟩])
  .ret) .skip))
  (.seq (.ops [⟨(some 20), none, .mv (.t 1)⟩, ⟨(some 21), none, .mv (.t 5)⟩, ⟨(some 22), none, .idxS 1 (.t 20) (.t 21)⟩, ⟨(some 23), none, .load false 1 (.t 22)⟩, ⟨(some 7), none, .mv (.t 23)⟩])
  (.seq (.ops [⟨(some 24), none, .mv (.t 6)⟩, ⟨(some 25), none, .mv (.t 7)⟩, ⟨(some 26), none, .call (.c (.fn (.func 59) [] [])) [(.t 24), (.t 25)]⟩, ⟨(some 8), none, .mv (.t 26)⟩])
  (.seq (.ops [⟨(some 27), none, .mv (.t 8)⟩, ⟨(some 28), none, .bin .neq (.t 27) (.c (.int .i64 0))⟩])
  (.cond (.t 28) (.seq (.ops [⟨(some 29), none, .mv (.t 8)⟩, ⟨(some 4), none, .mv (.t 29)⟩])
  .ret) .skip)))))))
  (.ops [⟨(some 30), none, .bin .add (.t 11) (.c (.int .i64 1))⟩, ⟨(some 11), none, .mv (.t 30)⟩]))))
def k157 : KC := (.seq (.ops [⟨(some 4), none, .mv (.c (.int .i64 0))⟩])
  (.seq (.seq (.ops [⟨(some 9), none, .mv (.t 0)⟩, ⟨(some 10), none, .len false (.t 9)⟩, ⟨(some 11), none, .mv (.c (.int .i64 0))⟩])
  (.block 0 (.loop k157_b0)))
  (.seq (.seq (.ops [⟨(some 31), none, .mv (.t 0)⟩, ⟨(some 32), none, .len false (.t 31)⟩, ⟨(some 33), none, .mv (.t 1)⟩, ⟨(some 34), none, .len false (.t 33)⟩, ⟨(some 35), none, .bin .lss (.t 32) (.t 34)⟩])
  (.cond (.t 35) (.seq (.ops [⟨(some 4), none, .mv (.c (.int .i64 (-1)))⟩])
  .ret) .skip))
  (.seq (.ops [⟨(some 4), none, .mv (.c (.int .i64 0))⟩])
  .ret))))
theorem e157 {args : List PV} {σ : Heap} {K : PV → Heap → Prop} (hl : args.length ≤ 36) (h : Wf σ → (∀ a ∈ args, PV.upto σ.length a) → vc (mkCfg Try.prog mixed [] 36 σ.length) k157 (FinK σ.length [.t 4] K) (argEnv 0 args) σ) : ACall Try.prog 157 args σ K :=
  ACall_enter (C := mkCfg Try.prog mixed [] 36 σ.length) (c := Try.f157.body.getD .skip) Try.func157 (by kernel_rfl) (by kernel_rfl) (by kernel_rfl) rfl hl (by kernel_rfl) (by kernel_rfl) h
/- cmp.Or[int] -/
/- live [3, 6, 7, 8] -/
def k155_b0 : KC := (.seq (.ops [⟨(some 9), none, .bin .lss (.t 8) (.t 7)⟩])
  (.seq (.cond (.t 9) .skip (.exit 0))
  (.seq (.block 1 (.seq (.ops [⟨(some 10), none, .idxS 1 (.t 6) (.t 8)⟩, ⟨(some 11), none, .load false 1 (.t 10)⟩, ⟨(some 5), none, .mv (.t 11)⟩])
  (.seq (.ops [⟨(some 12), none, .mv (.t 5)⟩, ⟨(some 13), none, .mv (.t 3)⟩, ⟨(some 14), none, .bin .neq (.t 12) (.t 13)⟩])
  (.cond (.t 14) (.seq (.ops [⟨(some 15), none, .mv (.t 5)⟩, ⟨(some 2), none, .mv (.t 15)⟩])
  .ret) .skip))))
  (.ops [⟨(some 16), none, .bin .add (.t 8) (.c (.int .i64 1))⟩, ⟨(some 8), none, .mv (.t 16)⟩]))))
def k155 : KC := (.seq (.ops [⟨(some 2), none, .mv (.c (.int .i64 0))⟩])
  (.seq (.ops [⟨(some 3), none, .mv (.c (.int .i64 0))⟩])
  (.seq (.seq (.ops [⟨(some 6), none, .mv (.t 0)⟩, ⟨(some 7), none, .len false (.t 6)⟩, ⟨(some 8), none, .mv (.c (.int .i64 0))⟩])
  (.block 0 (.loop k155_b0)))
  (.seq (.ops [⟨(some 17), none, .mv (.t 3)⟩, ⟨(some 2), none, .mv (.t 17)⟩])
  .ret))))
theorem e155 {args : List PV} {σ : Heap} {K : PV → Heap → Prop} (hl : args.length ≤ 18) (h : Wf σ → (∀ a ∈ args, PV.upto σ.length a) → vc (mkCfg Try.prog mixed [] 18 σ.length) k155 (FinK σ.length [.t 2] K) (argEnv 0 args) σ) : ACall Try.prog 155 args σ K :=
  ACall_enter (C := mkCfg Try.prog mixed [] 18 σ.length) (c := Try.f155.body.getD .skip) Try.func155 (by kernel_rfl) (by kernel_rfl) (by kernel_rfl) rfl hl (by kernel_rfl) (by kernel_rfl) h
/- (impl.Map).compare -/
def k123 : KC := (.seq (.ops [⟨(some 2), none, .box true (.t 0)⟩, ⟨(some 3), none, .box true (.t 1)⟩, ⟨(some 4), none, .mv (.c (.int .i64 0))⟩])
  (.seq (.draw [⟨(some 5), none, .fieldA 0 (.t 2)⟩, ⟨(some 6), none, .load false 1 (.t 5)⟩, ⟨(some 7), none, .fieldA 0 (.t 3)⟩, ⟨(some 8), none, .load false 1 (.t 7)⟩, ⟨(some 10), none, .fieldA 1 (.t 2)⟩, ⟨(some 11), none, .slA 5 (.t 10) none⟩, ⟨(some 12), none, .fieldA 1 (.t 3)⟩, ⟨(some 13), none, .slA 5 (.t 12) none⟩, ⟨(some 9), none, .pcall (.c (.fn (.func 59) [] [])) [(.t 6), (.t 8)]⟩, ⟨(some 14), none, .pcall (.c (.fn (.func 157) [] [])) [(.t 11), (.t 13)]⟩, ⟨(some 15), none, .bsl false 3 1 [(.t 9), (.t 14)]⟩, ⟨(some 16), none, .call (.c (.fn (.func 155) [] [])) [(.t 15)]⟩, ⟨(some 4), none, .mv (.t 16)⟩])
  .ret))
theorem e123 {args : List PV} {σ : Heap} {K : PV → Heap → Prop} (hl : args.length ≤ 17) (h : Wf σ → (∀ a ∈ args, PV.upto σ.length a) → vc (mkCfg Try.prog mixed [2, 3] 17 σ.length) k123 (FinK σ.length [.t 4] K) (argEnv 0 args) σ) : ACall Try.prog 123 args σ K :=
  ACall_enter (C := mkCfg Try.prog mixed [2, 3] 17 σ.length) (c := Try.f123.body.getD .skip) Try.func123 (by kernel_rfl) (by kernel_rfl) (by kernel_rfl) rfl hl (by kernel_rfl) (by kernel_rfl) h
/- spec.l01Less -/
/- live [2, 3, 5] -/
def k124_b0 : KC := (.seq (.seq (.ops [⟨(some 16), none, .mv (.t 5)⟩, ⟨(some 17), none, .fieldA 0 (.t 2)⟩, ⟨(some 18), none, .load false 1 (.t 17)⟩, ⟨(some 19), none, .bin .lss (.t 16) (.t 18)⟩])
  (.cond (.t 19) .skip (.exit 0)))
  (.seq (.block 1 (.seq (.draw [⟨(some 22), none, .mv (.t 5)⟩, ⟨(some 23), none, .fieldA 1 (.t 2)⟩, ⟨(some 24), none, .idxA 5 1 (.t 23) (.t 22)⟩, ⟨(some 25), none, .load false 1 (.t 24)⟩, ⟨(some 26), none, .mv (.t 5)⟩, ⟨(some 27), none, .fieldA 1 (.t 3)⟩, ⟨(some 28), none, .idxA 5 1 (.t 27) (.t 26)⟩, ⟨(some 29), none, .load false 1 (.t 28)⟩, ⟨(some 30), none, .bin .neq (.t 25) (.t 29)⟩])
  (.cond (.t 30) (.seq (.draw [⟨(some 31), none, .mv (.t 5)⟩, ⟨(some 32), none, .fieldA 1 (.t 2)⟩, ⟨(some 33), none, .idxA 5 1 (.t 32) (.t 31)⟩, ⟨(some 34), none, .load false 1 (.t 33)⟩, ⟨(some 35), none, .mv (.t 5)⟩, ⟨(some 36), none, .fieldA 1 (.t 3)⟩, ⟨(some 37), none, .idxA 5 1 (.t 36) (.t 35)⟩, ⟨(some 38), none, .load false 1 (.t 37)⟩, ⟨(some 39), none, .bin .lss (.t 34) (.t 38)⟩, ⟨(some 4), none, .mv (.t 39)⟩])
  .ret) .skip)))
  (.ops [⟨(some 20), none, .mv (.t 5)⟩, ⟨(some 21), none, .bin .add (.t 20) (.c (.int .i64 1))⟩, ⟨(some 5), none, .mv (.t 21)⟩])))
def k124 : KC := (.seq (.ops [⟨(some 2), none, .box true (.t 0)⟩, ⟨(some 3), none, .box true (.t 1)⟩, ⟨(some 4), none, .mv (.c (.bool false))⟩])
  (.seq (.seq (.ops [⟨(some 6), none, .fieldA 0 (.t 2)⟩, ⟨(some 7), none, .load false 1 (.t 6)⟩, ⟨(some 8), none, .fieldA 0 (.t 3)⟩, ⟨(some 9), none, .load false 1 (.t 8)⟩, ⟨(some 10), none, .bin .neq (.t 7) (.t 9)⟩])
  (.cond (.t 10) (.seq (.ops [⟨(some 11), none, .fieldA 0 (.t 2)⟩, ⟨(some 12), none, .load false 1 (.t 11)⟩, ⟨(some 13), none, .fieldA 0 (.t 3)⟩, ⟨(some 14), none, .load false 1 (.t 13)⟩, ⟨(some 15), none, .bin .lss (.t 12) (.t 14)⟩, ⟨(some 4), none, .mv (.t 15)⟩])
  .ret) .skip))
  (.seq (.seq (.ops [⟨(some 5), none, .mv (.c (.int .i64 0))⟩])
  (.block 0 (.loop k124_b0)))
  (.seq (.ops [⟨(some 4), none, .mv (.c (.bool false))⟩])
  .ret))))
theorem e124 {args : List PV} {σ : Heap} {K : PV → Heap → Prop} (hl : args.length ≤ 40) (h : Wf σ → (∀ a ∈ args, PV.upto σ.length a) → vc (mkCfg Try.prog mixed [2, 3] 40 σ.length) k124 (FinK σ.length [.t 4] K) (argEnv 0 args) σ) : ACall Try.prog 124 args σ K :=
  ACall_enter (C := mkCfg Try.prog mixed [2, 3] 40 σ.length) (c := Try.f124.body.getD .skip) Try.func124 (by kernel_rfl) (by kernel_rfl) (by kernel_rfl) rfl hl (by kernel_rfl) (by kernel_rfl) h
end Go.Proofs.Ytpkddcjecfogeaa
