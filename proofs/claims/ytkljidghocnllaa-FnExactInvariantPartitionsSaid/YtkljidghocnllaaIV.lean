/- Partitions: whether they are, whether they are invariant; both sides. -/
import Derived.Test.YtkljidghocnllaaCb
import Derived.Test.YtkljidghocnllaaLC
namespace Go.Proofs.Ytkljidghocnllaa
open Go.Kv
set_option maxRecDepth 100000
/- impl.isClasses -/
/- live [0, 1, 5, 8, 9, 10] -/
def k81_b0 : KC := (.seq (.ops [⟨(some 11), none, .bin .lss (.t 10) (.t 9)⟩])
  (.seq (.cond (.t 11) .skip (.exit 0))
  (.seq (.block 1 (.seq (.ops [⟨(some 12), none, .idxS 1 (.t 8) (.t 10)⟩, ⟨(some 13), none, .load false 1 (.t 12)⟩, ⟨(some 7), none, .mv (.t 13)⟩])
  (.seq (.seq (.ops [⟨(some 14), none, .mv (.t 7)⟩, ⟨(some 15), none, .mv (.t 5)⟩, ⟨(some 16), none, .call (.c (.fn (.func 103) [] [])) [(.t 14), (.c (.int .i64 0)), (.t 15)]⟩, ⟨(some 17), none, .not (.t 16)⟩])
  (.cond (.t 17) (.seq (.ops [⟨(some 4), none, .mv (.c (.bool false))⟩])
  .ret) .skip))
  (.seq (.ops [⟨(some 18), none, .mv (.t 7)⟩, ⟨(some 19), none, .mv (.t 5)⟩, ⟨(some 20), none, .bin .eql (.t 18) (.t 19)⟩])
  (.cond (.t 20) (.ops [⟨(some 21), none, .mv (.t 5)⟩, ⟨(some 22), none, .bin .add (.t 21) (.c (.int .i64 1))⟩, ⟨(some 5), none, .mv (.t 22)⟩]) .skip)))))
  (.ops [⟨(some 23), none, .bin .add (.t 10) (.c (.int .i64 1))⟩, ⟨(some 10), none, .mv (.t 23)⟩]))))
def k81 : KC := (.seq (.ops [⟨(some 4), none, .mv (.c (.bool false))⟩])
  (.seq (.ops [⟨(some 5), none, .mv (.c (.int .i64 0))⟩])
  (.seq (.seq (.ops [⟨(some 8), none, .mv (.t 0)⟩, ⟨(some 9), none, .len false (.t 8)⟩, ⟨(some 10), none, .mv (.c (.int .i64 0))⟩])
  (.block 0 (.loop k81_b0)))
  (.seq (.ops [⟨(some 24), none, .mv (.t 0)⟩, ⟨(some 25), none, .len false (.t 24)⟩, ⟨(some 26), none, .mv (.t 1)⟩, ⟨(some 27), none, .bin .eql (.t 25) (.t 26)⟩, ⟨(some 4), none, .mv (.t 27)⟩])
  .ret))))
theorem e81 {args : List PV} {σ : Heap} {K : PV → Heap → Prop} (hl : args.length ≤ 28) (h : Wf σ → (∀ a ∈ args, PV.upto σ.length a) → vc (mkCfg Try.prog mixed [] 28 σ.length) k81 (FinK σ.length [.t 4] K) (argEnv 0 args) σ) : ACall Try.prog 81 args σ K :=
  ACall_enter (C := mkCfg Try.prog mixed [] 28 σ.length) (c := Try.f81.body.getD .skip) Try.func81 (by kernel_rfl) (by kernel_rfl) (by kernel_rfl) rfl hl (by kernel_rfl) (by kernel_rfl) h
/- spec.l06Is -/
/- live [0, 1, 5, 6] -/
def k136_b0 : KC := (.seq (.seq (.ops [⟨(some 11), none, .mv (.t 6)⟩, ⟨(some 12), none, .mv (.t 1)⟩, ⟨(some 13), none, .bin .lss (.t 11) (.t 12)⟩])
  (.cond (.t 13) .skip (.exit 0)))
  (.seq (.block 1 (.seq (.seq (.ops [⟨(some 16), none, .mv (.t 0)⟩, ⟨(some 17), none, .mv (.t 6)⟩, ⟨(some 18), none, .idxS 1 (.t 16) (.t 17)⟩, ⟨(some 19), none, .load false 1 (.t 18)⟩, ⟨(some 20), none, .mv (.t 5)⟩, ⟨(some 21), none, .call (.c (.fn (.func 102) [] [])) [(.t 19), (.c (.int .i64 0)), (.t 20)]⟩, ⟨(some 22), none, .not (.t 21)⟩])
  (.cond (.t 22) (.seq (.ops [⟨(some 4), none, .mv (.c (.bool false))⟩])
  .ret) .skip))
  (.seq (.ops [⟨(some 23), none, .mv (.t 0)⟩, ⟨(some 24), none, .mv (.t 6)⟩, ⟨(some 25), none, .idxS 1 (.t 23) (.t 24)⟩, ⟨(some 26), none, .load false 1 (.t 25)⟩, ⟨(some 27), none, .mv (.t 5)⟩, ⟨(some 28), none, .bin .eql (.t 26) (.t 27)⟩])
  (.cond (.t 28) (.ops [⟨(some 29), none, .mv (.t 5)⟩, ⟨(some 30), none, .bin .add (.t 29) (.c (.int .i64 1))⟩, ⟨(some 5), none, .mv (.t 30)⟩]) .skip))))
  (.ops [⟨(some 14), none, .mv (.t 6)⟩, ⟨(some 15), none, .bin .add (.t 14) (.c (.int .i64 1))⟩, ⟨(some 6), none, .mv (.t 15)⟩])))
def k136 : KC := (.seq (.ops [⟨(some 4), none, .mv (.c (.bool false))⟩])
  (.seq (.seq (.ops [⟨(some 7), none, .mv (.t 0)⟩, ⟨(some 8), none, .len false (.t 7)⟩, ⟨(some 9), none, .mv (.t 1)⟩, ⟨(some 10), none, .bin .neq (.t 8) (.t 9)⟩])
  (.cond (.t 10) (.seq (.ops [⟨(some 4), none, .mv (.c (.bool false))⟩])
  .ret) .skip))
  (.seq (.ops [⟨(some 5), none, .mv (.c (.int .i64 0))⟩])
  (.seq (.seq (.ops [⟨(some 6), none, .mv (.c (.int .i64 0))⟩])
  (.block 0 (.loop k136_b0)))
  (.seq (.ops [⟨(some 4), none, .mv (.c (.bool true))⟩])
  .ret)))))
theorem e136 {args : List PV} {σ : Heap} {K : PV → Heap → Prop} (hl : args.length ≤ 31) (h : Wf σ → (∀ a ∈ args, PV.upto σ.length a) → vc (mkCfg Try.prog mixed [] 31 σ.length) k136 (FinK σ.length [.t 4] K) (argEnv 0 args) σ) : ACall Try.prog 136 args σ K :=
  ACall_enter (C := mkCfg Try.prog mixed [] 31 σ.length) (c := Try.f136.body.getD .skip) Try.func136 (by kernel_rfl) (by kernel_rfl) (by kernel_rfl) rfl hl (by kernel_rfl) (by kernel_rfl) h
/- spec.l10Partition -/
def k117 : KC := (.seq (.ops [⟨(some 4), none, .mv (.c (.bool false))⟩])
  (.seq (.ops [⟨(some 5), none, .mv (.t 0)⟩, ⟨(some 6), none, .mv (.t 1)⟩, ⟨(some 7), none, .call (.c (.fn (.func 136) [] [])) [(.t 5), (.t 6)]⟩, ⟨(some 4), none, .mv (.t 7)⟩])
  .ret))
theorem e117 {args : List PV} {σ : Heap} {K : PV → Heap → Prop} (hl : args.length ≤ 8) (h : Wf σ → (∀ a ∈ args, PV.upto σ.length a) → vc (mkCfg Try.prog mixed [] 8 σ.length) k117 (FinK σ.length [.t 4] K) (argEnv 0 args) σ) : ACall Try.prog 117 args σ K :=
  ACall_enter (C := mkCfg Try.prog mixed [] 8 σ.length) (c := Try.f117.body.getD .skip) Try.func117 (by kernel_rfl) (by kernel_rfl) (by kernel_rfl) rfl hl (by kernel_rfl) (by kernel_rfl) h
/- spec.l10Given -/
def k79 : KC := (.seq (.ops [⟨(some 4), none, .mv (.c (.int .i64 0))⟩])
  (.seq (.ops [⟨(some 6), none, .mv (.t 0)⟩, ⟨(some 7), none, .call (.c (.fn (.func 63) [] [])) [(.t 6), (.c (.nils))]⟩, ⟨(some 5), none, .mv (.t 7)⟩])
  (.seq (.seq (.ops [⟨(some 8), none, .mv (.t 5)⟩, ⟨(some 9), none, .bin .eql (.t 8) (.c (.int .i64 0))⟩, ⟨(some 10), none, .mv (.t 9)⟩, ⟨(some 11), some (10, true), .mv (.t 1)⟩, ⟨(some 12), some (10, true), .mv (.t 0)⟩, ⟨(some 13), some (10, true), .idxS 6 (.t 12) (.c (.int .i64 0))⟩, ⟨(some 14), some (10, true), .fieldA 0 (.t 13)⟩, ⟨(some 15), some (10, true), .load false 1 (.t 14)⟩, ⟨(some 16), some (10, true), .call (.c (.fn (.func 117) [] [])) [(.t 11), (.t 15)]⟩, ⟨(some 17), some (10, true), .not (.t 16)⟩, ⟨(some 18), none, .pick (.t 10) (.t 17) (.c (.bool false))⟩])
  (.cond (.t 18) (.ops [⟨(some 5), none, .mv (.c (.int .i64 2))⟩]) .skip))
  (.seq (.ops [⟨(some 19), none, .mv (.t 5)⟩, ⟨(some 4), none, .mv (.t 19)⟩])
  .ret))))
theorem e79 {args : List PV} {σ : Heap} {K : PV → Heap → Prop} (hl : args.length ≤ 20) (h : Wf σ → (∀ a ∈ args, PV.upto σ.length a) → vc (mkCfg Try.prog mixed [] 20 σ.length) k79 (FinK σ.length [.t 4] K) (argEnv 0 args) σ) : ACall Try.prog 79 args σ K :=
  ACall_enter (C := mkCfg Try.prog mixed [] 20 σ.length) (c := Try.f79.body.getD .skip) Try.func79 (by kernel_rfl) (by kernel_rfl) (by kernel_rfl) rfl hl (by kernel_rfl) (by kernel_rfl) h
/- impl.isInvariant -/
/- live [1, 6, 10, 11, 12, 16, 17, 18] -/
def k82_b0 : KC := (.seq (.ops [⟨(some 19), none, .bin .lss (.t 18) (.t 17)⟩])
  (.seq (.cond (.t 19) .skip (.exit 2))
  (.seq (.block 3 (.seq (.ops [⟨(some 20), none, .mv (.t 18)⟩, ⟨(some 21), none, .idxS 1 (.t 16) (.t 18)⟩, ⟨(some 22), none, .load false 1 (.t 21)⟩, ⟨(some 7), none, .mv (.t 20)⟩, ⟨(some 8), none, .mv (.t 22)⟩])
  (.seq (.ops [⟨(some 23), none, .mv (.t 1)⟩, ⟨(some 24), none, .mv (.t 8)⟩, ⟨(some 25), none, .call (.c (.fn (.func 118) [] [])) [(.t 23), (.t 24)]⟩, ⟨(some 9), none, .mv (.t 25)⟩])
  (.seq (.draw [⟨(some 26), none, .mv (.t 1)⟩, ⟨(some 27), none, .mv (.t 7)⟩, ⟨(some 28), none, .fieldA 1 (.t 6)⟩, ⟨(some 29), none, .idxA 5 1 (.t 28) (.t 27)⟩, ⟨(some 30), none, .load false 1 (.t 29)⟩, ⟨(some 31), none, .idxS 1 (.t 26) (.t 30)⟩, ⟨(some 32), none, .load false 1 (.t 31)⟩, ⟨(some 33), none, .mv (.t 1)⟩, ⟨(some 34), none, .mv (.t 9)⟩, ⟨(some 35), none, .fieldA 1 (.t 6)⟩, ⟨(some 36), none, .idxA 5 1 (.t 35) (.t 34)⟩, ⟨(some 37), none, .load false 1 (.t 36)⟩, ⟨(some 38), none, .idxS 1 (.t 33) (.t 37)⟩, ⟨(some 39), none, .load false 1 (.t 38)⟩, ⟨(some 40), none, .bin .neq (.t 32) (.t 39)⟩])
  (.cond (.t 40) (.seq (.ops [⟨(some 4), none, .mv (.c (.bool false))⟩])
  .ret) .skip)))))
  (.ops [⟨(some 41), none, .bin .add (.t 18) (.c (.int .i64 1))⟩, ⟨(some 18), none, .mv (.t 41)⟩]))))
/- live [1, 10, 11, 12] -/
def k82_b1 : KC := (.seq (.ops [⟨(some 13), none, .bin .lss (.t 12) (.t 11)⟩])
  (.seq (.cond (.t 13) .skip (.exit 0))
  (.seq (.block 1 (.seq (.ops [⟨(some 14), none, .idxS 6 (.t 10) (.t 12)⟩, ⟨(some 15), none, .load true 6 (.t 14)⟩, ⟨(some 6), none, .alloc [.int .i64 0, .int .i64 0, .int .i64 0, .int .i64 0, .int .i64 0, .int .i64 0]⟩, ⟨none, none, .store 6 (.t 6) (.t 15)⟩])
  (.seq (.ops [⟨(some 16), none, .mv (.t 1)⟩, ⟨(some 17), none, .len false (.t 16)⟩, ⟨(some 18), none, .mv (.c (.int .i64 0))⟩])
  (.block 2 (.loop k82_b0)))))
  (.ops [⟨(some 42), none, .bin .add (.t 12) (.c (.int .i64 1))⟩, ⟨(some 12), none, .mv (.t 42)⟩]))))
def k82 : KC := (.seq (.ops [⟨(some 4), none, .mv (.c (.bool false))⟩])
  (.seq (.seq (.ops [⟨(some 10), none, .mv (.t 0)⟩, ⟨(some 11), none, .len false (.t 10)⟩, ⟨(some 12), none, .mv (.c (.int .i64 0))⟩])
  (.block 0 (.loop k82_b1)))
  (.seq (.ops [⟨(some 4), none, .mv (.c (.bool true))⟩])
  .ret)))
theorem e82 {args : List PV} {σ : Heap} {K : PV → Heap → Prop} (hl : args.length ≤ 43) (h : Wf σ → (∀ a ∈ args, PV.upto σ.length a) → vc (mkCfg Try.prog mixed [] 43 σ.length) k82 (FinK σ.length [.t 4] K) (argEnv 0 args) σ) : ACall Try.prog 82 args σ K :=
  ACall_enter (C := mkCfg Try.prog mixed [] 43 σ.length) (c := Try.f82.body.getD .skip) Try.func82 (by kernel_rfl) (by kernel_rfl) (by kernel_rfl) rfl hl (by kernel_rfl) (by kernel_rfl) h
/- spec.l10Invariant -/
/- live [0, 1, 5, 6, 7, 35, 36, 37, 38, 39, 40, 41, 42, 43, 44, 45, 46, 47, 48, 49, 50, 51, 52, 53, 54, 55] -/
def k80_b0 : KC := (.seq (.seq (.ops [⟨(some 20), none, .mv (.t 7)⟩, ⟨(some 21), none, .mv (.t 6)⟩, ⟨(some 22), none, .bin .lss (.t 20) (.t 21)⟩])
  (.cond (.t 22) .skip (.exit 4)))
  (.seq (.block 5 (.seq (.draw [⟨(some 25), none, .mv (.t 1)⟩, ⟨(some 26), none, .mv (.t 6)⟩, ⟨(some 27), none, .idxS 1 (.t 25) (.t 26)⟩, ⟨(some 28), none, .load false 1 (.t 27)⟩, ⟨(some 29), none, .mv (.t 1)⟩, ⟨(some 30), none, .mv (.t 7)⟩, ⟨(some 31), none, .idxS 1 (.t 29) (.t 30)⟩, ⟨(some 32), none, .load false 1 (.t 31)⟩, ⟨(some 33), none, .bin .eql (.t 28) (.t 32)⟩, ⟨(some 34), none, .mv (.t 33)⟩, ⟨(some 35), some (34, true), .mv (.t 1)⟩, ⟨(some 36), some (34, true), .mv (.t 0)⟩, ⟨(some 37), some (34, true), .mv (.t 5)⟩, ⟨(some 38), some (34, true), .mv (.t 6)⟩, ⟨(some 39), some (34, true), .idxS 6 (.t 36) (.t 37)⟩, ⟨(some 40), some (34, true), .fieldA 1 (.t 39)⟩, ⟨(some 41), some (34, true), .idxA 5 1 (.t 40) (.t 38)⟩, ⟨(some 42), some (34, true), .load false 1 (.t 41)⟩, ⟨(some 43), some (34, true), .idxS 1 (.t 35) (.t 42)⟩, ⟨(some 44), some (34, true), .load false 1 (.t 43)⟩, ⟨(some 45), some (34, true), .mv (.t 1)⟩, ⟨(some 46), some (34, true), .mv (.t 0)⟩, ⟨(some 47), some (34, true), .mv (.t 5)⟩, ⟨(some 48), some (34, true), .mv (.t 7)⟩, ⟨(some 49), some (34, true), .idxS 6 (.t 46) (.t 47)⟩, ⟨(some 50), some (34, true), .fieldA 1 (.t 49)⟩, ⟨(some 51), some (34, true), .idxA 5 1 (.t 50) (.t 48)⟩, ⟨(some 52), some (34, true), .load false 1 (.t 51)⟩, ⟨(some 53), some (34, true), .idxS 1 (.t 45) (.t 52)⟩, ⟨(some 54), some (34, true), .load false 1 (.t 53)⟩, ⟨(some 55), some (34, true), .bin .neq (.t 44) (.t 54)⟩, ⟨(some 56), none, .pick (.t 34) (.t 55) (.c (.bool false))⟩])
  (.cond (.t 56) (.seq (.ops [⟨(some 4), none, .mv (.c (.bool false))⟩])
  .ret) .skip)))
  (.ops [⟨(some 23), none, .mv (.t 7)⟩, ⟨(some 24), none, .bin .add (.t 23) (.c (.int .i64 1))⟩, ⟨(some 7), none, .mv (.t 24)⟩])))
/- live [0, 1, 5, 6, 35, 36, 37, 38, 39, 40, 41, 42, 43, 44, 45, 46, 47, 48, 49, 50, 51, 52, 53, 54, 55] -/
def k80_b1 : KC := (.seq (.seq (.ops [⟨(some 14), none, .mv (.t 6)⟩, ⟨(some 15), none, .mv (.t 1)⟩, ⟨(some 16), none, .len false (.t 15)⟩, ⟨(some 17), none, .bin .lss (.t 14) (.t 16)⟩])
  (.cond (.t 17) .skip (.exit 2)))
  (.seq (.block 3 (.seq (.ops [⟨(some 7), none, .mv (.c (.int .i64 0))⟩])
  (.block 4 (.loop k80_b0))))
  (.ops [⟨(some 18), none, .mv (.t 6)⟩, ⟨(some 19), none, .bin .add (.t 18) (.c (.int .i64 1))⟩, ⟨(some 6), none, .mv (.t 19)⟩])))
/- live [0, 1, 5, 35, 36, 37, 38, 39, 40, 41, 42, 43, 44, 45, 46, 47, 48, 49, 50, 51, 52, 53, 54, 55] -/
def k80_b2 : KC := (.seq (.seq (.ops [⟨(some 8), none, .mv (.t 5)⟩, ⟨(some 9), none, .mv (.t 0)⟩, ⟨(some 10), none, .len false (.t 9)⟩, ⟨(some 11), none, .bin .lss (.t 8) (.t 10)⟩])
  (.cond (.t 11) .skip (.exit 0)))
  (.seq (.block 1 (.seq (.ops [⟨(some 6), none, .mv (.c (.int .i64 0))⟩])
  (.block 2 (.loop k80_b1))))
  (.ops [⟨(some 12), none, .mv (.t 5)⟩, ⟨(some 13), none, .bin .add (.t 12) (.c (.int .i64 1))⟩, ⟨(some 5), none, .mv (.t 13)⟩])))
def k80 : KC := (.seq (.ops [⟨(some 4), none, .mv (.c (.bool false))⟩])
  (.seq (.seq (.ops [⟨(some 5), none, .mv (.c (.int .i64 0))⟩])
  (.block 0 (.loop k80_b2)))
  (.seq (.ops [⟨(some 4), none, .mv (.c (.bool true))⟩])
  .ret)))
theorem e80 {args : List PV} {σ : Heap} {K : PV → Heap → Prop} (hl : args.length ≤ 57) (h : Wf σ → (∀ a ∈ args, PV.upto σ.length a) → vc (mkCfg Try.prog mixed [] 57 σ.length) k80 (FinK σ.length [.t 4] K) (argEnv 0 args) σ) : ACall Try.prog 80 args σ K :=
  ACall_enter (C := mkCfg Try.prog mixed [] 57 σ.length) (c := Try.f80.body.getD .skip) Try.func80 (by kernel_rfl) (by kernel_rfl) (by kernel_rfl) rfl hl (by kernel_rfl) (by kernel_rfl) h
/- slices.Index[[]int64,int64] -/
/- live [0, 1, 7, 8] -/
def k118_b0 : KC := (.seq (.ops [⟨(some 9), none, .bin .lss (.t 8) (.t 7)⟩])
  (.seq (.cond (.t 9) .skip (.exit 0))
  (.seq (.block 1 (.seq (.ops [⟨(some 10), none, .mv (.t 8)⟩, ⟨(some 5), none, .mv (.t 10)⟩])
  (.seq (.ops [⟨(some 11), none, .mv (.t 1)⟩, ⟨(some 12), none, .mv (.t 0)⟩, ⟨(some 13), none, .mv (.t 5)⟩, ⟨(some 14), none, .idxS 1 (.t 12) (.t 13)⟩, ⟨(some 15), none, .load false 1 (.t 14)⟩, ⟨(some 16), none, .bin .eql (.t 11) (.t 15)⟩])
  (.cond (.t 16) (.seq (.ops [⟨(some 17), none, .mv (.t 5)⟩, ⟨(some 4), none, .mv (.t 17)⟩])
  .ret) .skip))))
  (.ops [⟨(some 18), none, .bin .add (.t 8) (.c (.int .i64 1))⟩, ⟨(some 8), none, .mv (.t 18)⟩]))))
def k118 : KC := (.seq (.ops [⟨(some 4), none, .mv (.c (.int .i64 0))⟩])
  (.seq (.seq (.ops [⟨(some 6), none, .mv (.t 0)⟩, ⟨(some 7), none, .len false (.t 6)⟩, ⟨(some 8), none, .mv (.c (.int .i64 0))⟩])
  (.block 0 (.loop k118_b0)))
  (.seq (.ops [⟨(some 4), none, .mv (.c (.int .i64 (-1)))⟩])
  .ret)))
theorem e118 {args : List PV} {σ : Heap} {K : PV → Heap → Prop} (hl : args.length ≤ 19) (h : Wf σ → (∀ a ∈ args, PV.upto σ.length a) → vc (mkCfg Try.prog mixed [] 19 σ.length) k118 (FinK σ.length [.t 4] K) (argEnv 0 args) σ) : ACall Try.prog 118 args σ K :=
  ACall_enter (C := mkCfg Try.prog mixed [] 19 σ.length) (c := Try.f118.body.getD .skip) Try.func118 (by kernel_rfl) (by kernel_rfl) (by kernel_rfl) rfl hl (by kernel_rfl) (by kernel_rfl) h
/- impl.IsInvariantPartition -/
def k46 : KC := (.seq (.ops [⟨(some 4), none, .mv (.c (.bool false))⟩, ⟨(some 5), none, .mv (.c (.int .i64 0))⟩])
  (.seq (.seq (.ops [⟨(some 7), none, .mv (.t 0)⟩, ⟨(some 8), none, .call (.c (.fn (.func 64) [] [])) [(.t 7), (.c (.nils))]⟩, ⟨(some 6), none, .mv (.t 8)⟩])
  (.seq (.ops [⟨(some 9), none, .mv (.t 6)⟩, ⟨(some 10), none, .bin .neq (.t 9) (.c (.int .i64 0))⟩])
  (.cond (.t 10) (.seq (.ops [⟨(some 11), none, .mv (.t 6)⟩, ⟨(some 4), none, .mv (.c (.bool false))⟩, ⟨(some 5), none, .mv (.t 11)⟩])
  .ret) .skip)))
  (.seq (.seq (.ops [⟨(some 12), none, .mv (.t 1)⟩, ⟨(some 13), none, .mv (.t 0)⟩, ⟨(some 14), none, .idxS 6 (.t 13) (.c (.int .i64 0))⟩, ⟨(some 15), none, .fieldA 0 (.t 14)⟩, ⟨(some 16), none, .load false 1 (.t 15)⟩, ⟨(some 17), none, .call (.c (.fn (.func 81) [] [])) [(.t 12), (.t 16)]⟩, ⟨(some 18), none, .not (.t 17)⟩])
  (.cond (.t 18) (.seq (.ops [⟨(some 4), none, .mv (.c (.bool false))⟩, ⟨(some 5), none, .mv (.c (.int .i64 2))⟩])
  .ret) .skip))
  (.seq (.ops [⟨(some 19), none, .mv (.t 0)⟩, ⟨(some 20), none, .mv (.t 1)⟩, ⟨(some 21), none, .call (.c (.fn (.func 82) [] [])) [(.t 19), (.t 20)]⟩, ⟨(some 4), none, .mv (.t 21)⟩, ⟨(some 5), none, .mv (.c (.int .i64 0))⟩])
  .ret))))
theorem e46 {args : List PV} {σ : Heap} {K : PV → Heap → Prop} (hl : args.length ≤ 22) (h : Wf σ → (∀ a ∈ args, PV.upto σ.length a) → vc (mkCfg Try.prog mixed [] 22 σ.length) k46 (FinK σ.length [.t 4, .t 5] K) (argEnv 0 args) σ) : ACall Try.prog 46 args σ K :=
  ACall_enter (C := mkCfg Try.prog mixed [] 22 σ.length) (c := Try.f46.body.getD .skip) Try.func46 (by kernel_rfl) (by kernel_rfl) (by kernel_rfl) rfl hl (by kernel_rfl) (by kernel_rfl) h
/- spec.IsInvariantPartition -/
def k44 : KC := (.seq (.ops [⟨(some 4), none, .mv (.c (.bool false))⟩, ⟨(some 5), none, .mv (.c (.int .i64 0))⟩])
  (.seq (.seq (.ops [⟨(some 7), none, .mv (.t 0)⟩, ⟨(some 8), none, .mv (.t 1)⟩, ⟨(some 9), none, .call (.c (.fn (.func 79) [] [])) [(.t 7), (.t 8)]⟩, ⟨(some 6), none, .mv (.t 9)⟩])
  (.seq (.ops [⟨(some 10), none, .mv (.t 6)⟩, ⟨(some 11), none, .bin .neq (.t 10) (.c (.int .i64 0))⟩])
  (.cond (.t 11) (.seq (.ops [⟨(some 12), none, .mv (.t 6)⟩, ⟨(some 4), none, .mv (.c (.bool false))⟩, ⟨(some 5), none, .mv (.t 12)⟩])
  .ret) .skip)))
  (.seq (.ops [⟨(some 13), none, .mv (.t 0)⟩, ⟨(some 14), none, .mv (.t 1)⟩, ⟨(some 15), none, .call (.c (.fn (.func 80) [] [])) [(.t 13), (.t 14)]⟩, ⟨(some 4), none, .mv (.t 15)⟩, ⟨(some 5), none, .mv (.c (.int .i64 0))⟩])
  .ret)))
theorem e44 {args : List PV} {σ : Heap} {K : PV → Heap → Prop} (hl : args.length ≤ 16) (h : Wf σ → (∀ a ∈ args, PV.upto σ.length a) → vc (mkCfg Try.prog mixed [] 16 σ.length) k44 (FinK σ.length [.t 4, .t 5] K) (argEnv 0 args) σ) : ACall Try.prog 44 args σ K :=
  ACall_enter (C := mkCfg Try.prog mixed [] 16 σ.length) (c := Try.f44.body.getD .skip) Try.func44 (by kernel_rfl) (by kernel_rfl) (by kernel_rfl) rfl hl (by kernel_rfl) (by kernel_rfl) h
end Go.Proofs.Ytkljidghocnllaa
namespace Go.Proofs.Ytkljidghocnllaa
open Go.Kv
set_option linter.unusedVariables false
set_option linter.unusedSimpArgs false
attribute [local irreducible] ACall PCall KL
/-- Numbers of classes, of which v is the least free one. -/
def clOk : List Int → Int → Bool
  | [], _ => true
  | k :: r, v => decide (0 ≤ k ∧ k ≤ v) && clOk r (if k = v then v + 1 else v)
theorem clOk_step {l : List Int} {x : Nat} (h : x < l.length) (v : Int) : clOk (l.drop x) v = (decide (0 ≤ l[x] ∧ l[x] ≤ v) && clOk (l.drop (x + 1)) (if l[x] = v then v + 1 else v)) := by
  rw [List.drop_eq_getElem_cons h]; rfl
theorem p81 (l : List Int) (n : Int) (hl : l.length ≤ 1048576) : Pure Try.prog 81 [.list (ints l), .int .i64 n] (.bool (clOk l 0 && decide ((l.length : Int) = n))) := by
  refine e81 (by simp) fun _ _ => ?_
  simp only [k81, argEnv, take6, List.drop_zero, Int.cast_ofNat_Int, go_sem, ↓reduceIte, Nat.reduceEqDiff, Nat.reduceAdd, Nat.reduceMul, Nat.reduceLeDiff, Nat.reduceLT, Int.reduceLE, Int.reduceLT, reduceCtorEq]
  refine KL_ind k81_b0.eq_1 (fun x : Nat × Int => [(0, .list (ints l)), (1, .int .i64 n), (5, .int .i64 x.2), (8, .list (ints l)), (9, .int .i64 l.length), (10, .int .i64 x.1)]) (fun _ => []) (fun x => x.1 ≤ l.length ∧ clOk l 0 = clOk (l.drop x.1) x.2 ∧ 0 ≤ x.2 ∧ x.2 ≤ x.1) (fun x => l.length - x.1) [0, 1, 5, 8, 9, 10] (0, 0) (by rfl) rfl ⟨Nat.zero_le _, rfl, by simp, by simp⟩ fun ⟨x, v⟩ ⟨hx, hc, h0, hv⟩ ih => ?_
  simp only at hx hc h0 hv
  try simp only [take6, List.drop_zero, Int.cast_ofNat_Int, go_sem, ↓reduceIte, Nat.reduceEqDiff, Nat.reduceAdd, Nat.reduceMul, Nat.reduceLeDiff, Nat.reduceLT, Int.reduceLE, Int.reduceLT, reduceCtorEq]
  refine ⟨fun h1 => ⟨by omega, fun h2 => ?_⟩, fun h1 => ?_⟩
  · rw [getD_eq h2]
    rw [clOk_step h2] at hc
    refine (p103 _ _ _).go ?_
    try simp only [take6, List.drop_zero, Int.cast_ofNat_Int, go_sem, ↓reduceIte, Nat.reduceEqDiff, Nat.reduceAdd, Nat.reduceMul, Nat.reduceLeDiff, Nat.reduceLT, Int.reduceLE, Int.reduceLT, reduceCtorEq]
    refine ⟨fun h3 => ?_, fun h3 => ⟨fun h4 => ⟨by omega, by omega, ?_⟩, fun h4 => ⟨by omega, ?_⟩⟩⟩
    · rw [hc, decide_eq_false h3]
      exact Kv.Fin.still ⟨rfl, rfl⟩
    · rw [decide_eq_true h3, Bool.true_and, if_pos h4] at hc
      exact ih (x + 1, v + 1) ⟨by show x + 1 ≤ _; omega, hc, by show 0 ≤ v + 1; omega, by show v + 1 ≤ ((x + 1 : Nat) : Int); omega⟩ (by show l.length - (x + 1) < l.length - x; omega) _ _ (by rfl) rfl
    · rw [decide_eq_true h3, Bool.true_and, if_neg h4] at hc
      exact ih (x + 1, v) ⟨by show x + 1 ≤ _; omega, hc, h0, by show v ≤ ((x + 1 : Nat) : Int); omega⟩ (by show l.length - (x + 1) < l.length - x; omega) _ _ (by rfl) rfl
  · obtain rfl : x = l.length := by omega
    rw [List.drop_length] at hc
    rw [hc]
    exact Kv.Fin.still ⟨by simp [clOk], rfl⟩
theorem p136 (l : List Int) (n : Int) (hl : l.length ≤ 1048576) : Pure Try.prog 136 [.list (ints l), .int .i64 n] (.bool (clOk l 0 && decide ((l.length : Int) = n))) := by
  refine e136 (by simp) fun _ _ => ?_
  simp only [k136, argEnv, take6, List.drop_zero, Int.cast_ofNat_Int, go_sem, ↓reduceIte, Nat.reduceEqDiff, Nat.reduceAdd, Nat.reduceMul, Nat.reduceLeDiff, Nat.reduceLT, Int.reduceLE, Int.reduceLT, reduceCtorEq]
  refine ⟨fun h => Kv.Fin.still ⟨by rw [decide_eq_false h, Bool.and_false], rfl⟩, fun h => ?_⟩
  subst h
  rw [decide_eq_true rfl, Bool.and_true]
  refine KL_ind k136_b0.eq_1 (fun x : Nat × Int => [(0, .list (ints l)), (1, .int .i64 l.length), (5, .int .i64 x.2), (6, .int .i64 x.1)]) (fun _ => []) (fun x => x.1 ≤ l.length ∧ clOk l 0 = clOk (l.drop x.1) x.2 ∧ 0 ≤ x.2 ∧ x.2 ≤ x.1) (fun x => l.length - x.1) [0, 1, 5, 6] (0, 0) (by rfl) rfl ⟨Nat.zero_le _, rfl, by simp, by simp⟩ fun ⟨x, v⟩ ⟨hx, hc, h0, hv⟩ ih => ?_
  simp only at hx hc h0 hv
  try simp only [take6, List.drop_zero, Int.cast_ofNat_Int, go_sem, ↓reduceIte, Nat.reduceEqDiff, Nat.reduceAdd, Nat.reduceMul, Nat.reduceLeDiff, Nat.reduceLT, Int.reduceLE, Int.reduceLT, reduceCtorEq]
  refine ⟨fun h1 => ⟨by omega, fun h2 => ?_⟩, fun h1 => ?_⟩
  · rw [getD_eq h2]
    rw [clOk_step h2] at hc
    refine (p102 _ _ _).go ?_
    try simp only [take6, List.drop_zero, Int.cast_ofNat_Int, go_sem, ↓reduceIte, Nat.reduceEqDiff, Nat.reduceAdd, Nat.reduceMul, Nat.reduceLeDiff, Nat.reduceLT, Int.reduceLE, Int.reduceLT, reduceCtorEq]
    refine ⟨fun h3 => ?_, fun h3 => ⟨by omega, fun _ => ?_⟩⟩
    · rw [hc, decide_eq_false h3]
      exact Kv.Fin.still ⟨rfl, rfl⟩
    rw [getD_eq h2]
    refine ⟨fun h4 => ⟨by omega, by omega, ?_⟩, fun h4 => ⟨by omega, ?_⟩⟩
    · rw [decide_eq_true h3, Bool.true_and, if_pos h4] at hc
      exact ih (x + 1, v + 1) ⟨by show x + 1 ≤ _; omega, hc, by show 0 ≤ v + 1; omega, by show v + 1 ≤ ((x + 1 : Nat) : Int); omega⟩ (by show l.length - (x + 1) < l.length - x; omega) _ _ (by rfl) rfl
    · rw [decide_eq_true h3, Bool.true_and, if_neg h4] at hc
      exact ih (x + 1, v) ⟨by show x + 1 ≤ _; omega, hc, h0, by show v ≤ ((x + 1 : Nat) : Int); omega⟩ (by show l.length - (x + 1) < l.length - x; omega) _ _ (by rfl) rfl
  · obtain rfl : x = l.length := by omega
    rw [List.drop_length] at hc
    rw [hc]
    exact Kv.Fin.still ⟨by simp [clOk], rfl⟩
theorem p117 (l : List Int) (n : Int) (hl : l.length ≤ 1048576) : Pure Try.prog 117 [.list (ints l), .int .i64 n] (.bool (clOk l 0 && decide ((l.length : Int) = n))) := by
  refine e117 (by simp) fun _ _ => ?_
  simp only [k117, argEnv, take6, List.drop_zero, Int.cast_ofNat_Int, go_sem, ↓reduceIte, Nat.reduceEqDiff, Nat.reduceAdd, Nat.reduceMul, Nat.reduceLeDiff, Nat.reduceLT, Int.reduceLE, Int.reduceLT, reduceCtorEq]
  refine (p136 l n hl).go ?_
  try simp only [take6, List.drop_zero, Int.cast_ofNat_Int, go_sem, ↓reduceIte, Nat.reduceEqDiff, Nat.reduceAdd, Nat.reduceMul, Nat.reduceLeDiff, Nat.reduceLT, Int.reduceLE, Int.reduceLT, reduceCtorEq]
  exact Kv.Fin.still ⟨rfl, rfl⟩
theorem p118 (l : List Int) (k : Int) (hl : l.length ≤ 1048576) : Pure Try.prog 118 [.list (ints l), .int .i64 k] (.int .i64 (idx (fun y => decide (k = y)) l)) := by
  refine e118 (by simp) fun _ _ => ?_
  simp only [k118, argEnv, take6, List.drop_zero, Int.cast_ofNat_Int, go_sem, ↓reduceIte, Nat.reduceEqDiff, Nat.reduceAdd, Nat.reduceMul, Nat.reduceLeDiff, Nat.reduceLT, Int.reduceLE, Int.reduceLT, reduceCtorEq]
  refine KL_ind k118_b0.eq_1 (fun x : Nat => [(0, .list (ints l)), (1, .int .i64 k), (7, .int .i64 l.length), (8, .int .i64 x)]) (fun _ => []) (fun x => x ≤ l.length ∧ (l.take x).any (fun y => decide (k = y)) = false) (fun x => l.length - x) [0, 1, 7, 8] 0 (by rfl) rfl ⟨Nat.zero_le _, by simp⟩ fun x ⟨hx, hall⟩ ih => ?_
  try simp only [take6, List.drop_zero, Int.cast_ofNat_Int, go_sem, ↓reduceIte, Nat.reduceEqDiff, Nat.reduceAdd, Nat.reduceMul, Nat.reduceLeDiff, Nat.reduceLT, Int.reduceLE, Int.reduceLT, reduceCtorEq]
  refine ⟨fun h1 => ⟨by omega, fun h2 => ?_⟩, fun h1 => ?_⟩
  · rw [getD_eq h2]
    refine ⟨fun h3 => ?_, fun h3 => ⟨by omega, ?_⟩⟩
    · exact Kv.Fin.still ⟨by rw [idx_some h2 hall (by simpa using h3)], rfl⟩
    · refine ih (x + 1) ⟨by omega, ?_⟩ (by omega) _ _ (by rfl) rfl
      rw [any_take_succ _ h2, hall, decide_eq_false h3]; rfl
  · obtain rfl : x = l.length := by omega
    rw [List.take_length] at hall
    exact Kv.Fin.still ⟨by rw [idx_none hall], rfl⟩
theorem idx_of {l : List Int} {p : Nat} (h : p < l.length) : ∃ q : Nat, idx (fun y => decide (l.getD p 0 = y)) l = q ∧ q < l.length ∧ l.getD q 0 = l.getD p 0 := by
  have ha : l.any (fun y => decide (l.getD p 0 = y)) = true := by
    rw [List.any_eq_true]
    exact ⟨l[p], List.getElem_mem h, by rw [getD_eq h]; simp⟩
  obtain ⟨q, hq, h1, h2⟩ := any_split ha
  refine ⟨q, idx_some hq h1 h2, hq, ?_⟩
  rw [getD_eq hq]
  exact (of_decide_eq_true h2).symm
/-- What a right list of maps is. -/
theorem lcode_maps {a : List (List Int)} (h6 : ∀ r ∈ a, r.length = 6) (h : lcode a [] = 0) : ∃ (fs : List (List Nat)) (n : Nat), a = fs.map mp ∧ (∀ f ∈ fs, Ok f n) ∧ 1 ≤ fs.length ∧ fs.length ≤ 6 ∧ (a.getD 0 []).getD 0 0 = n ∧ 1 ≤ n ∧ n ≤ 5 := by
  unfold lcode at h
  rw [List.append_nil] at h
  split at h
  · omega
  rename_i h1
  split at h
  · omega
  rename_i h2
  split at h
  · omega
  rename_i h3
  simp only [Bool.not_eq_false, List.all_eq_true, decide_eq_true_eq] at h1 h3
  have h2' : 1 ≤ a.length ∧ a.length ≤ 6 := by omega
  have h0 : 0 < a.length := by omega
  obtain ⟨f0, n, hf0, e0⟩ := isM_ok (h6 _ (List.getElem_mem h0)) (h1 _ (List.getElem_mem h0))
  have hn : (a.getD 0 []).getD 0 0 = n := by rw [getD_eq h0, e0, mp_get0, hf0.len]
  have key : ∀ r ∈ a, r = mp (um r) ∧ Ok (um r) n := fun r hr => by
    obtain ⟨f, n', hf, e⟩ := isM_ok (h6 r hr) (h1 r hr)
    have h4 := h3 r hr
    rw [hn, e, mp_get0, hf.len] at h4
    obtain rfl : n' = n := by omega
    rw [e, um_mp]
    exact ⟨rfl, hf⟩
  refine ⟨a.map um, n, ?_, ?_, by simpa using h2'.1, by simpa using h2'.2, hn, hf0.pos, hf0.le⟩
  · rw [List.map_map]
    conv => lhs; rw [← List.map_id a]
    exact List.map_congr_left fun r hr => by simpa using (key r hr).1
  · intro f hf
    obtain ⟨r, hr, rfl⟩ := List.mem_map.1 hf
    exact (key r hr).2
/-- A map keeps a partition. -/
def Iv (P : List Int) (f : List Nat) : Prop := ∀ a b, a < P.length → b < P.length → P.getD a 0 = P.getD b 0 → P.getD (f.getD a 0) 0 = P.getD (f.getD b 0) 0
noncomputable def iv (fs : List (List Nat)) (P : List Int) : Bool := @decide (∀ f ∈ fs, Iv P f) (Classical.propDecidable _)
theorem iv_true {fs : List (List Nat)} {P : List Int} (h : ∀ f ∈ fs, Iv P f) : iv fs P = true := by
  unfold iv; exact @decide_eq_true _ (Classical.propDecidable _) h
theorem iv_all {fs : List (List Nat)} {P : List Int} (h : iv fs P = true) : ∀ f ∈ fs, Iv P f := by
  unfold iv at h; exact @of_decide_eq_true _ (Classical.propDecidable _) h
theorem iv_false {fs : List (List Nat)} {P : List Int} {x : Nat} (h : x < fs.length) (h' : ¬ Iv P fs[x]) : iv fs P = false := by
  unfold iv; exact @decide_eq_false _ (Classical.propDecidable _) fun g => h' (g _ (List.getElem_mem h))
theorem take_mem_succ {fs : List (List Nat)} {x : Nat} {Q : List Nat → Prop} (h : x < fs.length) (h1 : ∀ f ∈ fs.take x, Q f) (h2 : Q fs[x]) : ∀ f ∈ fs.take (x + 1), Q f := fun f hf => by
  rw [List.take_succ_eq_append_getElem h, List.mem_append, List.mem_singleton] at hf
  rcases hf with hf | rfl
  · exact h1 f hf
  · exact h2
theorem map_getD {fs : List (List Nat)} {x : Nat} (h : x < fs.length) : (fs.map mp).getD x [] = mp fs[x] := by simp [List.getD_eq_getElem?_getD, h]
theorem p82 (fs : List (List Nat)) (n : Nat) (P : List Int) (hP : P.length = n) (h5 : n ≤ 5) (hf : ∀ f ∈ fs, Ok f n) (hl : fs.length ≤ 1048576) : Pure Try.prog 82 [.list (aggs (fs.map mp)), .list (ints P)] (.bool (iv fs P)) := by
  subst hP
  refine e82 (by simp) fun _ _ => ?_
  simp only [k82, argEnv, take6, List.drop_zero, Int.cast_ofNat_Int, go_sem, ↓reduceIte, Nat.reduceEqDiff, Nat.reduceAdd, Nat.reduceMul, Nat.reduceLeDiff, Nat.reduceLT, Int.reduceLE, Int.reduceLT, reduceCtorEq]
  refine KL_indD k82_b1.eq_1 (fun x : Nat => [(1, .list (ints P)), (10, .list (aggs (fs.map mp))), (11, .int .i64 fs.length), (12, .int .i64 x)]) (fun _ => []) (fun x => x ≤ fs.length ∧ ∀ f ∈ fs.take x, Iv P f) (fun x => fs.length - x) [1, 10, 11, 12] 0 (by simp [keep]) ⟨[], rfl⟩ ⟨Nat.zero_le _, by simp⟩ (fun x hx => ?_) fun x ⟨hx, hall⟩ ih => ?_
  · exact ⟨Nat.zero_le _, Env.undr_upto (by simp [Env.undr, PV.undr, undrX_ints, undrX_aggs]), .nil _⟩
  try simp only [List.length_map, take6, List.drop_zero, Int.cast_ofNat_Int, go_sem, ↓reduceIte, Nat.reduceEqDiff, Nat.reduceAdd, Nat.reduceMul, Nat.reduceLeDiff, Nat.reduceLT, Int.reduceLE, Int.reduceLT, reduceCtorEq]
  refine ⟨fun h1 => ⟨by omega, fun h2 => ?_⟩, fun h1 => ?_⟩
  · have hk := hf _ (List.getElem_mem h2)
    have h6 := hk.mp_len
    rw [map_getD h2]
    try simp only [h6, take6, List.drop_zero, Int.cast_ofNat_Int, go_sem, ↓reduceIte, Nat.reduceEqDiff, Nat.reduceAdd, Nat.reduceMul, Nat.reduceLeDiff, Nat.reduceLT, Int.reduceLE, Int.reduceLT, reduceCtorEq]
    refine KL_ind k82_b0.eq_1 (fun p : Nat => [(1, .list (ints P)), (6, .ptr 0 0), (10, .list (aggs (fs.map mp))), (11, .int .i64 fs.length), (12, .int .i64 x), (16, .list (ints P)), (17, .int .i64 P.length), (18, .int .i64 p)]) (fun _ => [.box (ints (mp fs[x]))]) (fun p => p ≤ P.length ∧ ∀ a, a < p → ∀ q : Nat, idx (fun y => decide (P.getD a 0 = y)) P = q → P.getD (fs[x].getD a 0) 0 = P.getD (fs[x].getD q 0) 0) (fun p => P.length - p) [1, 6, 10, 11, 12, 16, 17, 18] 0 (by rfl) rfl ⟨Nat.zero_le _, fun a ha => by omega⟩ fun p ⟨hp, hpa⟩ ihp => ?_
    try simp only [take6, List.drop_zero, Int.cast_ofNat_Int, go_sem, ↓reduceIte, Nat.reduceEqDiff, Nat.reduceAdd, Nat.reduceMul, Nat.reduceLeDiff, Nat.reduceLT, Int.reduceLE, Int.reduceLT, reduceCtorEq]
    refine ⟨fun h3 => ⟨by omega, fun h4 => ?_⟩, fun h3 => ?_⟩
    · refine (p118 P _ (by omega)).go ?_
      obtain ⟨q, hq, hql, hqe⟩ := idx_of h4
      rw [hq]
      have hg1 := hk.get' p
      have hg2 := hk.get' q
      try simp only [h6, hg1, hg2, take6, List.drop_zero, Int.cast_ofNat_Int, go_sem, ↓reduceIte, Nat.reduceEqDiff, Nat.reduceAdd, Nat.reduceMul, Nat.reduceLeDiff, Nat.reduceLT, Int.reduceLE, Int.reduceLT, reduceCtorEq]
      refine ⟨by omega, by omega, fun _ => ⟨by omega, by omega, by omega, fun _ => ⟨by omega, fun h7 => ?_, fun h7 => ⟨by omega, ?_⟩⟩⟩⟩
      · exact Kv.Fin.still ⟨by rw [iv_false h2 fun h => h7 (h p q h4 hql hqe.symm)], rfl⟩
      · refine ihp (p + 1) ⟨by omega, fun a ha q' hq' => ?_⟩ (by omega) _ _ (by rfl) rfl
        by_cases e : a = p
        · subst e
          rw [hq] at hq'
          obtain rfl : q = q' := by omega
          exact h7
        · exact hpa a (by omega) q' hq'
    · obtain rfl : p = P.length := by omega
      refine ⟨by omega, ?_⟩
      refine ih (x + 1) ⟨by omega, take_mem_succ h2 hall fun a b ha hb he => ?_⟩ (by omega) _ _ (by simp [keep]) ⟨[_], rfl⟩
      obtain ⟨q, hq, _, _⟩ := idx_of ha
      rw [hpa a ha q hq, hpa b hb q (by rw [← he]; exact hq)]
  · obtain rfl : x = fs.length := by omega
    rw [List.take_length] at hall
    exact Kv.Fin.still ⟨by rw [iv_true hall], rfl⟩
theorem p80 (fs : List (List Nat)) (n : Nat) (P : List Int) (hP : P.length = n) (h5 : n ≤ 5) (hf : ∀ f ∈ fs, Ok f n) (hl : fs.length ≤ 1048576) : Pure Try.prog 80 [.list (aggs (fs.map mp)), .list (ints P)] (.bool (iv fs P)) := by
  subst hP
  refine e80 (by simp) fun _ _ => ?_
  simp only [k80, argEnv, take6, List.drop_zero, Int.cast_ofNat_Int, go_sem, ↓reduceIte, Nat.reduceEqDiff, Nat.reduceAdd, Nat.reduceMul, Nat.reduceLeDiff, Nat.reduceLT, Int.reduceLE, Int.reduceLT, reduceCtorEq]
  refine KL_ind k80_b2.eq_1 (fun x : Nat => [(0, .list (aggs (fs.map mp))), (1, .list (ints P)), (5, .int .i64 x)]) (fun _ => []) (fun x => x ≤ fs.length ∧ ∀ f ∈ fs.take x, Iv P f) (fun x => fs.length - x) [0, 1, 5] 0 (by simp [keep]) rfl ⟨Nat.zero_le _, by simp⟩ fun x ⟨hx, hall⟩ ih => ?_
  try simp only [List.length_map, take6, List.drop_zero, Int.cast_ofNat_Int, go_sem, ↓reduceIte, Nat.reduceEqDiff, Nat.reduceAdd, Nat.reduceMul, Nat.reduceLeDiff, Nat.reduceLT, Int.reduceLE, Int.reduceLT, reduceCtorEq]
  refine ⟨fun h1 => ?_, fun h1 => ?_⟩
  · have h2 : x < fs.length := by omega
    have hk := hf _ (List.getElem_mem h2)
    have h6 := hk.mp_len
    refine KL_ind k80_b1.eq_1 (fun a : Nat => [(0, .list (aggs (fs.map mp))), (1, .list (ints P)), (5, .int .i64 x), (6, .int .i64 a)]) (fun _ => []) (fun a => a ≤ P.length ∧ ∀ c d, c < a → d < c → P.getD c 0 = P.getD d 0 → P.getD (fs[x].getD c 0) 0 = P.getD (fs[x].getD d 0) 0) (fun a => P.length - a) [0, 1, 5, 6] 0 (by simp [keep]) rfl ⟨Nat.zero_le _, fun c d hc => by omega⟩ fun a ⟨ha, hac⟩ iha => ?_
    try simp only [take6, List.drop_zero, Int.cast_ofNat_Int, go_sem, ↓reduceIte, Nat.reduceEqDiff, Nat.reduceAdd, Nat.reduceMul, Nat.reduceLeDiff, Nat.reduceLT, Int.reduceLE, Int.reduceLT, reduceCtorEq]
    refine ⟨fun h3 => ?_, fun h3 => ?_⟩
    · refine KL_ind k80_b0.eq_1 (fun b : Nat => [(0, .list (aggs (fs.map mp))), (1, .list (ints P)), (5, .int .i64 x), (6, .int .i64 a), (7, .int .i64 b)]) (fun _ => []) (fun b => b ≤ a ∧ ∀ d, d < b → P.getD a 0 = P.getD d 0 → P.getD (fs[x].getD a 0) 0 = P.getD (fs[x].getD d 0) 0) (fun b => a - b) [0, 1, 5, 6, 7] 0 (by simp [keep]) rfl ⟨Nat.zero_le _, fun d hd => by omega⟩ fun b ⟨hb, hbd⟩ ihb => ?_
      have hg1 := hk.get' a
      have hg2 := hk.get' b
      have h4 : a < P.length := by omega
      try simp only [h6, hg1, hg2, map_getD h2, List.length_map, take6, List.drop_zero, Int.cast_ofNat_Int, go_sem, ↓reduceIte, Nat.reduceEqDiff, Nat.reduceAdd, Nat.reduceMul, Nat.reduceLeDiff, Nat.reduceLT, Int.reduceLE, Int.reduceLT, reduceCtorEq]
      have hit : (P.getD a 0 = P.getD b 0 → P.getD (fs[x].getD a 0) 0 = P.getD (fs[x].getD b 0) 0) → ∀ d, d < b + 1 → P.getD a 0 = P.getD d 0 → P.getD (fs[x].getD a 0) 0 = P.getD (fs[x].getD d 0) 0 := fun h d hd => by
        by_cases e : d = b
        · rw [e]; exact h
        · exact hbd d (by omega)
      refine ⟨fun h5 => ⟨by omega, fun _ => ⟨by omega, fun h8 => ⟨fun h9 => ⟨by omega, fun _ => ⟨by omega, by omega, fun _ => ⟨by omega, by omega, fun _ => ⟨by omega, by omega, fun _ => ⟨by omega, fun h10 => ?_, fun h10 => ⟨by omega, ?_⟩⟩⟩⟩⟩⟩, fun h9 => ⟨by omega, ?_⟩⟩⟩⟩, fun h5 => ⟨by omega, ?_⟩⟩
      · exact Kv.Fin.still ⟨by rw [iv_false h2 fun h => h10 (h a b h4 h8 h9)], rfl⟩
      · exact ihb (b + 1) ⟨by omega, hit fun _ => h10⟩ (by omega) _ _ (by simp [keep]) rfl
      · exact ihb (b + 1) ⟨by omega, hit fun h => absurd h h9⟩ (by omega) _ _ (by simp [keep]) rfl
      · obtain rfl : b = a := by omega
        refine iha (b + 1) ⟨by omega, fun c d hc hd he => ?_⟩ (by omega) _ _ (by simp [keep]) rfl
        by_cases e : c = b
        · subst e; exact hbd d hd he
        · exact hac c d (by omega) hd he
    · obtain rfl : a = P.length := by omega
      refine ⟨by omega, ?_⟩
      refine ih (x + 1) ⟨by omega, take_mem_succ h2 hall fun c d hc hd he => ?_⟩ (by omega) _ _ (by simp [keep]) rfl
      rcases Nat.lt_trichotomy c d with h | h | h
      · exact (hac d c hd h he.symm).symm
      · rw [h]
      · exact hac c d hc h he
  · obtain rfl : x = fs.length := by omega
    rw [List.take_length] at hall
    exact Kv.Fin.still ⟨by rw [iv_true hall], rfl⟩
/-- What comes to pass: the code, or whether. -/
noncomputable def ivp (a : List (List Int)) (P : List Int) : Bool × Int :=
  if lcode a [] ≠ 0 then (false, lcode a []) else if (clOk P 0 && decide ((P.length : Int) = (a.getD 0 []).getD 0 0)) = false then (false, 2) else (iv (a.map um) P, 0)
theorem map_um (fs : List (List Nat)) : (fs.map mp).map um = fs := by
  rw [List.map_map]
  conv => rhs; rw [← List.map_id fs]
  exact List.map_congr_left fun f _ => um_mp f
theorem p46 (a : List (List Int)) (P : List Int) (ha : a.length ≤ 1048576) (h6 : ∀ r ∈ a, r.length = 6) (hP : P.length ≤ 1048576) : Pure Try.prog 46 [.list (aggs a), .list (ints P)] (.tup [.bool (ivp a P).1, .int .i64 (ivp a P).2]) := by
  refine e46 (by simp) fun _ _ => ?_
  simp only [k46, argEnv, take6, List.drop_zero, Int.cast_ofNat_Int, go_sem, ↓reduceIte, Nat.reduceEqDiff, Nat.reduceAdd, Nat.reduceMul, Nat.reduceLeDiff, Nat.reduceLT, Int.reduceLE, Int.reduceLT, reduceCtorEq]
  refine (p64 _ a [] .nil ha (by simp) h6 (by simp)).go ?_
  try simp only [take6, List.drop_zero, Int.cast_ofNat_Int, go_sem, ↓reduceIte, Nat.reduceEqDiff, Nat.reduceAdd, Nat.reduceMul, Nat.reduceLeDiff, Nat.reduceLT, Int.reduceLE, Int.reduceLT, reduceCtorEq]
  refine ⟨fun h1 => ?_, fun h1 => ?_⟩
  · exact Kv.Fin.still ⟨by simp [ivp, h1], rfl⟩
  · obtain ⟨fs, n, rfl, hf, hl1, hl2, hn, hn1, hn5⟩ := lcode_maps h6 h1
    have h0 : 0 < fs.length := by omega
    have hk := hf _ (List.getElem_mem h0)
    have h6k := hk.mp_len
    rw [map_getD h0] at hn
    try simp only [map_getD h0, h6k, hn, List.length_map, take6, List.drop_zero, Int.cast_ofNat_Int, go_sem, ↓reduceIte, Nat.reduceEqDiff, Nat.reduceAdd, Nat.reduceMul, Nat.reduceLeDiff, Nat.reduceLT, Int.reduceLE, Int.reduceLT, reduceCtorEq]
    refine ⟨by omega, fun _ => ?_⟩
    refine (p81 P _ hP).go ?_
    have hv : ivp (fs.map mp) P = if (clOk P 0 && decide ((P.length : Int) = n)) = false then (false, 2) else (iv fs P, 0) := by
      unfold ivp; rw [if_neg (by simp [h1]), map_um, map_getD h0, hn]
    cases hc : (clOk P 0 && decide ((P.length : Int) = n)) with
    | false =>
      try simp only [take6, List.drop_zero, Int.cast_ofNat_Int, go_sem, ↓reduceIte, Nat.reduceEqDiff, Nat.reduceAdd, Nat.reduceMul, Nat.reduceLeDiff, Nat.reduceLT, Int.reduceLE, Int.reduceLT, reduceCtorEq]
      exact Kv.Fin.still ⟨by rw [hv, hc]; rfl, rfl⟩
    | true =>
      have hPn : P.length = n := by
        simp only [Bool.and_eq_true, decide_eq_true_eq] at hc; omega
      try simp only [take6, List.drop_zero, Int.cast_ofNat_Int, go_sem, ↓reduceIte, Nat.reduceEqDiff, Nat.reduceAdd, Nat.reduceMul, Nat.reduceLeDiff, Nat.reduceLT, Int.reduceLE, Int.reduceLT, reduceCtorEq]
      refine (p82 fs n P hPn hn5 hf (by omega)).go ?_
      try simp only [take6, List.drop_zero, Int.cast_ofNat_Int, go_sem, ↓reduceIte, Nat.reduceEqDiff, Nat.reduceAdd, Nat.reduceMul, Nat.reduceLeDiff, Nat.reduceLT, Int.reduceLE, Int.reduceLT, reduceCtorEq]
      exact Kv.Fin.still ⟨by rw [hv, hc]; rfl, rfl⟩
/-- The code of a list and a partition. -/
def pgc (a : List (List Int)) (P : List Int) : Int :=
  if lcode a [] ≠ 0 then lcode a [] else if (clOk P 0 && decide ((P.length : Int) = (a.getD 0 []).getD 0 0)) = false then 2 else 0
theorem pgc_zero {a : List (List Int)} {P : List Int} (h : pgc a P = 0) : lcode a [] = 0 ∧ (clOk P 0 && decide ((P.length : Int) = (a.getD 0 []).getD 0 0)) = true := by
  unfold pgc at h
  by_cases h1 : lcode a [] = 0
  · rw [if_neg (by simp [h1])] at h
    refine ⟨h1, ?_⟩
    cases h2 : (clOk P 0 && decide ((P.length : Int) = (a.getD 0 []).getD 0 0)) with
    | true => rfl
    | false => rw [h2] at h; simp at h
  · rw [if_pos h1] at h; exact absurd h h1
theorem p79 (a : List (List Int)) (P : List Int) (ha : a.length ≤ 1048576) (h6 : ∀ r ∈ a, r.length = 6) (hP : P.length ≤ 1048576) : Pure Try.prog 79 [.list (aggs a), .list (ints P)] (.int .i64 (pgc a P)) := by
  refine e79 (by simp) fun _ _ => ?_
  simp only [k79, argEnv, take6, List.drop_zero, Int.cast_ofNat_Int, go_sem, ↓reduceIte, Nat.reduceEqDiff, Nat.reduceAdd, Nat.reduceMul, Nat.reduceLeDiff, Nat.reduceLT, Int.reduceLE, Int.reduceLT, reduceCtorEq]
  refine (p63n a ha h6).go ?_
  try simp only [take6, List.drop_zero, Int.cast_ofNat_Int, go_sem, ↓reduceIte, Nat.reduceEqDiff, Nat.reduceAdd, Nat.reduceMul, Nat.reduceLeDiff, Nat.reduceLT, Int.reduceLE, Int.reduceLT, reduceCtorEq]
  refine ⟨fun h1 => ?_, fun h1 => ?_⟩
  · obtain ⟨fs, n, rfl, hf, hl1, hl2, hn, hn1, hn5⟩ := lcode_maps h6 h1
    have h0 : 0 < fs.length := by omega
    have hk := hf _ (List.getElem_mem h0)
    have h6k := hk.mp_len
    have hv : pgc (fs.map mp) P = if (clOk P 0 && decide ((P.length : Int) = n)) = false then 2 else 0 := by
      unfold pgc; rw [if_neg (by simp [h1]), hn]
    rw [map_getD h0] at hn
    try simp only [map_getD h0, h6k, hn, List.length_map, take6, List.drop_zero, Int.cast_ofNat_Int, go_sem, ↓reduceIte, Nat.reduceEqDiff, Nat.reduceAdd, Nat.reduceMul, Nat.reduceLeDiff, Nat.reduceLT, Int.reduceLE, Int.reduceLT, reduceCtorEq]
    refine ⟨by omega, fun _ => ?_⟩
    refine (p117 P _ hP).go ?_
    cases hc : (clOk P 0 && decide ((P.length : Int) = n)) with
    | false =>
      try simp only [take6, List.drop_zero, Int.cast_ofNat_Int, go_sem, ↓reduceIte, Nat.reduceEqDiff, Nat.reduceAdd, Nat.reduceMul, Nat.reduceLeDiff, Nat.reduceLT, Int.reduceLE, Int.reduceLT, reduceCtorEq]
      exact Kv.Fin.still ⟨by rw [hv, hc]; rfl, rfl⟩
    | true =>
      try simp only [h1, take6, List.drop_zero, Int.cast_ofNat_Int, go_sem, ↓reduceIte, Nat.reduceEqDiff, Nat.reduceAdd, Nat.reduceMul, Nat.reduceLeDiff, Nat.reduceLT, Int.reduceLE, Int.reduceLT, reduceCtorEq]
      exact Kv.Fin.still ⟨by rw [hv, hc]; simp, rfl⟩
  · exact Kv.Fin.still ⟨by simp [pgc, h1], rfl⟩
theorem p44 (a : List (List Int)) (P : List Int) (ha : a.length ≤ 1048576) (h6 : ∀ r ∈ a, r.length = 6) (hP : P.length ≤ 1048576) : Pure Try.prog 44 [.list (aggs a), .list (ints P)] (.tup [.bool (ivp a P).1, .int .i64 (ivp a P).2]) := by
  refine e44 (by simp) fun _ _ => ?_
  simp only [k44, argEnv, take6, List.drop_zero, Int.cast_ofNat_Int, go_sem, ↓reduceIte, Nat.reduceEqDiff, Nat.reduceAdd, Nat.reduceMul, Nat.reduceLeDiff, Nat.reduceLT, Int.reduceLE, Int.reduceLT, reduceCtorEq]
  refine (p79 a P ha h6 hP).go ?_
  try simp only [take6, List.drop_zero, Int.cast_ofNat_Int, go_sem, ↓reduceIte, Nat.reduceEqDiff, Nat.reduceAdd, Nat.reduceMul, Nat.reduceLeDiff, Nat.reduceLT, Int.reduceLE, Int.reduceLT, reduceCtorEq]
  have hv : ivp a P = if pgc a P ≠ 0 then (false, pgc a P) else (iv (a.map um) P, 0) := by
    unfold ivp pgc
    generalize (clOk P 0 && decide ((P.length : Int) = (a.getD 0 []).getD 0 0)) = b
    by_cases h1 : lcode a [] = 0
    · simp only [h1, ne_eq, not_true_eq_false, if_false]
      cases b <;> simp
    · simp only [ne_eq, h1, not_false_eq_true, if_true]
  refine ⟨fun h1 => ?_, fun h1 => ?_⟩
  · exact Kv.Fin.still ⟨by rw [hv, if_pos h1], rfl⟩
  · obtain ⟨h2, h3⟩ := pgc_zero h1
    obtain ⟨fs, n, rfl, hf, hl1, hl2, hn, hn1, hn5⟩ := lcode_maps h6 h2
    rw [hn] at h3
    have hPn : P.length = n := by
      simp only [Bool.and_eq_true, decide_eq_true_eq] at h3; omega
    refine (p80 fs n P hPn hn5 hf (by omega)).go ?_
    try simp only [take6, List.drop_zero, Int.cast_ofNat_Int, go_sem, ↓reduceIte, Nat.reduceEqDiff, Nat.reduceAdd, Nat.reduceMul, Nat.reduceLeDiff, Nat.reduceLT, Int.reduceLE, Int.reduceLT, reduceCtorEq]
    exact Kv.Fin.still ⟨by rw [hv, if_neg (by simp [h1]), map_um], rfl⟩
end Go.Proofs.Ytkljidghocnllaa
