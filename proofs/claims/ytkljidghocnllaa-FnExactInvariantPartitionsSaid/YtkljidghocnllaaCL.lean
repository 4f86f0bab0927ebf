/- The list of maps of the classes of an invariant partition: both sides. -/
import Derived.Test.YtkljidghocnllaaCb
import Derived.Test.YtkljidghocnllaaIV
import Derived.Test.YtkljidghocnllaaLB
namespace Go.Proofs.Ytkljidghocnllaa
open Go.Kv
set_option maxRecDepth 100000
/- impl.many -/
def k89 : KC := (.seq (.ops [⟨(some 2), none, .mv (.c (.int .i64 0))⟩])
  (.seq (.ops [⟨(some 3), none, .mv (.t 0)⟩, ⟨(some 4), none, .call (.c (.fn (.func 121) [] [])) [(.t 3)]⟩, ⟨(some 5), none, .bin .add (.t 4) (.c (.int .i64 1))⟩, ⟨(some 2), none, .mv (.t 5)⟩])
  .ret))
theorem e89 {args : List PV} {σ : Heap} {K : PV → Heap → Prop} (hl : args.length ≤ 6) (h : Wf σ → (∀ a ∈ args, PV.upto σ.length a) → vc (mkCfg Try.prog mixed [] 6 σ.length) k89 (FinK σ.length [.t 2] K) (argEnv 0 args) σ) : ACall Try.prog 89 args σ K :=
  ACall_enter (C := mkCfg Try.prog mixed [] 6 σ.length) (c := Try.f89.body.getD .skip) Try.func89 (by kernel_rfl) (by kernel_rfl) (by kernel_rfl) rfl hl (by kernel_rfl) (by kernel_rfl) h
/- spec.l06Number -/
/- live [0, 3, 4] -/
def k88_b0 : KC := (.seq (.seq (.ops [⟨(some 5), none, .mv (.t 4)⟩, ⟨(some 6), none, .mv (.t 0)⟩, ⟨(some 7), none, .len false (.t 6)⟩, ⟨(some 8), none, .bin .lss (.t 5) (.t 7)⟩])
  (.cond (.t 8) .skip (.exit 0)))
  (.seq (.block 1 (.ops [⟨(some 11), none, .mv (.t 3)⟩, ⟨(some 12), none, .mv (.t 0)⟩, ⟨(some 13), none, .mv (.t 4)⟩, ⟨(some 14), none, .idxS 1 (.t 12) (.t 13)⟩, ⟨(some 15), none, .load false 1 (.t 14)⟩, ⟨(some 16), none, .mnmx true (.t 11) [(.t 15)]⟩, ⟨(some 3), none, .mv (.t 16)⟩]))
  (.ops [⟨(some 9), none, .mv (.t 4)⟩, ⟨(some 10), none, .bin .add (.t 9) (.c (.int .i64 1))⟩, ⟨(some 4), none, .mv (.t 10)⟩])))
def k88 : KC := (.seq (.ops [⟨(some 2), none, .mv (.c (.int .i64 0))⟩])
  (.seq (.ops [⟨(some 3), none, .mv (.c (.int .i64 (-1)))⟩])
  (.seq (.seq (.ops [⟨(some 4), none, .mv (.c (.int .i64 0))⟩])
  (.block 0 (.loop k88_b0)))
  (.seq (.ops [⟨(some 17), none, .mv (.t 3)⟩, ⟨(some 18), none, .bin .add (.t 17) (.c (.int .i64 1))⟩, ⟨(some 2), none, .mv (.t 18)⟩])
  .ret))))
theorem e88 {args : List PV} {σ : Heap} {K : PV → Heap → Prop} (hl : args.length ≤ 19) (h : Wf σ → (∀ a ∈ args, PV.upto σ.length a) → vc (mkCfg Try.prog mixed [] 19 σ.length) k88 (FinK σ.length [.t 2] K) (argEnv 0 args) σ) : ACall Try.prog 88 args σ K :=
  ACall_enter (C := mkCfg Try.prog mixed [] 19 σ.length) (c := Try.f88.body.getD .skip) Try.func88 (by kernel_rfl) (by kernel_rfl) (by kernel_rfl) rfl hl (by kernel_rfl) (by kernel_rfl) h
/- spec.l01Made -/
/- live [0, 2, 3, 4] -/
def k84_b0 : KC := (.seq (.seq (.ops [⟨(some 8), none, .mv (.t 4)⟩, ⟨(some 9), none, .mv (.t 0)⟩, ⟨(some 10), none, .len false (.t 9)⟩, ⟨(some 11), none, .bin .lss (.t 8) (.t 10)⟩])
  (.cond (.t 11) .skip (.exit 0)))
  (.seq (.block 1 (.ops [⟨(some 14), none, .mv (.t 4)⟩, ⟨(some 15), none, .mv (.t 0)⟩, ⟨(some 16), none, .mv (.t 4)⟩, ⟨(some 17), none, .idxS 1 (.t 15) (.t 16)⟩, ⟨(some 18), none, .load false 1 (.t 17)⟩, ⟨(some 19), none, .fieldA 1 (.t 3)⟩, ⟨(some 20), none, .idxA 5 1 (.t 19) (.t 14)⟩, ⟨none, none, .store 1 (.t 20) (.t 18)⟩]))
  (.ops [⟨(some 12), none, .mv (.t 4)⟩, ⟨(some 13), none, .bin .add (.t 12) (.c (.int .i64 1))⟩, ⟨(some 4), none, .mv (.t 13)⟩])))
def k84 : KC := (.seq (.ops [⟨(some 2), none, .alloc [.int .i64 0, .int .i64 0, .int .i64 0, .int .i64 0, .int .i64 0, .int .i64 0]⟩])
  (.seq (.ops [⟨(some 5), none, .mv (.t 0)⟩, ⟨(some 6), none, .len false (.t 5)⟩, ⟨(some 7), none, .build [.int .i64 0, .int .i64 0, .int .i64 0, .int .i64 0, .int .i64 0, .int .i64 0] [(0, 1, (.t 6))]⟩, ⟨(some 3), none, .alloc [.int .i64 0, .int .i64 0, .int .i64 0, .int .i64 0, .int .i64 0, .int .i64 0]⟩, ⟨none, none, .store 6 (.t 3) (.t 7)⟩])
  (.seq (.seq (.ops [⟨(some 4), none, .mv (.c (.int .i64 0))⟩])
  (.block 0 (.loop k84_b0)))
  (.seq (.ops [⟨(some 21), none, .load true 6 (.t 3)⟩, ⟨none, none, .store 6 (.t 2) (.t 21)⟩])
  .ret))))
theorem e84 {args : List PV} {σ : Heap} {K : PV → Heap → Prop} (hl : args.length ≤ 22) (h : Wf σ → (∀ a ∈ args, PV.upto σ.length a) → vc (mkCfg Try.prog mixed [] 22 σ.length) k84 (FinK σ.length [.cell 2 true 6] K) (argEnv 0 args) σ) : ACall Try.prog 84 args σ K :=
  ACall_enter (C := mkCfg Try.prog mixed [] 22 σ.length) (c := Try.f84.body.getD .skip) Try.func84 (by kernel_rfl) (by kernel_rfl) (by kernel_rfl) rfl hl (by kernel_rfl) (by kernel_rfl) h
/- slices.Max[[]int64,int64] -/
/- live [0, 3, 4] -/
def k121_b0 : KC := (.seq (.seq (.ops [⟨(some 12), none, .mv (.t 4)⟩, ⟨(some 13), none, .mv (.t 0)⟩, ⟨(some 14), none, .len false (.t 13)⟩, ⟨(some 15), none, .bin .lss (.t 12) (.t 14)⟩])
  (.cond (.t 15) .skip (.exit 0)))
  (.seq (.block 1 (.ops [⟨(some 18), none, .mv (.t 3)⟩, ⟨(some 19), none, .mv (.t 0)⟩, ⟨(some 20), none, .mv (.t 4)⟩, ⟨(some 21), none, .idxS 1 (.t 19) (.t 20)⟩, ⟨(some 22), none, .load false 1 (.t 21)⟩, ⟨(some 23), none, .mnmx true (.t 18) [(.t 22)]⟩, ⟨(some 3), none, .mv (.t 23)⟩]))
  (.ops [⟨(some 16), none, .mv (.t 4)⟩, ⟨(some 17), none, .bin .add (.t 16) (.c (.int .i64 1))⟩, ⟨(some 4), none, .mv (.t 17)⟩])))
def k121 : KC := (.seq (.ops [⟨(some 2), none, .mv (.c (.int .i64 0))⟩])
  (.seq (.seq (.ops [⟨(some 5), none, .mv (.t 0)⟩, ⟨(some 6), none, .len false (.t 5)⟩, ⟨(some 7), none, .bin .lss (.t 6) (.c (.int .i64 1))⟩])
  (.cond (.t 7) (.ops [⟨(some 8), none, .bad⟩, ⟨none, none, .bad⟩]) .skip))
  (.seq (.ops [⟨(some 9), none, .mv (.t 0)⟩, ⟨(some 10), none, .idxS 1 (.t 9) (.c (.int .i64 0))⟩, ⟨(some 11), none, .load false 1 (.t 10)⟩, ⟨(some 3), none, .mv (.t 11)⟩])
  (.seq (.seq (.ops [⟨(some 4), none, .mv (.c (.int .i64 1))⟩])
  (.block 0 (.loop k121_b0)))
  (.seq (.ops [⟨(some 24), none, .mv (.t 3)⟩, ⟨(some 2), none, .mv (.t 24)⟩])
  .ret)))))
theorem e121 {args : List PV} {σ : Heap} {K : PV → Heap → Prop} (hl : args.length ≤ 25) (h : Wf σ → (∀ a ∈ args, PV.upto σ.length a) → vc (mkCfg Try.prog mixed [] 25 σ.length) k121 (FinK σ.length [.t 2] K) (argEnv 0 args) σ) : ACall Try.prog 121 args σ K :=
  ACall_enter (C := mkCfg Try.prog mixed [] 25 σ.length) (c := Try.f121.body.getD .skip) Try.func121 (by kernel_rfl) (by kernel_rfl) (by kernel_rfl) rfl hl (by kernel_rfl) (by kernel_rfl) h
/- impl.ListOfClasses -/
/- live [1, 8, 10, 11, 27, 28, 29, 36, 37, 38] -/
def k50_b0 : KC := (.seq (.ops [⟨(some 39), none, .bin .lss (.t 38) (.t 37)⟩])
  (.seq (.cond (.t 39) .skip (.exit 3))
  (.seq (.block 4 (.seq (.ops [⟨(some 40), none, .mv (.t 38)⟩, ⟨(some 41), none, .idxS 1 (.t 36) (.t 38)⟩, ⟨(some 42), none, .load false 1 (.t 41)⟩, ⟨(some 12), none, .mv (.t 40)⟩, ⟨(some 13), none, .mv (.t 42)⟩])
  (.ops [⟨(some 43), none, .mv (.t 13)⟩, ⟨(some 44), none, .mv (.t 1)⟩, ⟨(some 45), none, .mv (.t 12)⟩, ⟨(some 46), none, .fieldA 1 (.t 10)⟩, ⟨(some 47), none, .idxA 5 1 (.t 46) (.t 45)⟩, ⟨(some 48), none, .load false 1 (.t 47)⟩, ⟨(some 49), none, .idxS 1 (.t 44) (.t 48)⟩, ⟨(some 50), none, .load false 1 (.t 49)⟩, ⟨(some 51), none, .fieldA 1 (.t 11)⟩, ⟨(some 52), none, .idxA 5 1 (.t 51) (.t 43)⟩, ⟨none, none, .store 1 (.t 52) (.t 50)⟩])))
  (.ops [⟨(some 53), none, .bin .add (.t 38) (.c (.int .i64 1))⟩, ⟨(some 38), none, .mv (.t 53)⟩]))))
/- live [1, 8, 27, 28, 29] -/
def k50_b1 : KC := (.seq (.ops [⟨(some 30), none, .bin .lss (.t 29) (.t 28)⟩])
  (.seq (.cond (.t 30) .skip (.exit 1))
  (.seq (.block 2 (.seq (.ops [⟨(some 31), none, .idxS 6 (.t 27) (.t 29)⟩, ⟨(some 32), none, .load true 6 (.t 31)⟩, ⟨(some 10), none, .alloc [.int .i64 0, .int .i64 0, .int .i64 0, .int .i64 0, .int .i64 0, .int .i64 0]⟩, ⟨none, none, .store 6 (.t 10) (.t 32)⟩])
  (.seq (.ops [⟨(some 33), none, .mv (.t 1)⟩, ⟨(some 34), none, .call (.c (.fn (.func 89) [] [])) [(.t 33)]⟩, ⟨(some 35), none, .build [.int .i64 0, .int .i64 0, .int .i64 0, .int .i64 0, .int .i64 0, .int .i64 0] [(0, 1, (.t 34))]⟩, ⟨(some 11), none, .alloc [.int .i64 0, .int .i64 0, .int .i64 0, .int .i64 0, .int .i64 0, .int .i64 0]⟩, ⟨none, none, .store 6 (.t 11) (.t 35)⟩])
  (.seq (.seq (.ops [⟨(some 36), none, .mv (.t 1)⟩, ⟨(some 37), none, .len false (.t 36)⟩, ⟨(some 38), none, .mv (.c (.int .i64 0))⟩])
  (.block 3 (.loop k50_b0)))
  (.ops [⟨(some 54), none, .mv (.t 8)⟩, ⟨(some 55), none, .load true 6 (.t 11)⟩, ⟨(some 56), none, .bsl true 27 6 [(.t 55)]⟩, ⟨(some 57), none, .app (.t 54) (.t 56) 27 6⟩, ⟨(some 8), none, .mv (.t 57)⟩])))))
  (.ops [⟨(some 58), none, .bin .add (.t 29) (.c (.int .i64 1))⟩, ⟨(some 29), none, .mv (.t 58)⟩]))))
def k50 : KC := (.seq (.ops [⟨(some 4), none, .mv (.c (.nils))⟩, ⟨(some 5), none, .mv (.c (.int .i64 0))⟩])
  (.seq (.ops [⟨(some 15), none, .mv (.t 0)⟩, ⟨(some 16), none, .mv (.t 1)⟩, ⟨(some 17), none, .call (.c (.fn (.func 46) [] [])) [(.t 15), (.t 16)]⟩, ⟨(some 14), none, .mv (.t 17)⟩, ⟨(some 18), none, .extr 0 (.t 14)⟩, ⟨(some 19), none, .extr 1 (.t 14)⟩, ⟨(some 6), none, .mv (.t 18)⟩, ⟨(some 7), none, .mv (.t 19)⟩])
  (.seq (.block 0 (.seq (.ops [⟨(some 21), none, .mv (.t 7)⟩, ⟨(some 22), none, .bin .neq (.t 21) (.c (.int .i64 0))⟩, ⟨(some 20), none, .mv (.t 22)⟩])
  (.cond (.t 20) (.seq (.ops [⟨(some 23), none, .mv (.t 7)⟩, ⟨(some 4), none, .mv (.c (.nils))⟩, ⟨(some 5), none, .mv (.t 23)⟩])
  .ret) (.seq (.ops [⟨(some 25), none, .mv (.t 6)⟩, ⟨(some 26), none, .not (.t 25)⟩, ⟨(some 24), none, .mv (.t 26)⟩])
  (.cond (.t 24) (.seq (.ops [⟨(some 4), none, .mv (.c (.nils))⟩, ⟨(some 5), none, .mv (.c (.int .i64 5))⟩])
  .ret) .skip)))))
  (.seq (.ops [⟨(some 8), none, .mv (.c (.nils))⟩])
  (.seq (.seq (.ops [⟨(some 27), none, .mv (.t 0)⟩, ⟨(some 28), none, .len false (.t 27)⟩, ⟨(some 29), none, .mv (.c (.int .i64 0))⟩])
  (.block 1 (.loop k50_b1)))
  (.seq (.ops [⟨(some 59), none, .mv (.t 8)⟩, ⟨(some 4), none, .mv (.t 59)⟩, ⟨(some 5), none, .mv (.c (.int .i64 0))⟩])
  .ret))))))
theorem e50 {args : List PV} {σ : Heap} {K : PV → Heap → Prop} (hl : args.length ≤ 60) (h : Wf σ → (∀ a ∈ args, PV.upto σ.length a) → vc (mkCfg Try.prog mixed [56] 60 σ.length) k50 (FinK σ.length [.t 4, .t 5] K) (argEnv 0 args) σ) : ACall Try.prog 50 args σ K :=
  ACall_enter (C := mkCfg Try.prog mixed [56] 60 σ.length) (c := Try.f50.body.getD .skip) Try.func50 (by kernel_rfl) (by kernel_rfl) (by kernel_rfl) rfl hl (by kernel_rfl) (by kernel_rfl) h
/- spec.ListOfClasses -/
/- live [0, 1, 7, 8, 9, 10, 11] -/
def k49_b0 : KC := (.seq (.seq (.ops [⟨(some 37), none, .mv (.t 11)⟩, ⟨(some 38), none, .mv (.t 1)⟩, ⟨(some 39), none, .len false (.t 38)⟩, ⟨(some 40), none, .bin .lss (.t 37) (.t 39)⟩])
  (.cond (.t 40) .skip (.exit 2)))
  (.seq (.block 3 (.draw [⟨(some 43), none, .mv (.t 10)⟩, ⟨(some 44), none, .mv (.t 1)⟩, ⟨(some 45), none, .mv (.t 11)⟩, ⟨(some 46), none, .idxS 1 (.t 44) (.t 45)⟩, ⟨(some 47), none, .load false 1 (.t 46)⟩, ⟨(some 48), none, .mv (.t 1)⟩, ⟨(some 49), none, .mv (.t 0)⟩, ⟨(some 50), none, .mv (.t 9)⟩, ⟨(some 51), none, .mv (.t 11)⟩, ⟨(some 52), none, .idxS 6 (.t 49) (.t 50)⟩, ⟨(some 53), none, .fieldA 1 (.t 52)⟩, ⟨(some 54), none, .idxA 5 1 (.t 53) (.t 51)⟩, ⟨(some 55), none, .load false 1 (.t 54)⟩, ⟨(some 56), none, .idxS 1 (.t 48) (.t 55)⟩, ⟨(some 57), none, .load false 1 (.t 56)⟩, ⟨(some 58), none, .idxS 1 (.t 43) (.t 47)⟩, ⟨none, none, .store 1 (.t 58) (.t 57)⟩]))
  (.ops [⟨(some 41), none, .mv (.t 11)⟩, ⟨(some 42), none, .bin .add (.t 41) (.c (.int .i64 1))⟩, ⟨(some 11), none, .mv (.t 42)⟩])))
/- live [0, 1, 7, 8, 9] -/
def k49_b1 : KC := (.seq (.seq (.ops [⟨(some 29), none, .mv (.t 9)⟩, ⟨(some 30), none, .mv (.t 0)⟩, ⟨(some 31), none, .len false (.t 30)⟩, ⟨(some 32), none, .bin .lss (.t 29) (.t 31)⟩])
  (.cond (.t 32) .skip (.exit 0)))
  (.seq (.block 1 (.seq (.ops [⟨(some 35), none, .mv (.t 7)⟩, ⟨(some 36), none, .mks 2 1 (.int .i64 0) (.t 35) (.t 35)⟩, ⟨(some 10), none, .mv (.t 36)⟩])
  (.seq (.seq (.ops [⟨(some 11), none, .mv (.c (.int .i64 0))⟩])
  (.block 2 (.loop k49_b0)))
  (.ops [⟨(some 59), none, .mv (.t 8)⟩, ⟨(some 60), none, .mv (.t 10)⟩, ⟨(some 61), none, .call (.c (.fn (.func 84) [] [])) [(.t 60)]⟩, ⟨(some 62), none, .bsl true 27 6 [(.t 61)]⟩, ⟨(some 63), none, .app (.t 59) (.t 62) 27 6⟩, ⟨(some 8), none, .mv (.t 63)⟩]))))
  (.ops [⟨(some 33), none, .mv (.t 9)⟩, ⟨(some 34), none, .bin .add (.t 33) (.c (.int .i64 1))⟩, ⟨(some 9), none, .mv (.t 34)⟩])))
def k49 : KC := (.seq (.ops [⟨(some 4), none, .mv (.c (.nils))⟩, ⟨(some 5), none, .mv (.c (.int .i64 0))⟩])
  (.seq (.ops [⟨(some 12), none, .mv (.t 0)⟩, ⟨(some 13), none, .mv (.t 1)⟩, ⟨(some 14), none, .call (.c (.fn (.func 79) [] [])) [(.t 12), (.t 13)]⟩, ⟨(some 6), none, .mv (.t 14)⟩])
  (.seq (.seq (.ops [⟨(some 15), none, .mv (.t 6)⟩, ⟨(some 16), none, .bin .eql (.t 15) (.c (.int .i64 0))⟩, ⟨(some 17), none, .mv (.t 16)⟩, ⟨(some 18), some (17, true), .mv (.t 0)⟩, ⟨(some 19), some (17, true), .mv (.t 1)⟩, ⟨(some 20), some (17, true), .call (.c (.fn (.func 80) [] [])) [(.t 18), (.t 19)]⟩, ⟨(some 21), some (17, true), .not (.t 20)⟩, ⟨(some 22), none, .pick (.t 17) (.t 21) (.c (.bool false))⟩])
  (.cond (.t 22) (.ops [⟨(some 6), none, .mv (.c (.int .i64 5))⟩]) .skip))
  (.seq (.seq (.ops [⟨(some 23), none, .mv (.t 6)⟩, ⟨(some 24), none, .bin .neq (.t 23) (.c (.int .i64 0))⟩])
  (.cond (.t 24) (.seq (.ops [⟨(some 25), none, .mv (.t 6)⟩, ⟨(some 4), none, .mv (.c (.nils))⟩, ⟨(some 5), none, .mv (.t 25)⟩])
  .ret) .skip))
  (.seq (.ops [⟨(some 26), none, .mv (.t 1)⟩, ⟨(some 27), none, .call (.c (.fn (.func 88) [] [])) [(.t 26)]⟩, ⟨(some 28), none, .bsl false 27 6 []⟩, ⟨(some 7), none, .mv (.t 27)⟩, ⟨(some 8), none, .mv (.t 28)⟩])
  (.seq (.seq (.ops [⟨(some 9), none, .mv (.c (.int .i64 0))⟩])
  (.block 0 (.loop k49_b1)))
  (.seq (.ops [⟨(some 64), none, .mv (.t 8)⟩, ⟨(some 4), none, .mv (.t 64)⟩, ⟨(some 5), none, .mv (.c (.int .i64 0))⟩])
  .ret)))))))
theorem e49 {args : List PV} {σ : Heap} {K : PV → Heap → Prop} (hl : args.length ≤ 65) (h : Wf σ → (∀ a ∈ args, PV.upto σ.length a) → vc (mkCfg Try.prog mixed [62] 65 σ.length) k49 (FinK σ.length [.t 4, .t 5] K) (argEnv 0 args) σ) : ACall Try.prog 49 args σ K :=
  ACall_enter (C := mkCfg Try.prog mixed [62] 65 σ.length) (c := Try.f49.body.getD .skip) Try.func49 (by kernel_rfl) (by kernel_rfl) (by kernel_rfl) rfl hl (by kernel_rfl) (by kernel_rfl) h
end Go.Proofs.Ytkljidghocnllaa
namespace Go.Proofs.Ytkljidghocnllaa
open Go.Kv
set_option linter.unusedVariables false
set_option linter.unusedSimpArgs false
attribute [local irreducible] ACall PCall KL
theorem clOk_bounds : ∀ (l : List Int) (v : Int), 0 ≤ v → clOk l v = true → ∀ k ∈ l, 0 ≤ k ∧ k < v + l.length
  | [], _, _, _, k, hk => by simp at hk
  | a :: r, v, hv, h, k, hk => by
    simp only [clOk, Bool.and_eq_true, decide_eq_true_eq] at h
    simp only [List.length_cons]
    rcases List.mem_cons.1 hk with rfl | hk
    · omega
    · by_cases e : a = v
      · rw [if_pos e] at h
        have := clOk_bounds r (v + 1) (by omega) h.2 k hk; omega
      · rw [if_neg e] at h
        have := clOk_bounds r v hv h.2 k hk; omega
/-- The greatest of numbers. -/
def mxl (P : List Int) : Int := P.foldl max (-1)
theorem mxl_snoc (P : List Int) (k : Int) : mxl (P ++ [k]) = max (mxl P) k := by simp [mxl]
theorem foldl_max_ge : ∀ (P : List Int) (v : Int), v ≤ P.foldl max v ∧ ∀ k ∈ P, k ≤ P.foldl max v
  | [], v => ⟨Int.le_refl _, by simp⟩
  | a :: r, v => by
    obtain ⟨h1, h2⟩ := foldl_max_ge r (max v a)
    simp only [List.foldl_cons]
    refine ⟨by omega, fun k hk => ?_⟩
    rcases List.mem_cons.1 hk with rfl | hk
    · omega
    · exact h2 k hk
theorem mxl_le {P : List Int} {b : Int} (h : ∀ k ∈ P, k ≤ b) (h0 : -1 ≤ b) : mxl P ≤ b := by
  have : ∀ (P : List Int) (v : Int), v ≤ b → (∀ k ∈ P, k ≤ b) → P.foldl max v ≤ b := fun P => by
    induction P with
    | nil => intro v h _; exact h
    | cons a r ih => intro v hv hr; exact ih _ (by have := hr a (by simp); omega) fun k hk => hr k (by simp [hk])
  exact this P _ h0 h
theorem p121 (P : List Int) (h1 : 1 ≤ P.length) (hl : P.length ≤ 1048576) (h0 : ∀ k ∈ P, 0 ≤ k) : Pure Try.prog 121 [.list (ints P)] (.int .i64 (mxl P)) := by
  have h01 : 0 < P.length := by omega
  have hP0 : 0 ≤ P[0] := h0 _ (List.getElem_mem h01)
  refine e121 (by simp) fun _ _ => ?_
  simp only [k121, argEnv, take6, List.drop_zero, Int.cast_ofNat_Int, go_sem, ↓reduceIte, Nat.reduceEqDiff, Nat.reduceAdd, Nat.reduceMul, Nat.reduceLeDiff, Nat.reduceLT, Int.reduceLE, Int.reduceLT, reduceCtorEq]
  refine ⟨fun h => absurd h (by omega), fun _ => ⟨by omega, fun _ => ?_⟩⟩
  rw [getD_eq h01]
  have e0 : mxl (P.take 1) = P[0] := by
    rw [show P.take 1 = [] ++ [P[0]] from by rw [List.take_succ_eq_append_getElem h01]; rfl, mxl_snoc]
    simp [mxl]; omega
  refine KL_ind k121_b0.eq_1 (fun x : Nat => [(0, .list (ints P)), (3, .int .i64 (mxl (P.take x))), (4, .int .i64 x)]) (fun _ => []) (fun x => 1 ≤ x ∧ x ≤ P.length) (fun x => P.length - x) [0, 3, 4] 1 (by simp [keep, e0]) rfl ⟨Nat.le_refl _, by omega⟩ fun x ⟨hx1, hx⟩ ih => ?_
  try simp only [take6, List.drop_zero, Int.cast_ofNat_Int, go_sem, ↓reduceIte, Nat.reduceEqDiff, Nat.reduceAdd, Nat.reduceMul, Nat.reduceLeDiff, Nat.reduceLT, Int.reduceLE, Int.reduceLT, reduceCtorEq]
  refine ⟨fun h3 => ⟨by omega, fun h4 => ?_⟩, fun h3 => ?_⟩
  · rw [getD_eq h4]
    try simp only [mnmxV, if_true]
    try simp only [take6, List.drop_zero, Int.cast_ofNat_Int, go_sem, ↓reduceIte, Nat.reduceEqDiff, Nat.reduceAdd, Nat.reduceMul, Nat.reduceLeDiff, Nat.reduceLT, Int.reduceLE, Int.reduceLT, reduceCtorEq]
    refine ⟨by omega, ?_⟩
    refine ih (x + 1) ⟨by omega, by omega⟩ (by omega) _ _ ?_ rfl
    rw [List.take_succ_eq_append_getElem h4, mxl_snoc]
    simp [keep]
  · obtain rfl : x = P.length := by omega
    rw [List.take_length]
    exact Kv.Fin.still ⟨rfl, rfl⟩
theorem p89 (P : List Int) (h1 : 1 ≤ P.length) (hl : P.length ≤ 1048576) (h0 : ∀ k ∈ P, 0 ≤ k) (hm : mxl P ≤ 1048576) : Pure Try.prog 89 [.list (ints P)] (.int .i64 (mxl P + 1)) := by
  have := (foldl_max_ge P (-1)).1
  have hm1 : -1 ≤ mxl P := this
  refine e89 (by simp) fun _ _ => ?_
  simp only [k89, argEnv, take6, List.drop_zero, Int.cast_ofNat_Int, go_sem, ↓reduceIte, Nat.reduceEqDiff, Nat.reduceAdd, Nat.reduceMul, Nat.reduceLeDiff, Nat.reduceLT, Int.reduceLE, Int.reduceLT, reduceCtorEq]
  refine (p121 P h1 hl h0).go ?_
  try simp only [take6, List.drop_zero, Int.cast_ofNat_Int, go_sem, ↓reduceIte, Nat.reduceEqDiff, Nat.reduceAdd, Nat.reduceMul, Nat.reduceLeDiff, Nat.reduceLT, Int.reduceLE, Int.reduceLT, reduceCtorEq]
  repeat' (first | refine And.intro ?_ ?_ | intro _)
  all_goals (try omega)
  exact Kv.Fin.still ⟨rfl, rfl⟩
theorem p88 (P : List Int) (hl : P.length ≤ 1048576) (hm : mxl P ≤ 1048576) : Pure Try.prog 88 [.list (ints P)] (.int .i64 (mxl P + 1)) := by
  have hm1 : -1 ≤ mxl P := (foldl_max_ge P (-1)).1
  refine e88 (by simp) fun _ _ => ?_
  simp only [k88, argEnv, take6, List.drop_zero, Int.cast_ofNat_Int, go_sem, ↓reduceIte, Nat.reduceEqDiff, Nat.reduceAdd, Nat.reduceMul, Nat.reduceLeDiff, Nat.reduceLT, Int.reduceLE, Int.reduceLT, reduceCtorEq]
  refine KL_ind k88_b0.eq_1 (fun x : Nat => [(0, .list (ints P)), (3, .int .i64 (mxl (P.take x))), (4, .int .i64 x)]) (fun _ => []) (fun x => x ≤ P.length) (fun x => P.length - x) [0, 3, 4] 0 (by rfl) rfl (Nat.zero_le _) fun x hx ih => ?_
  try simp only [take6, List.drop_zero, Int.cast_ofNat_Int, go_sem, ↓reduceIte, Nat.reduceEqDiff, Nat.reduceAdd, Nat.reduceMul, Nat.reduceLeDiff, Nat.reduceLT, Int.reduceLE, Int.reduceLT, reduceCtorEq]
  refine ⟨fun h3 => ⟨by omega, fun h4 => ?_⟩, fun h3 => ?_⟩
  · rw [getD_eq h4]
    try simp only [mnmxV, if_true]
    try simp only [take6, List.drop_zero, Int.cast_ofNat_Int, go_sem, ↓reduceIte, Nat.reduceEqDiff, Nat.reduceAdd, Nat.reduceMul, Nat.reduceLeDiff, Nat.reduceLT, Int.reduceLE, Int.reduceLT, reduceCtorEq]
    refine ⟨by omega, ?_⟩
    refine ih (x + 1) (by omega) (by omega) _ _ ?_ rfl
    rw [List.take_succ_eq_append_getElem h4, mxl_snoc]
    simp [keep]
  · obtain rfl : x = P.length := by omega
    rw [List.take_length]
    repeat' (first | refine And.intro ?_ ?_ | intro _)
    all_goals (try omega)
    exact Kv.Fin.still ⟨rfl, rfl⟩
theorem natD (l : List Nat) (x : Nat) : (l.map fun x : Nat => (x : Int)).getD x 0 = (l.getD x 0 : Int) := by
  simp only [List.getD_eq_getElem?_getD, List.getElem?_map]
  cases l[x]? <;> rfl
theorem p84 (l : List Nat) (hl : l.length ≤ 5) : Pure Try.prog 84 [.list (ints (l.map fun x : Nat => (x : Int)))] (.agg (ints (mp l))) := by
  refine e84 (by simp) fun _ _ => ?_
  simp only [k84, argEnv, List.length_map, take6, List.drop_zero, Int.cast_ofNat_Int, go_sem, ↓reduceIte, Nat.reduceEqDiff, Nat.reduceAdd, Nat.reduceMul, Nat.reduceLeDiff, Nat.reduceLT, Int.reduceLE, Int.reduceLT, reduceCtorEq]
  refine KL_ind k84_b0.eq_1 (fun x : Nat => [(0, .list (ints (l.map fun x : Nat => (x : Int)))), (2, .ptr 0 0), (3, .ptr 1 0), (4, .int .i64 x)]) (fun x => [.box (ints [0, 0, 0, 0, 0, 0]), .box (ints (mpN l.length (l.take x)))]) (fun x => x ≤ l.length) (fun x => l.length - x) [0, 2, 3, 4] 0 (by rfl) (by rfl) (Nat.zero_le _) fun x hx ih => ?_
  have h6 : (mpN (l.length : Int) (l.take x)).length = 6 := mpN_length (by simp; omega)
  try simp only [h6, List.length_map, take6, List.drop_zero, Int.cast_ofNat_Int, go_sem, ↓reduceIte, Nat.reduceEqDiff, Nat.reduceAdd, Nat.reduceMul, Nat.reduceLeDiff, Nat.reduceLT, Int.reduceLE, Int.reduceLT, reduceCtorEq]
  refine ⟨fun h3 => ?_, fun h3 => ?_⟩
  · refine ⟨by omega, fun h4 => ⟨by omega, by omega, by omega, ?_⟩⟩
    refine ih (x + 1) (by omega) (by omega) _ _ (by rfl) ?_
    rw [natD, mpN_pushI (by simp; omega) (by simp; omega), List.take_succ_eq_append_getElem h4, getD_eq h4]
  · obtain rfl : x = l.length := by omega
    rw [List.take_length]
    exact Kv.Fin.still ⟨rfl, rfl⟩
/-- The images of the classes, of the first x points. -/
def st (Q f : List Nat) (c x : Nat) : List Nat := (List.range x).foldl (fun s p => s.set (Q.getD p 0) (Q.getD (f.getD p 0) 0)) (List.replicate c 0)
theorem st_zero (Q f : List Nat) (c : Nat) : st Q f c 0 = List.replicate c 0 := rfl
theorem st_succ (Q f : List Nat) (c x : Nat) : st Q f c (x + 1) = (st Q f c x).set (Q.getD x 0) (Q.getD (f.getD x 0) 0) := by simp [st, List.range_succ]
@[simp] theorem st_length (Q f : List Nat) (c : Nat) : ∀ x, (st Q f c x).length = c
  | 0 => by simp [st_zero]
  | x + 1 => by rw [st_succ, List.length_set, st_length Q f c x]
/-- What a right list and an invariant partition give. -/
def lcl (Q : List Nat) (c : Nat) (fs : List (List Nat)) : List (List Int) := fs.map fun f => mp (st Q f c Q.length)
theorem lcl_snoc (Q : List Nat) (c : Nat) {fs : List (List Nat)} {x : Nat} (h : x < fs.length) : lcl Q c (fs.take x) ++ [mp (st Q fs[x] c Q.length)] = lcl Q c (fs.take (x + 1)) := by
  rw [List.take_succ_eq_append_getElem h]; simp only [lcl, List.map_append, List.map_cons, List.map_nil]
@[simp] theorem lcl_length (Q : List Nat) (c : Nat) (fs : List (List Nat)) : (lcl Q c fs).length = fs.length := by simp [lcl]
/-- The classes as natural numbers. -/
theorem clOk_nat {P : List Int} {n : Nat} (hP : P.length = n) (h1 : 1 ≤ n) (h5 : n ≤ 5) (h : clOk P 0 = true) : ∃ (Q : List Nat) (c : Nat), P = Q.map (fun x : Nat => (x : Int)) ∧ Q.length = n ∧ mxl P + 1 = c ∧ 1 ≤ c ∧ c ≤ 5 ∧ ∀ x, x < Q.length → Q.getD x 0 < c := by
  have hb := clOk_bounds P 0 (Int.le_refl _) h
  have hge := foldl_max_ge P (-1)
  have hmx : mxl P ≤ 4 := mxl_le (fun k hk => by have := hb k hk; omega) (by omega)
  have hmem : ∀ k ∈ P, k ≤ mxl P := hge.2
  have h0 : 0 < P.length := by omega
  have hx0 := hb _ (List.getElem_mem h0)
  have hx1 := hmem _ (List.getElem_mem h0)
  refine ⟨P.map Int.toNat, (mxl P + 1).toNat, ?_, by simpa using hP, by omega, by omega, by omega, fun x hx => ?_⟩
  · rw [List.map_map]
    conv => lhs; rw [← List.map_id P]
    exact List.map_congr_left fun k hk => by have := hb k hk; simp; omega
  · have hx' : x < P.length := by simpa using hx
    rw [getD_eq hx, List.getElem_map]
    have := hmem _ (List.getElem_mem hx')
    have := hb _ (List.getElem_mem hx')
    omega
/-- The images of the classes, written one by one. -/
theorem lp50 {fz : List Nat} {N n0 : Nat} {Q' : Exit → Env → Heap → Prop} {env : Env} {σ : Heap} {i10 i11 : Nat} {v8 v27 v28 v29 : PV} (Q f : List Nat) (c : Nat) (h5 : Q.length ≤ 5) (hc5 : c ≤ 5) (hQc : ∀ x, x < Q.length → Q.getD x 0 < c) (hf : Ok f Q.length) (hne : i11 ≠ i10)
    (h10 : σ[i10]? = some (.box (ints (mp f)))) (h11 : σ[i11]? = some (.box (ints (mpN c (List.replicate c 0)))))
    (hE : keep [1, 8, 10, 11, 27, 28, 29, 36, 37, 38] env = [(1, .list (ints (Q.map fun x : Nat => (x : Int)))), (8, v8), (10, .ptr i10 0), (11, .ptr i11 0), (27, v27), (28, v28), (29, v29), (36, .list (ints (Q.map fun x : Nat => (x : Int)))), (37, .int .i64 Q.length), (38, .int .i64 0)])
    (hQ : ∀ a, Q' (.exit 3) [(39, a), (1, .list (ints (Q.map fun x : Nat => (x : Int)))), (8, v8), (10, .ptr i10 0), (11, .ptr i11 0), (27, v27), (28, v28), (29, v29), (36, .list (ints (Q.map fun x : Nat => (x : Int)))), (37, .int .i64 Q.length), (38, .int .i64 Q.length)] (σ.set i11 (.box (ints (mp (st Q f c Q.length)))))) :
    KL (mkCfg Try.prog mixed fz N n0) k50_b0 Q' env σ := by
  have hlt := (List.getElem?_eq_some_iff.1 h11).1
  have hself : ∀ o, (σ.set i11 o)[i11]? = some o := fun o => List.getElem?_set_self hlt
  have hset : ∀ o o', (σ.set i11 o).set i11 o' = σ.set i11 o' := fun o o' => List.set_set ..
  have hoth : ∀ o, (σ.set i11 o)[i10]? = some (.box (ints (mp f))) := fun o => by rw [List.getElem?_set_ne hne]; exact h10
  refine KL_ind k50_b0.eq_1 (fun x : Nat => [(1, .list (ints (Q.map fun x : Nat => (x : Int)))), (8, v8), (10, .ptr i10 0), (11, .ptr i11 0), (27, v27), (28, v28), (29, v29), (36, .list (ints (Q.map fun x : Nat => (x : Int)))), (37, .int .i64 Q.length), (38, .int .i64 x)]) (fun x => σ.set i11 (.box (ints (mpN c (st Q f c x))))) (fun x => x ≤ Q.length) (fun x => Q.length - x) [1, 8, 10, 11, 27, 28, 29, 36, 37, 38] 0 (by rw [hE]; rfl) (by rw [st_zero, hp_same h11]) (Nat.zero_le _) fun x hx ih => ?_
  have h6 : (mpN (c : Int) (st Q f c x)).length = 6 := mpN_length (by simp; omega)
  have h6f := hf.mp_len
  have hg := hf.get' x
  try simp only [hself, hset, hoth, h6, h6f, hg, natD, List.length_map, take6, List.drop_zero, Int.cast_ofNat_Int, go_sem, ↓reduceIte, Nat.reduceEqDiff, Nat.reduceAdd, Nat.reduceMul, Nat.reduceLeDiff, Nat.reduceLT, Int.reduceLE, Int.reduceLT, reduceCtorEq]
  refine ⟨fun h3 => ?_, fun h3 => ?_⟩
  · have h3' : x < Q.length := by omega
    have hc' := hQc x h3'
    refine ⟨by omega, fun h4 => ⟨by omega, by omega, fun _ => ⟨by omega, by omega, by omega, by omega, ?_⟩⟩⟩
    refine ih (x + 1) (by omega) (by omega) _ _ (by rfl) ?_
    rw [mpN_set (by rw [st_length]; exact hc'), st_succ]
  · obtain rfl : x = Q.length := by omega
    have e : mpN (c : Int) (st Q f c Q.length) = mp (st Q f c Q.length) := by simp [mp]
    rw [e]
    exact hQ _
theorem p50_in (fs : List (List Nat)) (n : Nat) (Q : List Nat) (c : Nat) (hQ : Q.length = n) (h1 : 1 ≤ n) (h5 : n ≤ 5) (hc : mxl (Q.map fun x : Nat => (x : Int)) + 1 = c) (hc1 : 1 ≤ c) (hc5 : c ≤ 5) (hQc : ∀ x, x < Q.length → Q.getD x 0 < c) (hf : ∀ f ∈ fs, Ok f n) (hl1 : 1 ≤ fs.length) (hl : fs.length ≤ 6) (h6 : ∀ r ∈ fs.map mp, r.length = 6)
    (hiv : ivp (fs.map mp) (Q.map fun x : Nat => (x : Int)) = (true, 0)) : NewAO Try.prog 50 [.list (aggs (fs.map mp)), .list (ints (Q.map fun x : Nat => (x : Int)))] 27 (lcl Q c fs) 0 := by
  subst hQ
  have hpos : ∀ k ∈ (Q.map fun x : Nat => (x : Int)), 0 ≤ k := fun k hk => by
    obtain ⟨x, _, rfl⟩ := List.mem_map.1 hk; omega
  refine e50 (by simp) fun _ _ => ?_
  simp only [k50, argEnv, take6, List.drop_zero, Int.cast_ofNat_Int, go_sem, ↓reduceIte, Nat.reduceEqDiff, Nat.reduceAdd, Nat.reduceMul, Nat.reduceLeDiff, Nat.reduceLT, Int.reduceLE, Int.reduceLT, reduceCtorEq]
  refine (p46 (fs.map mp) (Q.map fun x : Nat => (x : Int)) (by simp; omega) h6 (by simp; omega)).go ?_
  rw [hiv]
  try simp only [List.length_map, take6, List.drop_zero, Int.cast_ofNat_Int, go_sem, ↓reduceIte, Nat.reduceEqDiff, Nat.reduceAdd, Nat.reduceMul, Nat.reduceLeDiff, Nat.reduceLT, Int.reduceLE, Int.reduceLT, reduceCtorEq]
  have h0 : 0 < fs.length := by omega
  have hk0 := hf _ (List.getElem_mem h0)
  refine KL_indD k50_b1.eq_1 (fun x : Nat => [(1, .list (ints (Q.map fun x : Nat => (x : Int)))), (8, nref 2 x), (27, .list (aggs (fs.map mp))), (28, .int .i64 fs.length), (29, .int .i64 x)]) (fun x => nhp [.box (ints (mp fs[0])), .box (ints (mp (st Q fs[0] c Q.length))), .arr (x - 1) 27 6 (aggs (lcl Q c (fs.take x)))] x) (fun x => x ≤ fs.length) (fun x => fs.length - x) [1, 8, 27, 28, 29] 0 (by simp [keep, nref]) ⟨[], rfl⟩ (Nat.zero_le _) (fun x hx => ?_) fun x hx ih => ?_
  · refine ⟨Nat.zero_le _, ?_, ?_⟩
    · rcases x with _ | x
      · exact Env.undr_upto (by simp [Env.undr, PV.undr, undrX_ints, undrX_aggs, nref])
      · exact Env.undr_upto (by simp [Env.undr, PV.undr, undrX_ints, undrX_aggs, nref, nhp])
    · rcases x with _ | x
      · exact Hb.nil _
      · exact .cons (by simp [AObj.undr, undrL_ints]) (.cons (by simp [AObj.undr, undrL_ints]) (.cons (by simp [AObj.undr, undrX_aggs]) (.nil _)))
  rcases x with _ | x
  · try simp only [List.length_map, map_getD h0, take6, List.drop_zero, Int.cast_ofNat_Int, go_sem, ↓reduceIte, Nat.reduceEqDiff, Nat.reduceAdd, Nat.reduceMul, Nat.reduceLeDiff, Nat.reduceLT, Int.reduceLE, Int.reduceLT, reduceCtorEq]
    refine ⟨fun h3 => ⟨by omega, fun h4 => ?_⟩, fun h3 => absurd h3 (by omega)⟩
    have h6x := hk0.mp_len
    have hmany := p89 (Q.map fun x : Nat => (x : Int)) (by simpa using h1) (by simp; omega) hpos (by omega)
    rw [hc] at hmany
    have h6s : (mp (st Q fs[0] c Q.length)).length = 6 := mpN_length (by simp; omega)
    try simp only [h6x, take6, List.drop_zero, Int.cast_ofNat_Int, go_sem, ↓reduceIte, Nat.reduceEqDiff, Nat.reduceAdd, Nat.reduceMul, Nat.reduceLeDiff, Nat.reduceLT, Int.reduceLE, Int.reduceLT, reduceCtorEq]
    refine hmany.go ?_
    try simp only [h6x, List.length_map, take6, List.drop_zero, Int.cast_ofNat_Int, go_sem, ↓reduceIte, Nat.reduceEqDiff, Nat.reduceAdd, Nat.reduceMul, Nat.reduceLeDiff, Nat.reduceLT, Int.reduceLE, Int.reduceLT, reduceCtorEq]
    refine lp50 (i10 := 0) (i11 := 1) Q fs[0] c h5 hc5 hQc hk0 (by omega) rfl ?_ (by rfl) fun a => ?_
    · rw [mpN_rep hc5]; rfl
    try simp only [h6s, take6, List.drop_zero, Int.cast_ofNat_Int, go_sem, ↓reduceIte, Nat.reduceEqDiff, Nat.reduceAdd, Nat.reduceMul, Nat.reduceLeDiff, Nat.reduceLT, Int.reduceLE, Int.reduceLT, reduceCtorEq]
    repeat' (first | refine And.intro ?_ ?_ | intro _)
    all_goals (try omega)
    refine ih 1 (by omega) (by omega) _ _ (by rfl) ⟨[], ?_⟩
    have e := lcl_snoc Q c h0
    rw [List.take_zero] at e
    rw [nhp_succ, ← e]; rfl
  · try simp only [List.length_map, take6, List.drop_zero, Int.cast_ofNat_Int, go_sem, ↓reduceIte, Nat.reduceEqDiff, Nat.reduceAdd, Nat.reduceMul, Nat.reduceLeDiff, Nat.reduceLT, Int.reduceLE, Int.reduceLT, reduceCtorEq]
    refine ⟨fun h3 => ⟨by omega, fun h4 => ?_⟩, fun h3 => ?_⟩
    · have hk := hf _ (List.getElem_mem h4)
      have h6x := hk.mp_len
      have hmany := p89 (Q.map fun x : Nat => (x : Int)) (by simpa using h1) (by simp; omega) hpos (by omega)
      rw [hc] at hmany
      have h6s : (mp (st Q fs[x + 1] c Q.length)).length = 6 := mpN_length (by simp; omega)
      rw [map_getD h4]
      try simp only [h6x, take6, List.drop_zero, Int.cast_ofNat_Int, go_sem, ↓reduceIte, Nat.reduceEqDiff, Nat.reduceAdd, Nat.reduceMul, Nat.reduceLeDiff, Nat.reduceLT, Int.reduceLE, Int.reduceLT, reduceCtorEq]
      refine hmany.go ?_
      try simp only [h6x, List.length_map, take6, List.drop_zero, Int.cast_ofNat_Int, go_sem, ↓reduceIte, Nat.reduceEqDiff, Nat.reduceAdd, Nat.reduceMul, Nat.reduceLeDiff, Nat.reduceLT, Int.reduceLE, Int.reduceLT, reduceCtorEq]
      refine lp50 (i10 := 3) (i11 := 4) Q fs[x + 1] c h5 hc5 hQc hk (by omega) rfl ?_ (by rfl) fun a => ?_
      · rw [mpN_rep hc5]; rfl
      have hll : (lcl Q c (fs.take (x + 1))).length = x + 1 := by simp; omega
      try simp only [h6s, hll, take6, List.drop_zero, Int.cast_ofNat_Int, go_sem, ↓reduceIte, Nat.reduceEqDiff, Nat.reduceAdd, Nat.reduceMul, Nat.reduceLeDiff, Nat.reduceLT, Int.reduceLE, Int.reduceLT, reduceCtorEq]
      repeat' (first | refine And.intro ?_ ?_ | intro _)
      all_goals (try omega)
      refine ih (x + 1 + 1) (by omega) (by omega) _ _ (by rfl) ⟨[.box (ints (mp fs[x + 1])), .box (ints (mp (st Q fs[x + 1] c Q.length)))], ?_⟩
      rw [nhp_succ, List.take_of_length_le (Nat.le_of_eq hll), lcl_snoc Q c h4]
      rfl
    · have hxe : x + 1 = fs.length := by omega
      have hll : (lcl Q c fs).length = x + 1 := by rw [lcl_length]; exact hxe.symm
      rw [show fs.take (x + 1) = fs by rw [hxe, List.take_length]]
      try simp only [take6, List.drop_zero, Int.cast_ofNat_Int, go_sem, ↓reduceIte, Nat.reduceEqDiff, Nat.reduceAdd, Nat.reduceMul, Nat.reduceLeDiff, Nat.reduceLT, Int.reduceLE, Int.reduceLT, reduceCtorEq]
      refine Kv.Fin.oneT (i := 2) rfl flat_aggs 0 ⟨_, rfl, ?_, Free.aggs _ _ _ _⟩
      rw [← hll]
      exact .own 0 _ (lcl Q c fs) [] (by simp) (fun r hr => by
        simp only [lcl, List.mem_map] at hr
        obtain ⟨f, _, rfl⟩ := hr
        exact mpN_length (by simp; omega)) ⟨Nat.zero_le _, by simp⟩
/-- The code of a list of classes. -/
noncomputable def lcc (a : List (List Int)) (P : List Int) : Int := if (ivp a P).2 ≠ 0 then (ivp a P).2 else if (ivp a P).1 = false then 5 else 0
theorem p50_out (a : List (List Int)) (P : List Int) (ha : a.length ≤ 1048576) (h6 : ∀ r ∈ a, r.length = 6) (hP : P.length ≤ 1048576) (h : lcc a P ≠ 0) : Pure Try.prog 50 [.list (aggs a), .list (ints P)] (.tup [.nils, .int .i64 (lcc a P)]) := by
  have hi := p46 a P ha h6 hP
  have hv : lcc a P = if (ivp a P).2 ≠ 0 then (ivp a P).2 else if (ivp a P).1 = false then 5 else 0 := rfl
  generalize lcc a P = L at *
  generalize (ivp a P).1 = b at *
  generalize (ivp a P).2 = k at *
  subst hv
  refine e50 (by simp) fun _ _ => ?_
  simp only [k50, argEnv, take6, List.drop_zero, Int.cast_ofNat_Int, go_sem, ↓reduceIte, Nat.reduceEqDiff, Nat.reduceAdd, Nat.reduceMul, Nat.reduceLeDiff, Nat.reduceLT, Int.reduceLE, Int.reduceLT, reduceCtorEq]
  refine hi.go ?_
  by_cases h1 : k = 0
  · subst h1
    cases b with
    | true => simp at h
    | false =>
      try simp only [take6, List.drop_zero, Int.cast_ofNat_Int, go_sem, ↓reduceIte, Nat.reduceEqDiff, Nat.reduceAdd, Nat.reduceMul, Nat.reduceLeDiff, Nat.reduceLT, Int.reduceLE, Int.reduceLT, reduceCtorEq]
      exact Kv.Fin.still ⟨by simp, rfl⟩
  · try simp only [h1, take6, List.drop_zero, Int.cast_ofNat_Int, go_sem, ↓reduceIte, Nat.reduceEqDiff, Nat.reduceAdd, Nat.reduceMul, Nat.reduceLeDiff, Nat.reduceLT, Int.reduceLE, Int.reduceLT, reduceCtorEq]
    exact Kv.Fin.still ⟨by rw [if_pos h1], rfl⟩
theorem ivp_pgc (a : List (List Int)) (P : List Int) : ivp a P = if pgc a P ≠ 0 then (false, pgc a P) else (iv (a.map um) P, 0) := by
  unfold ivp pgc
  generalize (clOk P 0 && decide ((P.length : Int) = (a.getD 0 []).getD 0 0)) = b
  by_cases h1 : lcode a [] = 0
  · simp only [h1, ne_eq, not_true_eq_false, if_false]
    cases b <;> simp
  · simp only [ne_eq, h1, not_false_eq_true, if_true]
theorem p49_out (a : List (List Int)) (P : List Int) (ha : a.length ≤ 1048576) (h6 : ∀ r ∈ a, r.length = 6) (hP : P.length ≤ 1048576) (h : lcc a P ≠ 0) : Pure Try.prog 49 [.list (aggs a), .list (ints P)] (.tup [.nils, .int .i64 (lcc a P)]) := by
  have hv : lcc a P = if pgc a P ≠ 0 then pgc a P else if iv (a.map um) P = false then 5 else 0 := by
    unfold lcc
    have e := ivp_pgc a P
    by_cases h1 : pgc a P = 0
    · rw [if_neg (by simp [h1])] at e
      rw [e]; simp [h1]
    · rw [if_pos h1] at e
      rw [e]; simp [h1]
  rw [hv] at h ⊢
  clear hv
  refine e49 (by simp) fun _ _ => ?_
  simp only [k49, argEnv, take6, List.drop_zero, Int.cast_ofNat_Int, go_sem, ↓reduceIte, Nat.reduceEqDiff, Nat.reduceAdd, Nat.reduceMul, Nat.reduceLeDiff, Nat.reduceLT, Int.reduceLE, Int.reduceLT, reduceCtorEq]
  refine (p79 a P ha h6 hP).go ?_
  by_cases h1 : pgc a P = 0
  · obtain ⟨h2, h3⟩ := pgc_zero h1
    rw [if_neg (by simp [h1])] at h ⊢
    obtain ⟨fs, n, rfl, hf, hl1, hl2, hn, hn1, hn5⟩ := lcode_maps h6 h2
    rw [hn] at h3
    have hPn : P.length = n := by
      simp only [Bool.and_eq_true, decide_eq_true_eq] at h3; omega
    rw [map_um] at h ⊢
    rw [h1]
    try simp only [take6, List.drop_zero, Int.cast_ofNat_Int, go_sem, ↓reduceIte, Nat.reduceEqDiff, Nat.reduceAdd, Nat.reduceMul, Nat.reduceLeDiff, Nat.reduceLT, Int.reduceLE, Int.reduceLT, reduceCtorEq]
    refine (p80 fs n P hPn hn5 hf (by omega)).go ?_
    cases hi : iv fs P with
    | true => rw [hi] at h; simp at h
    | false =>
      try simp only [take6, List.drop_zero, Int.cast_ofNat_Int, go_sem, ↓reduceIte, Nat.reduceEqDiff, Nat.reduceAdd, Nat.reduceMul, Nat.reduceLeDiff, Nat.reduceLT, Int.reduceLE, Int.reduceLT, reduceCtorEq]
      exact ⟨fun _ => Kv.Fin.still ⟨rfl, rfl⟩, fun h => absurd h (by omega)⟩
  · try simp only [h1, take6, List.drop_zero, Int.cast_ofNat_Int, go_sem, ↓reduceIte, Nat.reduceEqDiff, Nat.reduceAdd, Nat.reduceMul, Nat.reduceLeDiff, Nat.reduceLT, Int.reduceLE, Int.reduceLT, reduceCtorEq]
    exact Kv.Fin.still ⟨by rw [if_pos h1], rfl⟩
theorem p49_in (fs : List (List Nat)) (n : Nat) (Q : List Nat) (c : Nat) (hQ : Q.length = n) (h1 : 1 ≤ n) (h5 : n ≤ 5) (hc : mxl (Q.map fun x : Nat => (x : Int)) + 1 = c) (hc1 : 1 ≤ c) (hc5 : c ≤ 5) (hQc : ∀ x, x < Q.length → Q.getD x 0 < c) (hf : ∀ f ∈ fs, Ok f n) (hl1 : 1 ≤ fs.length) (hl : fs.length ≤ 6) (h6 : ∀ r ∈ fs.map mp, r.length = 6)
    (hp : pgc (fs.map mp) (Q.map fun x : Nat => (x : Int)) = 0) (hiv : iv fs (Q.map fun x : Nat => (x : Int)) = true) : Pure Try.prog 49 [.list (aggs (fs.map mp)), .list (ints (Q.map fun x : Nat => (x : Int)))] (.tup [.list (aggs (lcl Q c fs)), .int .i64 0]) := by
  subst hQ
  refine e49 (by simp) fun _ _ => ?_
  simp only [k49, argEnv, take6, List.drop_zero, Int.cast_ofNat_Int, go_sem, ↓reduceIte, Nat.reduceEqDiff, Nat.reduceAdd, Nat.reduceMul, Nat.reduceLeDiff, Nat.reduceLT, Int.reduceLE, Int.reduceLT, reduceCtorEq]
  refine (p79 (fs.map mp) (Q.map fun x : Nat => (x : Int)) (by simp; omega) h6 (by simp; omega)).go ?_
  rw [hp]
  try simp only [List.length_map, take6, List.drop_zero, Int.cast_ofNat_Int, go_sem, ↓reduceIte, Nat.reduceEqDiff, Nat.reduceAdd, Nat.reduceMul, Nat.reduceLeDiff, Nat.reduceLT, Int.reduceLE, Int.reduceLT, reduceCtorEq]
  refine (p80 fs Q.length (Q.map fun x : Nat => (x : Int)) (by simp) h5 hf (by omega)).go ?_
  rw [hiv]
  try simp only [List.length_map, take6, List.drop_zero, Int.cast_ofNat_Int, go_sem, ↓reduceIte, Nat.reduceEqDiff, Nat.reduceAdd, Nat.reduceMul, Nat.reduceLeDiff, Nat.reduceLT, Int.reduceLE, Int.reduceLT, reduceCtorEq]
  refine (p88 (Q.map fun x : Nat => (x : Int)) (by simp; omega) (by omega)).go ?_
  rw [hc]
  try simp only [List.length_map, take6, List.drop_zero, Int.cast_ofNat_Int, go_sem, ↓reduceIte, Nat.reduceEqDiff, Nat.reduceAdd, Nat.reduceMul, Nat.reduceLeDiff, Nat.reduceLT, Int.reduceLE, Int.reduceLT, reduceCtorEq]
  refine KL_indD k49_b1.eq_1 (fun x : Nat => [(0, .list (aggs (fs.map mp))), (1, .list (ints (Q.map fun x : Nat => (x : Int)))), (7, .int .i64 c), (8, .ref 0 x 0 x), (9, .int .i64 x)]) (fun x => [.arr x 27 6 (aggs (lcl Q c (fs.take x)))]) (fun x => x ≤ fs.length) (fun x => fs.length - x) [0, 1, 7, 8, 9] 0 (by simp [keep]) ⟨[], rfl⟩ (Nat.zero_le _) (fun x hx => ?_) fun x hx ih => ?_
  · refine ⟨Nat.zero_le _, Env.undr_upto (by simp [Env.undr, PV.undr, undrX_ints, undrX_aggs]), .cons (by simp [AObj.undr, undrX_aggs]) (.nil _)⟩
  try simp only [List.length_map, take6, List.drop_zero, Int.cast_ofNat_Int, go_sem, ↓reduceIte, Nat.reduceEqDiff, Nat.reduceAdd, Nat.reduceMul, Nat.reduceLeDiff, Nat.reduceLT, Int.reduceLE, Int.reduceLT, reduceCtorEq]
  refine ⟨fun h3 => ?_, fun h3 => ?_⟩
  · have h4 : x < fs.length := by omega
    have hk := hf _ (List.getElem_mem h4)
    have h6x := hk.mp_len
    refine ⟨by omega, ?_⟩
    refine KL_ind k49_b0.eq_1 (fun y : Nat => [(0, .list (aggs (fs.map mp))), (1, .list (ints (Q.map fun x : Nat => (x : Int)))), (7, .int .i64 c), (8, .ref 0 x 0 x), (9, .int .i64 x), (10, .ref 1 0 0 c), (11, .int .i64 y)]) (fun y => [.arr x 27 6 (aggs (lcl Q c (fs.take x))), .arr 0 2 1 (ints ((st Q fs[x] c y).map fun x : Nat => (x : Int)))]) (fun y => y ≤ Q.length) (fun y => Q.length - y) [0, 1, 7, 8, 9, 10, 11] 0 (by simp [keep]) (by simp [st_zero]) (Nat.zero_le _) fun y hy ihy => ?_
    have hg := hk.get' y
    have hsl : (st Q fs[x] c y).length = c := by simp
    try simp only [h6x, hg, natD, List.length_map, hsl, map_getD h4, take6, List.drop_zero, Int.cast_ofNat_Int, go_sem, ↓reduceIte, Nat.reduceEqDiff, Nat.reduceAdd, Nat.reduceMul, Nat.reduceLeDiff, Nat.reduceLT, Int.reduceLE, Int.reduceLT, reduceCtorEq]
    refine ⟨fun h5 => ?_, fun h5 => ?_⟩
    · have hc' := hQc y (by omega)
      refine ⟨by omega, fun _ => ⟨by omega, fun _ => ⟨by omega, by omega, fun _ => ⟨by omega, ⟨by omega, by omega⟩, by omega, fun _ => ⟨by omega, ?_⟩⟩⟩⟩⟩
      refine ihy (y + 1) (by omega) (by omega) _ _ (by rfl) ?_
      rw [st_succ, List.map_set]
    · obtain rfl : y = Q.length := by omega
      refine (p84 (st Q fs[x] c Q.length) (by simp; omega)).lend (.cons (Imm.refn (l := (st Q fs[x] c Q.length).map fun x : Nat => (x : Int)) rfl (by simp)) (.nil _)) ?_
      have h6s : (mp (st Q fs[x] c Q.length)).length = 6 := mpN_length (by simp; omega)
      have hll : (lcl Q c (fs.take x)).length = x := by simp; omega
      try simp only [h6s, hll, take6, List.drop_zero, Int.cast_ofNat_Int, go_sem, ↓reduceIte, Nat.reduceEqDiff, Nat.reduceAdd, Nat.reduceMul, Nat.reduceLeDiff, Nat.reduceLT, Int.reduceLE, Int.reduceLT, reduceCtorEq]
      repeat' (first | refine And.intro ?_ ?_ | intro _)
      all_goals (try omega)
      refine ih (x + 1) (by omega) (by omega) _ _ (by rfl) ⟨[.arr 0 2 1 (ints ((st Q fs[x] c Q.length).map fun x : Nat => (x : Int)))], ?_⟩
      rw [List.take_of_length_le (Nat.le_of_eq hll), lcl_snoc Q c h4]
      rfl
  · obtain rfl : x = fs.length := by omega
    rw [List.take_length]
    have hll : (lcl Q c fs).length = fs.length := lcl_length ..
    refine Fin.freeze (Imm.tupL (.cons (Imm.refap (ver := fs.length) (e := 27) (l := lcl Q c fs) (post := []) (by simp) ?_ hll.symm) (.cons (.int _ _ _) (.nil _)))) ⟨rfl, rfl⟩
    intro r hr
    simp only [lcl, List.mem_map] at hr
    obtain ⟨f, _, rfl⟩ := hr
    exact mpN_length (by simp; omega)
end Go.Proofs.Ytkljidghocnllaa
