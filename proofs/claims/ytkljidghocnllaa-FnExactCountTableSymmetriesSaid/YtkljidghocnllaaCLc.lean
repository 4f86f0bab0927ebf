/- The compact code of functions of the seat, and how their calls are entered: printed by this session's own program. -/
import Derived.Test.YtkljidghocnllaaCb
namespace Go.Proofs.Ytkljidghocnllaa
open Go.Kv
set_option maxRecDepth 100000
/- impl.many -/
def k89 : KC := (.seq (.ops [⟨(some 2), none, .mv (.c (.int .i64 0))⟩])
  (.seq (.ops [⟨(some 3), none, .mv (.t 0)⟩, ⟨(some 4), none, .call (.c (.fn (.func 121) [] [])) [(.t 3)]⟩, ⟨(some 5), none, .bin .add (.t 4) (.c (.int .i64 1))⟩, ⟨(some 2), none, .mv (.t 5)⟩])
  .ret))
theorem e89 {args : List PV} {σ : Heap} {K : PV → Heap → Prop} (hl : args.length ≤ 6) (h : Wf σ → (∀ a ∈ args, PV.upto σ.length a) → vc (mkCfg Try.prog mixed [] 6 σ.length) k89 (FinK σ.length [.t 2] K) (argEnv 0 args) σ) : ACall Try.prog 89 args σ K :=
  ACall_enter (C := mkCfg Try.prog mixed [] 6 σ.length) (c := Try.f89.body.getD .skip) Try.func89 (by kernel_rfl) (by kernel_rfl) (by kernel_rfl) rfl hl (by kernel_rfl) (by kernel_rfl) h
/- spec.l06Number -/
/- live [0, 3, 4] -/
def k88_b0 : KC := (.seq (.seq (.ops [⟨(some 5), none, .mv (.t 4)⟩, ⟨(some 6), none, .mv (.t 0)⟩, ⟨(some 7), none, .len false (.t 6)⟩, ⟨(some 8), none, .bin .lss (.t 5) (.t 7)⟩])
  (.cond (.t 8) .skip (.exit 0)))
  (.seq (.block 1 (.ops [⟨(some 11), none, .mv (.t 3)⟩, ⟨(some 12), none, .mv (.t 0)⟩, ⟨(some 13), none, .mv (.t 4)⟩, ⟨(some 14), none, .idxS 1 (.t 12) (.t 13)⟩, ⟨(some 15), none, .load false 1 (.t 14)⟩, ⟨(some 16), none, .mnmx true (.t 11) [(.t 15)]⟩, ⟨(some 3), none, .mv (.t 16)⟩]))
  (.ops [⟨(some 9), none, .mv (.t 4)⟩, ⟨(some 10), none, .bin .add (.t 9) (.c (.int .i64 1))⟩, ⟨(some 4), none, .mv (.t 10)⟩])))
def k88 : KC := (.seq (.ops [⟨(some 2), none, .mv (.c (.int .i64 0))⟩])
  (.seq (.ops [⟨(some 3), none, .mv (.c (.int .i64 (-1)))⟩])
  (.seq (.seq (.ops [⟨(some 4), none, .mv (.c (.int .i64 0))⟩])
  (.block 0 (.loop k88_b0)))
  (.seq (.ops [⟨(some 17), none, .mv (.t 3)⟩, ⟨(some 18), none, .bin .add (.t 17) (.c (.int .i64 1))⟩, ⟨(some 2), none, .mv (.t 18)⟩])
  .ret))))
theorem e88 {args : List PV} {σ : Heap} {K : PV → Heap → Prop} (hl : args.length ≤ 19) (h : Wf σ → (∀ a ∈ args, PV.upto σ.length a) → vc (mkCfg Try.prog mixed [] 19 σ.length) k88 (FinK σ.length [.t 2] K) (argEnv 0 args) σ) : ACall Try.prog 88 args σ K :=
  ACall_enter (C := mkCfg Try.prog mixed [] 19 σ.length) (c := Try.f88.body.getD .skip) Try.func88 (by kernel_rfl) (by kernel_rfl) (by kernel_rfl) rfl hl (by kernel_rfl) (by kernel_rfl) h
/- spec.l01Made -/
/- live [0, 2, 3, 4] -/
def k84_b0 : KC := (.seq (.seq (.ops [⟨(some 8), none, .mv (.t 4)⟩, ⟨(some 9), none, .mv (.t 0)⟩, ⟨(some 10), none, .len false (.t 9)⟩, ⟨(some 11), none, .bin .lss (.t 8) (.t 10)⟩])
  (.cond (.t 11) .skip (.exit 0)))
  (.seq (.block 1 (.ops [⟨(some 14), none, .mv (.t 4)⟩, ⟨(some 15), none, .mv (.t 0)⟩, ⟨(some 16), none, .mv (.t 4)⟩, ⟨(some 17), none, .idxS 1 (.t 15) (.t 16)⟩, ⟨(some 18), none, .load false 1 (.t 17)⟩, ⟨(some 19), none, .fieldA 1 (.t 3)⟩, ⟨(some 20), none, .idxA 5 1 (.t 19) (.t 14)⟩, ⟨none, none, .store 1 (.t 20) (.t 18)⟩]))
  (.ops [⟨(some 12), none, .mv (.t 4)⟩, ⟨(some 13), none, .bin .add (.t 12) (.c (.int .i64 1))⟩, ⟨(some 4), none, .mv (.t 13)⟩])))
def k84 : KC := (.seq (.ops [⟨(some 2), none, .alloc [.int .i64 0, .int .i64 0, .int .i64 0, .int .i64 0, .int .i64 0, .int .i64 0]⟩])
  (.seq (.ops [⟨(some 5), none, .mv (.t 0)⟩, ⟨(some 6), none, .len false (.t 5)⟩, ⟨(some 7), none, .build [.int .i64 0, .int .i64 0, .int .i64 0, .int .i64 0, .int .i64 0, .int .i64 0] [(0, 1, (.t 6))]⟩, ⟨(some 3), none, .alloc [.int .i64 0, .int .i64 0, .int .i64 0, .int .i64 0, .int .i64 0, .int .i64 0]⟩, ⟨none, none, .store 6 (.t 3) (.t 7)⟩])
  (.seq (.seq (.ops [⟨(some 4), none, .mv (.c (.int .i64 0))⟩])
  (.block 0 (.loop k84_b0)))
  (.seq (.ops [⟨(some 21), none, .load true 6 (.t 3)⟩, ⟨none, none, .store 6 (.t 2) (.t 21)⟩])
  .ret))))
theorem e84 {args : List PV} {σ : Heap} {K : PV → Heap → Prop} (hl : args.length ≤ 22) (h : Wf σ → (∀ a ∈ args, PV.upto σ.length a) → vc (mkCfg Try.prog mixed [] 22 σ.length) k84 (FinK σ.length [.cell 2 true 6] K) (argEnv 0 args) σ) : ACall Try.prog 84 args σ K :=
  ACall_enter (C := mkCfg Try.prog mixed [] 22 σ.length) (c := Try.f84.body.getD .skip) Try.func84 (by kernel_rfl) (by kernel_rfl) (by kernel_rfl) rfl hl (by kernel_rfl) (by kernel_rfl) h
/- slices.Max[[]int64,int64] -/
/- live [0, 3, 4] -/
def k121_b0 : KC := (.seq (.seq (.ops [⟨(some 12), none, .mv (.t 4)⟩, ⟨(some 13), none, .mv (.t 0)⟩, ⟨(some 14), none, .len false (.t 13)⟩, ⟨(some 15), none, .bin .lss (.t 12) (.t 14)⟩])
  (.cond (.t 15) .skip (.exit 0)))
  (.seq (.block 1 (.ops [⟨(some 18), none, .mv (.t 3)⟩, ⟨(some 19), none, .mv (.t 0)⟩, ⟨(some 20), none, .mv (.t 4)⟩, ⟨(some 21), none, .idxS 1 (.t 19) (.t 20)⟩, ⟨(some 22), none, .load false 1 (.t 21)⟩, ⟨(some 23), none, .mnmx true (.t 18) [(.t 22)]⟩, ⟨(some 3), none, .mv (.t 23)⟩]))
  (.ops [⟨(some 16), none, .mv (.t 4)⟩, ⟨(some 17), none, .bin .add (.t 16) (.c (.int .i64 1))⟩, ⟨(some 4), none, .mv (.t 17)⟩])))
def k121 : KC := (.seq (.ops [⟨(some 2), none, .mv (.c (.int .i64 0))⟩])
  (.seq (.seq (.ops [⟨(some 5), none, .mv (.t 0)⟩, ⟨(some 6), none, .len false (.t 5)⟩, ⟨(some 7), none, .bin .lss (.t 6) (.c (.int .i64 1))⟩])
  (.cond (.t 7) (.ops [⟨(some 8), none, .bad⟩, ⟨none, none, .bad⟩]) .skip))
  (.seq (.ops [⟨(some 9), none, .mv (.t 0)⟩, ⟨(some 10), none, .idxS 1 (.t 9) (.c (.int .i64 0))⟩, ⟨(some 11), none, .load false 1 (.t 10)⟩, ⟨(some 3), none, .mv (.t 11)⟩])
  (.seq (.seq (.ops [⟨(some 4), none, .mv (.c (.int .i64 1))⟩])
  (.block 0 (.loop k121_b0)))
  (.seq (.ops [⟨(some 24), none, .mv (.t 3)⟩, ⟨(some 2), none, .mv (.t 24)⟩])
  .ret)))))
theorem e121 {args : List PV} {σ : Heap} {K : PV → Heap → Prop} (hl : args.length ≤ 25) (h : Wf σ → (∀ a ∈ args, PV.upto σ.length a) → vc (mkCfg Try.prog mixed [] 25 σ.length) k121 (FinK σ.length [.t 2] K) (argEnv 0 args) σ) : ACall Try.prog 121 args σ K :=
  ACall_enter (C := mkCfg Try.prog mixed [] 25 σ.length) (c := Try.f121.body.getD .skip) Try.func121 (by kernel_rfl) (by kernel_rfl) (by kernel_rfl) rfl hl (by kernel_rfl) (by kernel_rfl) h
/- impl.ListOfClasses -/
/- live [1, 8, 10, 11, 27, 28, 29, 36, 37, 38] -/
def k50_b0 : KC := (.seq (.ops [⟨(some 39), none, .bin .lss (.t 38) (.t 37)⟩])
  (.seq (.cond (.t 39) .skip (.exit 3))
  (.seq (.block 4 (.seq (.ops [⟨(some 40), none, .mv (.t 38)⟩, ⟨(some 41), none, .idxS 1 (.t 36) (.t 38)⟩, ⟨(some 42), none, .load false 1 (.t 41)⟩, ⟨(some 12), none, .mv (.t 40)⟩, ⟨(some 13), none, .mv (.t 42)⟩])
  (.ops [⟨(some 43), none, .mv (.t 13)⟩, ⟨(some 44), none, .mv (.t 1)⟩, ⟨(some 45), none, .mv (.t 12)⟩, ⟨(some 46), none, .fieldA 1 (.t 10)⟩, ⟨(some 47), none, .idxA 5 1 (.t 46) (.t 45)⟩, ⟨(some 48), none, .load false 1 (.t 47)⟩, ⟨(some 49), none, .idxS 1 (.t 44) (.t 48)⟩, ⟨(some 50), none, .load false 1 (.t 49)⟩, ⟨(some 51), none, .fieldA 1 (.t 11)⟩, ⟨(some 52), none, .idxA 5 1 (.t 51) (.t 43)⟩, ⟨none, none, .store 1 (.t 52) (.t 50)⟩])))
  (.ops [⟨(some 53), none, .bin .add (.t 38) (.c (.int .i64 1))⟩, ⟨(some 38), none, .mv (.t 53)⟩]))))
/- live [1, 8, 27, 28, 29] -/
def k50_b1 : KC := (.seq (.ops [⟨(some 30), none, .bin .lss (.t 29) (.t 28)⟩])
  (.seq (.cond (.t 30) .skip (.exit 1))
  (.seq (.block 2 (.seq (.ops [⟨(some 31), none, .idxS 6 (.t 27) (.t 29)⟩, ⟨(some 32), none, .load true 6 (.t 31)⟩, ⟨(some 10), none, .alloc [.int .i64 0, .int .i64 0, .int .i64 0, .int .i64 0, .int .i64 0, .int .i64 0]⟩, ⟨none, none, .store 6 (.t 10) (.t 32)⟩])
  (.seq (.ops [⟨(some 33), none, .mv (.t 1)⟩, ⟨(some 34), none, .call (.c (.fn (.func 89) [] [])) [(.t 33)]⟩, ⟨(some 35), none, .build [.int .i64 0, .int .i64 0, .int .i64 0, .int .i64 0, .int .i64 0, .int .i64 0] [(0, 1, (.t 34))]⟩, ⟨(some 11), none, .alloc [.int .i64 0, .int .i64 0, .int .i64 0, .int .i64 0, .int .i64 0, .int .i64 0]⟩, ⟨none, none, .store 6 (.t 11) (.t 35)⟩])
  (.seq (.seq (.ops [⟨(some 36), none, .mv (.t 1)⟩, ⟨(some 37), none, .len false (.t 36)⟩, ⟨(some 38), none, .mv (.c (.int .i64 0))⟩])
  (.block 3 (.loop k50_b0)))
  (.ops [⟨(some 54), none, .mv (.t 8)⟩, ⟨(some 55), none, .load true 6 (.t 11)⟩, ⟨(some 56), none, .bsl true 27 6 [(.t 55)]⟩, ⟨(some 57), none, .app (.t 54) (.t 56) 27 6⟩, ⟨(some 8), none, .mv (.t 57)⟩])))))
  (.ops [⟨(some 58), none, .bin .add (.t 29) (.c (.int .i64 1))⟩, ⟨(some 29), none, .mv (.t 58)⟩]))))
def k50 : KC := (.seq (.ops [⟨(some 4), none, .mv (.c (.nils))⟩, ⟨(some 5), none, .mv (.c (.int .i64 0))⟩])
  (.seq (.ops [⟨(some 15), none, .mv (.t 0)⟩, ⟨(some 16), none, .mv (.t 1)⟩, ⟨(some 17), none, .call (.c (.fn (.func 46) [] [])) [(.t 15), (.t 16)]⟩, ⟨(some 14), none, .mv (.t 17)⟩, ⟨(some 18), none, .extr 0 (.t 14)⟩, ⟨(some 19), none, .extr 1 (.t 14)⟩, ⟨(some 6), none, .mv (.t 18)⟩, ⟨(some 7), none, .mv (.t 19)⟩])
  (.seq (.block 0 (.seq (.ops [⟨(some 21), none, .mv (.t 7)⟩, ⟨(some 22), none, .bin .neq (.t 21) (.c (.int .i64 0))⟩, ⟨(some 20), none, .mv (.t 22)⟩])
  (.cond (.t 20) (.seq (.ops [⟨(some 23), none, .mv (.t 7)⟩, ⟨(some 4), none, .mv (.c (.nils))⟩, ⟨(some 5), none, .mv (.t 23)⟩])
  .ret) (.seq (.ops [⟨(some 25), none, .mv (.t 6)⟩, ⟨(some 26), none, .not (.t 25)⟩, ⟨(some 24), none, .mv (.t 26)⟩])
  (.cond (.t 24) (.seq (.ops [⟨(some 4), none, .mv (.c (.nils))⟩, ⟨(some 5), none, .mv (.c (.int .i64 5))⟩])
  .ret) .skip)))))
  (.seq (.ops [⟨(some 8), none, .mv (.c (.nils))⟩])
  (.seq (.seq (.ops [⟨(some 27), none, .mv (.t 0)⟩, ⟨(some 28), none, .len false (.t 27)⟩, ⟨(some 29), none, .mv (.c (.int .i64 0))⟩])
  (.block 1 (.loop k50_b1)))
  (.seq (.ops [⟨(some 59), none, .mv (.t 8)⟩, ⟨(some 4), none, .mv (.t 59)⟩, ⟨(some 5), none, .mv (.c (.int .i64 0))⟩])
  .ret))))))
theorem e50 {args : List PV} {σ : Heap} {K : PV → Heap → Prop} (hl : args.length ≤ 60) (h : Wf σ → (∀ a ∈ args, PV.upto σ.length a) → vc (mkCfg Try.prog mixed [56] 60 σ.length) k50 (FinK σ.length [.t 4, .t 5] K) (argEnv 0 args) σ) : ACall Try.prog 50 args σ K :=
  ACall_enter (C := mkCfg Try.prog mixed [56] 60 σ.length) (c := Try.f50.body.getD .skip) Try.func50 (by kernel_rfl) (by kernel_rfl) (by kernel_rfl) rfl hl (by kernel_rfl) (by kernel_rfl) h
/- spec.ListOfClasses -/
/- live [0, 1, 7, 8, 9, 10, 11] -/
def k49_b0 : KC := (.seq (.seq (.ops [⟨(some 37), none, .mv (.t 11)⟩, ⟨(some 38), none, .mv (.t 1)⟩, ⟨(some 39), none, .len false (.t 38)⟩, ⟨(some 40), none, .bin .lss (.t 37) (.t 39)⟩])
  (.cond (.t 40) .skip (.exit 2)))
  (.seq (.block 3 (.draw [⟨(some 43), none, .mv (.t 10)⟩, ⟨(some 44), none, .mv (.t 1)⟩, ⟨(some 45), none, .mv (.t 11)⟩, ⟨(some 46), none, .idxS 1 (.t 44) (.t 45)⟩, ⟨(some 47), none, .load false 1 (.t 46)⟩, ⟨(some 48), none, .mv (.t 1)⟩, ⟨(some 49), none, .mv (.t 0)⟩, ⟨(some 50), none, .mv (.t 9)⟩, ⟨(some 51), none, .mv (.t 11)⟩, ⟨(some 52), none, .idxS 6 (.t 49) (.t 50)⟩, ⟨(some 53), none, .fieldA 1 (.t 52)⟩, ⟨(some 54), none, .idxA 5 1 (.t 53) (.t 51)⟩, ⟨(some 55), none, .load false 1 (.t 54)⟩, ⟨(some 56), none, .idxS 1 (.t 48) (.t 55)⟩, ⟨(some 57), none, .load false 1 (.t 56)⟩, ⟨(some 58), none, .idxS 1 (.t 43) (.t 47)⟩, ⟨none, none, .store 1 (.t 58) (.t 57)⟩]))
  (.ops [⟨(some 41), none, .mv (.t 11)⟩, ⟨(some 42), none, .bin .add (.t 41) (.c (.int .i64 1))⟩, ⟨(some 11), none, .mv (.t 42)⟩])))
/- live [0, 1, 7, 8, 9] -/
def k49_b1 : KC := (.seq (.seq (.ops [⟨(some 29), none, .mv (.t 9)⟩, ⟨(some 30), none, .mv (.t 0)⟩, ⟨(some 31), none, .len false (.t 30)⟩, ⟨(some 32), none, .bin .lss (.t 29) (.t 31)⟩])
  (.cond (.t 32) .skip (.exit 0)))
  (.seq (.block 1 (.seq (.ops [⟨(some 35), none, .mv (.t 7)⟩, ⟨(some 36), none, .mks 2 1 (.int .i64 0) (.t 35) (.t 35)⟩, ⟨(some 10), none, .mv (.t 36)⟩])
  (.seq (.seq (.ops [⟨(some 11), none, .mv (.c (.int .i64 0))⟩])
  (.block 2 (.loop k49_b0)))
  (.ops [⟨(some 59), none, .mv (.t 8)⟩, ⟨(some 60), none, .mv (.t 10)⟩, ⟨(some 61), none, .call (.c (.fn (.func 84) [] [])) [(.t 60)]⟩, ⟨(some 62), none, .bsl true 27 6 [(.t 61)]⟩, ⟨(some 63), none, .app (.t 59) (.t 62) 27 6⟩, ⟨(some 8), none, .mv (.t 63)⟩]))))
  (.ops [⟨(some 33), none, .mv (.t 9)⟩, ⟨(some 34), none, .bin .add (.t 33) (.c (.int .i64 1))⟩, ⟨(some 9), none, .mv (.t 34)⟩])))
def k49 : KC := (.seq (.ops [⟨(some 4), none, .mv (.c (.nils))⟩, ⟨(some 5), none, .mv (.c (.int .i64 0))⟩])
  (.seq (.ops [⟨(some 12), none, .mv (.t 0)⟩, ⟨(some 13), none, .mv (.t 1)⟩, ⟨(some 14), none, .call (.c (.fn (.func 79) [] [])) [(.t 12), (.t 13)]⟩, ⟨(some 6), none, .mv (.t 14)⟩])
  (.seq (.seq (.ops [⟨(some 15), none, .mv (.t 6)⟩, ⟨(some 16), none, .bin .eql (.t 15) (.c (.int .i64 0))⟩, ⟨(some 17), none, .mv (.t 16)⟩, ⟨(some 18), some (17, true), .mv (.t 0)⟩, ⟨(some 19), some (17, true), .mv (.t 1)⟩, ⟨(some 20), some (17, true), .call (.c (.fn (.func 80) [] [])) [(.t 18), (.t 19)]⟩, ⟨(some 21), some (17, true), .not (.t 20)⟩, ⟨(some 22), none, .pick (.t 17) (.t 21) (.c (.bool false))⟩])
  (.cond (.t 22) (.ops [⟨(some 6), none, .mv (.c (.int .i64 5))⟩]) .skip))
  (.seq (.seq (.ops [⟨(some 23), none, .mv (.t 6)⟩, ⟨(some 24), none, .bin .neq (.t 23) (.c (.int .i64 0))⟩])
  (.cond (.t 24) (.seq (.ops [⟨(some 25), none, .mv (.t 6)⟩, ⟨(some 4), none, .mv (.c (.nils))⟩, ⟨(some 5), none, .mv (.t 25)⟩])
  .ret) .skip))
  (.seq (.ops [⟨(some 26), none, .mv (.t 1)⟩, ⟨(some 27), none, .call (.c (.fn (.func 88) [] [])) [(.t 26)]⟩, ⟨(some 28), none, .bsl false 27 6 []⟩, ⟨(some 7), none, .mv (.t 27)⟩, ⟨(some 8), none, .mv (.t 28)⟩])
  (.seq (.seq (.ops [⟨(some 9), none, .mv (.c (.int .i64 0))⟩])
  (.block 0 (.loop k49_b1)))
  (.seq (.ops [⟨(some 64), none, .mv (.t 8)⟩, ⟨(some 4), none, .mv (.t 64)⟩, ⟨(some 5), none, .mv (.c (.int .i64 0))⟩])
  .ret)))))))
theorem e49 {args : List PV} {σ : Heap} {K : PV → Heap → Prop} (hl : args.length ≤ 65) (h : Wf σ → (∀ a ∈ args, PV.upto σ.length a) → vc (mkCfg Try.prog mixed [62] 65 σ.length) k49 (FinK σ.length [.t 4, .t 5] K) (argEnv 0 args) σ) : ACall Try.prog 49 args σ K :=
  ACall_enter (C := mkCfg Try.prog mixed [62] 65 σ.length) (c := Try.f49.body.getD .skip) Try.func49 (by kernel_rfl) (by kernel_rfl) (by kernel_rfl) rfl hl (by kernel_rfl) (by kernel_rfl) h
end Go.Proofs.Ytkljidghocnllaa
