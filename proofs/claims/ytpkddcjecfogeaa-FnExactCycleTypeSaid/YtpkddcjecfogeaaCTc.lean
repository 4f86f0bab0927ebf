/- The compact code of functions of the seat, and how their calls are entered: printed by this session's own program. -/
import Derived.Test.YtpkddcjecfogeaaCb
namespace Go.Proofs.Ytpkddcjecfogeaa
open Go.Kv
set_option maxRecDepth 100000
/- impl.CycleType -/
/- live [1, 4, 14, 15, 16] -/
def k16_b0 : KC := (.seq (.ops [⟨(some 17), none, .bin .lss (.t 16) (.t 15)⟩])
  (.seq (.cond (.t 17) .skip (.exit 0))
  (.seq (.block 1 (.seq (.ops [⟨(some 18), none, .idxS 1 (.t 14) (.t 16)⟩, ⟨(some 19), none, .load false 1 (.t 18)⟩, ⟨(some 6), none, .mv (.t 19)⟩])
  (.seq (.ops [⟨(some 20), none, .load true 6 (.t 1)⟩, ⟨(some 21), none, .mv (.t 6)⟩, ⟨(some 22), none, .call (.c (.fn (.func 55) [] [])) [(.t 20), (.t 21)]⟩, ⟨(some 7), none, .mv (.t 22)⟩])
  (.seq (.ops [⟨(some 23), none, .mv (.t 7)⟩, ⟨(some 24), none, .call (.c (.fn (.func 56) [] [])) [(.t 23)]⟩, ⟨(some 25), none, .mv (.t 6)⟩, ⟨(some 26), none, .bin .eql (.t 24) (.t 25)⟩])
  (.cond (.t 26) (.ops [⟨(some 27), none, .mv (.t 4)⟩, ⟨(some 28), none, .mv (.t 7)⟩, ⟨(some 29), none, .len false (.t 28)⟩, ⟨(some 30), none, .bsl true 2 1 [(.t 29)]⟩, ⟨(some 31), none, .app (.t 27) (.t 30) 2 1⟩, ⟨(some 4), none, .mv (.t 31)⟩]) .skip)))))
  (.ops [⟨(some 32), none, .bin .add (.t 16) (.c (.int .i64 1))⟩, ⟨(some 16), none, .mv (.t 32)⟩]))))
def k16 : KC := (.seq (.ops [⟨(some 1), none, .box true (.t 0)⟩, ⟨(some 2), none, .mv (.c (.nils))⟩, ⟨(some 3), none, .mv (.c (.int .i64 0))⟩])
  (.seq (.seq (.ops [⟨(some 8), none, .load true 6 (.t 1)⟩, ⟨(some 9), none, .call (.c (.fn (.func 52) [] [])) [(.t 8)]⟩, ⟨(some 10), none, .not (.t 9)⟩])
  (.cond (.t 10) (.seq (.ops [⟨(some 2), none, .mv (.c (.nils))⟩, ⟨(some 3), none, .mv (.c (.int .i64 1))⟩])
  .ret) .skip))
  (.seq (.ops [⟨(some 4), none, .mv (.c (.nils))⟩])
  (.seq (.seq (.ops [⟨(some 11), none, .load true 6 (.t 1)⟩, ⟨(some 12), none, .load true 6 (.t 1)⟩, ⟨(some 13), none, .mkfn (.func 54) [(.t 12)] []⟩, ⟨(some 14), none, .call (.c (.fn (.func 53) [] [])) [(.t 11), (.t 13)]⟩, ⟨(some 15), none, .len false (.t 14)⟩, ⟨(some 16), none, .mv (.c (.int .i64 0))⟩])
  (.block 0 (.loop k16_b0)))
  (.seq (.ops [⟨(some 33), none, .mv (.t 4)⟩, ⟨(some 34), none, .call (.c (.fn (.func 57) [] [])) [(.t 33), (.c (.fn (.func 58) [] []))]⟩])
  (.seq (.ops [⟨(some 35), none, .mv (.t 4)⟩, ⟨(some 2), none, .mv (.t 35)⟩, ⟨(some 3), none, .mv (.c (.int .i64 0))⟩])
  .ret))))))
theorem e16 {args : List PV} {σ : Heap} {K : PV → Heap → Prop} (hl : args.length ≤ 36) (h : Wf σ → (∀ a ∈ args, PV.upto σ.length a) → vc (mkCfg Try.prog mixed [1, 30] 36 σ.length) k16 (FinK σ.length [.t 2, .t 3] K) (argEnv 0 args) σ) : ACall Try.prog 16 args σ K :=
  ACall_enter (C := mkCfg Try.prog mixed [1, 30] 36 σ.length) (c := Try.f16.body.getD .skip) Try.func16 (by kernel_rfl) (by kernel_rfl) (by kernel_rfl) rfl hl (by kernel_rfl) (by kernel_rfl) h
/- impl.CycleType$1 -/
def k58 : KC := (.seq (.ops [⟨(some 4), none, .mv (.c (.int .i64 0))⟩])
  (.seq (.ops [⟨(some 5), none, .mv (.t 1)⟩, ⟨(some 6), none, .mv (.t 0)⟩, ⟨(some 7), none, .call (.c (.fn (.func 59) [] [])) [(.t 5), (.t 6)]⟩, ⟨(some 4), none, .mv (.t 7)⟩])
  .ret))
theorem e58 {args : List PV} {σ : Heap} {K : PV → Heap → Prop} (hl : args.length ≤ 8) (h : Wf σ → (∀ a ∈ args, PV.upto σ.length a) → vc (mkCfg Try.prog mixed [] 8 σ.length) k58 (FinK σ.length [.t 4] K) (argEnv 0 args) σ) : ACall Try.prog 58 args σ K :=
  ACall_enter (C := mkCfg Try.prog mixed [] 8 σ.length) (c := Try.f58.body.getD .skip) Try.func58 (by kernel_rfl) (by kernel_rfl) (by kernel_rfl) rfl hl (by kernel_rfl) (by kernel_rfl) h
/- (impl.Map).where -/
def k53 : KC := (.seq (.ops [⟨(some 2), none, .box true (.t 0)⟩, ⟨(some 3), none, .box true (.t 1)⟩, ⟨(some 4), none, .mv (.c (.nils))⟩])
  (.seq (.ops [⟨(some 5), none, .fieldA 0 (.t 2)⟩, ⟨(some 6), none, .load false 1 (.t 5)⟩, ⟨(some 7), none, .call (.c (.fn (.func 103) [] [])) [(.t 6)]⟩, ⟨(some 8), none, .mkfn (.func 111) [] [(.t 3)]⟩, ⟨(some 9), none, .call (.c (.fn (.func 102) [] [])) [(.t 7), (.t 8)]⟩, ⟨(some 4), none, .mv (.t 9)⟩])
  .ret))
theorem e53 {args : List PV} {σ : Heap} {K : PV → Heap → Prop} (hl : args.length ≤ 10) (h : Wf σ → (∀ a ∈ args, PV.upto σ.length a) → vc (mkCfg Try.prog mixed [2, 3] 10 σ.length) k53 (FinK σ.length [.t 4] K) (argEnv 0 args) σ) : ACall Try.prog 53 args σ K :=
  ACall_enter (C := mkCfg Try.prog mixed [2, 3] 10 σ.length) (c := Try.f53.body.getD .skip) Try.func53 (by kernel_rfl) (by kernel_rfl) (by kernel_rfl) rfl hl (by kernel_rfl) (by kernel_rfl) h
/- (impl.Map).where$1 -/
def k111 : KC := (.seq (.ops [⟨(some 3), none, .mv (.c (.bool false))⟩])
  (.seq (.ops [⟨(some 4), none, .load false 1 (.t 1)⟩, ⟨(some 5), none, .mv (.t 0)⟩, ⟨(some 6), none, .call (.t 4) [(.t 5)]⟩, ⟨(some 7), none, .not (.t 6)⟩, ⟨(some 3), none, .mv (.t 7)⟩])
  .ret))
theorem e111 {args : List PV} {σ : Heap} {K : PV → Heap → Prop} (hl : args.length ≤ 8) (h : Wf σ → (∀ a ∈ args, PV.upto σ.length a) → vc (mkCfg Try.prog mixed [] 8 σ.length) k111 (FinK σ.length [.t 3] K) (argEnv 0 args) σ) : ACall Try.prog 111 args σ K :=
  ACall_enter (C := mkCfg Try.prog mixed [] 8 σ.length) (c := Try.f111.body.getD .skip) Try.func111 (by kernel_rfl) (by kernel_rfl) (by kernel_rfl) rfl hl (by kernel_rfl) (by kernel_rfl) h
/- spec.CycleType -/
/- live [1, 4, 5, 6, 7, 8, 50, 51, 52, 53, 54, 55, 56] -/
def k14_b0 : KC := (.seq (.seq (.ops [⟨(some 32), none, .mv (.t 8)⟩, ⟨(some 33), none, .mv (.t 6)⟩, ⟨(some 34), none, .bin .neq (.t 32) (.t 33)⟩])
  (.cond (.t 34) .skip (.exit 2)))
  (.seq (.block 3 (.ops [⟨(some 39), none, .mv (.t 7)⟩, ⟨(some 40), none, .bin .add (.t 39) (.c (.int .i64 1))⟩, ⟨(some 7), none, .mv (.t 40)⟩]))
  (.ops [⟨(some 35), none, .mv (.t 8)⟩, ⟨(some 36), none, .fieldA 1 (.t 1)⟩, ⟨(some 37), none, .idxA 5 1 (.t 36) (.t 35)⟩, ⟨(some 38), none, .load false 1 (.t 37)⟩, ⟨(some 8), none, .mv (.t 38)⟩])))
/- live [1, 4, 5, 6, 7, 9, 50, 51, 52, 53, 54, 55, 56] -/
def k14_b1 : KC := (.seq (.seq (.ops [⟨(some 47), none, .mv (.t 9)⟩, ⟨(some 48), none, .bin .gtr (.t 47) (.c (.int .i64 0))⟩, ⟨(some 49), none, .mv (.t 48)⟩, ⟨(some 50), some (49, true), .mv (.t 5)⟩, ⟨(some 51), some (49, true), .mv (.t 9)⟩, ⟨(some 52), some (49, true), .bin .sub (.t 51) (.c (.int .i64 1))⟩, ⟨(some 53), some (49, true), .idxS 1 (.t 50) (.t 52)⟩, ⟨(some 54), some (49, true), .load false 1 (.t 53)⟩, ⟨(some 55), some (49, true), .mv (.t 7)⟩, ⟨(some 56), some (49, true), .bin .lss (.t 54) (.t 55)⟩, ⟨(some 57), none, .pick (.t 49) (.t 56) (.c (.bool false))⟩])
  (.cond (.t 57) .skip (.exit 4)))
  (.block 5 (.seq (.ops [⟨(some 58), none, .mv (.t 5)⟩, ⟨(some 59), none, .mv (.t 9)⟩, ⟨(some 60), none, .mv (.t 5)⟩, ⟨(some 61), none, .mv (.t 9)⟩, ⟨(some 62), none, .bin .sub (.t 61) (.c (.int .i64 1))⟩, ⟨(some 63), none, .idxS 1 (.t 60) (.t 62)⟩, ⟨(some 64), none, .load false 1 (.t 63)⟩, ⟨(some 65), none, .idxS 1 (.t 58) (.t 59)⟩, ⟨none, none, .store 1 (.t 65) (.t 64)⟩])
  (.ops [⟨(some 66), none, .mv (.t 9)⟩, ⟨(some 67), none, .bin .sub (.t 66) (.c (.int .i64 1))⟩, ⟨(some 9), none, .mv (.t 67)⟩]))))
/- live [1, 4, 5, 6, 50, 51, 52, 53, 54, 55, 56] -/
def k14_b2 : KC := (.seq (.seq (.ops [⟨(some 16), none, .mv (.t 6)⟩, ⟨(some 17), none, .fieldA 0 (.t 1)⟩, ⟨(some 18), none, .load false 1 (.t 17)⟩, ⟨(some 19), none, .bin .lss (.t 16) (.t 18)⟩])
  (.cond (.t 19) .skip (.exit 0)))
  (.seq (.block 1 (.seq (.seq (.ops [⟨(some 22), none, .mv (.t 4)⟩, ⟨(some 23), none, .mv (.t 6)⟩, ⟨(some 24), none, .idxS 1 (.t 22) (.t 23)⟩, ⟨(some 25), none, .load false 1 (.t 24)⟩, ⟨(some 26), none, .mv (.t 6)⟩, ⟨(some 27), none, .bin .neq (.t 25) (.t 26)⟩])
  (.cond (.t 27) (.exit 1) .skip))
  (.seq (.ops [⟨(some 7), none, .mv (.c (.int .i64 1))⟩])
  (.seq (.seq (.ops [⟨(some 28), none, .mv (.t 6)⟩, ⟨(some 29), none, .fieldA 1 (.t 1)⟩, ⟨(some 30), none, .idxA 5 1 (.t 29) (.t 28)⟩, ⟨(some 31), none, .load false 1 (.t 30)⟩, ⟨(some 8), none, .mv (.t 31)⟩])
  (.block 2 (.loop k14_b0)))
  (.seq (.ops [⟨(some 41), none, .mv (.t 5)⟩, ⟨(some 42), none, .len false (.t 41)⟩, ⟨(some 9), none, .mv (.t 42)⟩])
  (.seq (.ops [⟨(some 43), none, .mv (.t 5)⟩, ⟨(some 44), none, .mv (.t 7)⟩, ⟨(some 45), none, .bsl true 2 1 [(.t 44)]⟩, ⟨(some 46), none, .app (.t 43) (.t 45) 2 1⟩, ⟨(some 5), none, .mv (.t 46)⟩])
  (.seq (.block 4 (.loop k14_b1))
  (.ops [⟨(some 68), none, .mv (.t 5)⟩, ⟨(some 69), none, .mv (.t 9)⟩, ⟨(some 70), none, .mv (.t 7)⟩, ⟨(some 71), none, .idxS 1 (.t 68) (.t 69)⟩, ⟨none, none, .store 1 (.t 71) (.t 70)⟩]))))))))
  (.ops [⟨(some 20), none, .mv (.t 6)⟩, ⟨(some 21), none, .bin .add (.t 20) (.c (.int .i64 1))⟩, ⟨(some 6), none, .mv (.t 21)⟩])))
def k14 : KC := (.seq (.ops [⟨(some 1), none, .box true (.t 0)⟩, ⟨(some 2), none, .mv (.c (.nils))⟩, ⟨(some 3), none, .mv (.c (.int .i64 0))⟩])
  (.seq (.seq (.ops [⟨(some 10), none, .load true 6 (.t 1)⟩, ⟨(some 11), none, .call (.c (.fn (.func 49) [] [])) [(.t 10)]⟩, ⟨(some 12), none, .not (.t 11)⟩])
  (.cond (.t 12) (.seq (.ops [⟨(some 2), none, .mv (.c (.nils))⟩, ⟨(some 3), none, .mv (.c (.int .i64 1))⟩])
  .ret) .skip))
  (.seq (.ops [⟨(some 13), none, .load true 6 (.t 1)⟩, ⟨(some 14), none, .call (.c (.fn (.func 50) [] [])) [(.t 13)]⟩, ⟨(some 15), none, .bsl false 2 1 []⟩, ⟨(some 4), none, .mv (.t 14)⟩, ⟨(some 5), none, .mv (.t 15)⟩])
  (.seq (.seq (.ops [⟨(some 6), none, .mv (.c (.int .i64 0))⟩])
  (.block 0 (.loop k14_b2)))
  (.seq (.ops [⟨(some 72), none, .mv (.t 5)⟩, ⟨(some 2), none, .mv (.t 72)⟩, ⟨(some 3), none, .mv (.c (.int .i64 0))⟩])
  .ret)))))
theorem e14 {args : List PV} {σ : Heap} {K : PV → Heap → Prop} (hl : args.length ≤ 73) (h : Wf σ → (∀ a ∈ args, PV.upto σ.length a) → vc (mkCfg Try.prog mixed [1, 45] 73 σ.length) k14 (FinK σ.length [.t 2, .t 3] K) (argEnv 0 args) σ) : ACall Try.prog 14 args σ K :=
  ACall_enter (C := mkCfg Try.prog mixed [1, 45] 73 σ.length) (c := Try.f14.body.getD .skip) Try.func14 (by kernel_rfl) (by kernel_rfl) (by kernel_rfl) rfl hl (by kernel_rfl) (by kernel_rfl) h
end Go.Proofs.Ytpkddcjecfogeaa
