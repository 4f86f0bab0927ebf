/- The compact code of functions of the seat, and how their calls are entered: printed by this session's own program. -/
import Derived.Test.YtkljidghocnllaaCb
namespace Go.Proofs.Ytkljidghocnllaa
open Go.Kv
set_option maxRecDepth 100000
/- spec.l08Fits -/
/- live [0, 1, 2, 7, 8, 51, 52, 53, 54, 55, 56, 57, 58, 59, 60, 61, 62, 63, 64, 65, 66, 67, 68] -/
def k110_b0 : KC := (.seq (.seq (.ops [⟨(some 14), none, .mv (.t 8)⟩, ⟨(some 15), none, .bin .add (.t 14) (.c (.int .i64 1))⟩, ⟨(some 16), none, .mv (.t 7)⟩, ⟨(some 17), none, .bin .lss (.t 15) (.t 16)⟩])
  (.cond (.t 17) .skip (.exit 0)))
  (.seq (.block 1 (.seq (.draw [⟨(some 20), none, .mv (.t 2)⟩, ⟨(some 21), none, .mv (.t 8)⟩, ⟨(some 22), none, .idxS 1 (.t 20) (.t 21)⟩, ⟨(some 23), none, .load false 1 (.t 22)⟩, ⟨(some 24), none, .mv (.t 2)⟩, ⟨(some 25), none, .mv (.t 7)⟩, ⟨(some 26), none, .bin .sub (.t 25) (.c (.int .i64 1))⟩, ⟨(some 27), none, .idxS 1 (.t 24) (.t 26)⟩, ⟨(some 28), none, .load false 1 (.t 27)⟩, ⟨(some 29), none, .bin .eql (.t 23) (.t 28)⟩])
  (.cond (.t 29) (.seq (.ops [⟨(some 6), none, .mv (.c (.bool false))⟩])
  .ret) .skip)))
  (.ops [⟨(some 18), none, .mv (.t 8)⟩, ⟨(some 19), none, .bin .add (.t 18) (.c (.int .i64 1))⟩, ⟨(some 8), none, .mv (.t 19)⟩])))
/- live [0, 1, 2, 7, 9, 10, 51, 52, 53, 54, 55, 56, 57, 58, 59, 60, 61, 62, 63, 64, 65, 66, 67, 68] -/
def k110_b1 : KC := (.seq (.seq (.ops [⟨(some 35), none, .mv (.t 10)⟩, ⟨(some 36), none, .mv (.t 7)⟩, ⟨(some 37), none, .bin .lss (.t 35) (.t 36)⟩])
  (.cond (.t 37) .skip (.exit 4)))
  (.seq (.block 5 (.seq (.ops [⟨(some 40), none, .mv (.t 0)⟩, ⟨(some 41), none, .mv (.t 9)⟩, ⟨(some 42), none, .idxS 1 (.t 40) (.t 41)⟩, ⟨(some 43), none, .load false 1 (.t 42)⟩, ⟨(some 44), none, .mv (.t 10)⟩, ⟨(some 45), none, .idxS 1 (.t 43) (.t 44)⟩, ⟨(some 46), none, .load false 1 (.t 45)⟩, ⟨(some 11), none, .mv (.t 46)⟩])
  (.seq (.draw [⟨(some 47), none, .mv (.t 11)⟩, ⟨(some 48), none, .mv (.t 7)⟩, ⟨(some 49), none, .bin .lss (.t 47) (.t 48)⟩, ⟨(some 50), none, .mv (.t 49)⟩, ⟨(some 51), some (50, true), .mv (.t 2)⟩, ⟨(some 52), some (50, true), .mv (.t 11)⟩, ⟨(some 53), some (50, true), .idxS 1 (.t 51) (.t 52)⟩, ⟨(some 54), some (50, true), .load false 1 (.t 53)⟩, ⟨(some 55), some (50, true), .mv (.t 1)⟩, ⟨(some 56), some (50, true), .mv (.t 2)⟩, ⟨(some 57), some (50, true), .mv (.t 9)⟩, ⟨(some 58), some (50, true), .idxS 1 (.t 56) (.t 57)⟩, ⟨(some 59), some (50, true), .load false 1 (.t 58)⟩, ⟨(some 60), some (50, true), .idxS 1 (.t 55) (.t 59)⟩, ⟨(some 61), some (50, true), .load false 1 (.t 60)⟩, ⟨(some 62), some (50, true), .mv (.t 2)⟩, ⟨(some 63), some (50, true), .mv (.t 10)⟩, ⟨(some 64), some (50, true), .idxS 1 (.t 62) (.t 63)⟩, ⟨(some 65), some (50, true), .load false 1 (.t 64)⟩, ⟨(some 66), some (50, true), .idxS 1 (.t 61) (.t 65)⟩, ⟨(some 67), some (50, true), .load false 1 (.t 66)⟩, ⟨(some 68), some (50, true), .bin .neq (.t 54) (.t 67)⟩, ⟨(some 69), none, .pick (.t 50) (.t 68) (.c (.bool false))⟩])
  (.cond (.t 69) (.seq (.ops [⟨(some 6), none, .mv (.c (.bool false))⟩])
  .ret) .skip))))
  (.ops [⟨(some 38), none, .mv (.t 10)⟩, ⟨(some 39), none, .bin .add (.t 38) (.c (.int .i64 1))⟩, ⟨(some 10), none, .mv (.t 39)⟩])))
/- live [0, 1, 2, 7, 9, 51, 52, 53, 54, 55, 56, 57, 58, 59, 60, 61, 62, 63, 64, 65, 66, 67, 68] -/
def k110_b2 : KC := (.seq (.seq (.ops [⟨(some 30), none, .mv (.t 9)⟩, ⟨(some 31), none, .mv (.t 7)⟩, ⟨(some 32), none, .bin .lss (.t 30) (.t 31)⟩])
  (.cond (.t 32) .skip (.exit 2)))
  (.seq (.block 3 (.seq (.ops [⟨(some 10), none, .mv (.c (.int .i64 0))⟩])
  (.block 4 (.loop k110_b1))))
  (.ops [⟨(some 33), none, .mv (.t 9)⟩, ⟨(some 34), none, .bin .add (.t 33) (.c (.int .i64 1))⟩, ⟨(some 9), none, .mv (.t 34)⟩])))
def k110 : KC := (.seq (.ops [⟨(some 6), none, .mv (.c (.bool false))⟩])
  (.seq (.ops [⟨(some 12), none, .mv (.t 2)⟩, ⟨(some 13), none, .len false (.t 12)⟩, ⟨(some 7), none, .mv (.t 13)⟩])
  (.seq (.seq (.ops [⟨(some 8), none, .mv (.c (.int .i64 0))⟩])
  (.block 0 (.loop k110_b0)))
  (.seq (.seq (.ops [⟨(some 9), none, .mv (.c (.int .i64 0))⟩])
  (.block 2 (.loop k110_b2)))
  (.seq (.ops [⟨(some 6), none, .mv (.c (.bool true))⟩])
  .ret)))))
theorem e110 {args : List PV} {σ : Heap} {K : PV → Heap → Prop} (hl : args.length ≤ 70) (h : Wf σ → (∀ a ∈ args, PV.upto σ.length a) → vc (mkCfg Try.prog mixed [] 70 σ.length) k110 (FinK σ.length [.t 6] K) (argEnv 0 args) σ) : ACall Try.prog 110 args σ K :=
  ACall_enter (C := mkCfg Try.prog mixed [] 70 σ.length) (c := Try.f110.body.getD .skip) Try.func110 (by kernel_rfl) (by kernel_rfl) (by kernel_rfl) rfl hl (by kernel_rfl) (by kernel_rfl) h
/- spec.l01Own -/
def k109 : KC := (.seq (.ops [⟨(some 2), none, .mv (.c (.nils))⟩])
  (.seq (.ops [⟨(some 3), none, .bsl false 2 1 []⟩, ⟨(some 4), none, .mv (.t 0)⟩, ⟨(some 5), none, .app (.t 3) (.t 4) 2 1⟩, ⟨(some 2), none, .mv (.t 5)⟩])
  .ret))
theorem e109 {args : List PV} {σ : Heap} {K : PV → Heap → Prop} (hl : args.length ≤ 6) (h : Wf σ → (∀ a ∈ args, PV.upto σ.length a) → vc (mkCfg Try.prog mixed [] 6 σ.length) k109 (FinK σ.length [.t 2] K) (argEnv 0 args) σ) : ACall Try.prog 109 args σ K :=
  ACall_enter (C := mkCfg Try.prog mixed [] 6 σ.length) (c := Try.f109.body.getD .skip) Try.func109 (by kernel_rfl) (by kernel_rfl) (by kernel_rfl) rfl hl (by kernel_rfl) (by kernel_rfl) h
/- spec.l08Count -/
/- live [0, 1, 5, 6] -/
def k67_b0 : KC := (.seq (.seq (.ops [⟨(some 13), none, .mv (.t 6)⟩, ⟨(some 14), none, .mv (.t 0)⟩, ⟨(some 15), none, .len false (.t 14)⟩, ⟨(some 16), none, .bin .lss (.t 13) (.t 15)⟩])
  (.cond (.t 16) .skip (.exit 0)))
  (.seq (.block 1 (.seq (.ops [⟨(some 19), none, .mv (.t 1)⟩, ⟨(some 20), none, .call (.c (.fn (.func 109) [] [])) [(.t 19)]⟩, ⟨(some 21), none, .mv (.t 6)⟩, ⟨(some 22), none, .bsl true 2 1 [(.t 21)]⟩, ⟨(some 23), none, .app (.t 20) (.t 22) 2 1⟩, ⟨(some 7), none, .mv (.t 23)⟩])
  (.seq (.ops [⟨(some 24), none, .mv (.t 0)⟩, ⟨(some 25), none, .mv (.t 0)⟩, ⟨(some 26), none, .mv (.t 7)⟩, ⟨(some 27), none, .call (.c (.fn (.func 110) [] [])) [(.t 24), (.t 25), (.t 26)]⟩])
  (.cond (.t 27) (.ops [⟨(some 28), none, .mv (.t 5)⟩, ⟨(some 29), none, .mv (.t 0)⟩, ⟨(some 30), none, .mv (.t 7)⟩, ⟨(some 31), none, .call (.c (.fn (.func 67) [] [])) [(.t 29), (.t 30)]⟩, ⟨(some 32), none, .bin .add (.t 28) (.t 31)⟩, ⟨(some 5), none, .mv (.t 32)⟩]) .skip))))
  (.ops [⟨(some 17), none, .mv (.t 6)⟩, ⟨(some 18), none, .bin .add (.t 17) (.c (.int .i64 1))⟩, ⟨(some 6), none, .mv (.t 18)⟩])))
def k67 : KC := (.seq (.ops [⟨(some 4), none, .mv (.c (.int .i64 0))⟩])
  (.seq (.seq (.ops [⟨(some 8), none, .mv (.t 1)⟩, ⟨(some 9), none, .len false (.t 8)⟩, ⟨(some 10), none, .mv (.t 0)⟩, ⟨(some 11), none, .len false (.t 10)⟩, ⟨(some 12), none, .bin .eql (.t 9) (.t 11)⟩])
  (.cond (.t 12) (.seq (.ops [⟨(some 4), none, .mv (.c (.int .i64 1))⟩])
  .ret) .skip))
  (.seq (.ops [⟨(some 5), none, .mv (.c (.int .i64 0))⟩])
  (.seq (.seq (.ops [⟨(some 6), none, .mv (.c (.int .i64 0))⟩])
  (.block 0 (.loop k67_b0)))
  (.seq (.ops [⟨(some 33), none, .mv (.t 5)⟩, ⟨(some 4), none, .mv (.t 33)⟩])
  .ret)))))
theorem e67 {args : List PV} {σ : Heap} {K : PV → Heap → Prop} (hl : args.length ≤ 34) (h : Wf σ → (∀ a ∈ args, PV.upto σ.length a) → vc (mkCfg Try.prog mixed [22] 34 σ.length) k67 (FinK σ.length [.t 4] K) (argEnv 0 args) σ) : ACall Try.prog 67 args σ K :=
  ACall_enter (C := mkCfg Try.prog mixed [22] 34 σ.length) (c := Try.f67.body.getD .skip) Try.func67 (by kernel_rfl) (by kernel_rfl) (by kernel_rfl) rfl hl (by kernel_rfl) (by kernel_rfl) h
/- spec.CountTableSymmetries -/
def k24 : KC := (.seq (.ops [⟨(some 2), none, .mv (.c (.int .i64 0))⟩, ⟨(some 3), none, .mv (.c (.int .i64 0))⟩])
  (.seq (.block 0 (.seq (.ops [⟨(some 5), none, .mv (.t 0)⟩, ⟨(some 6), none, .call (.c (.fn (.func 66) [] [])) [(.t 5)]⟩, ⟨(some 7), none, .not (.t 6)⟩, ⟨(some 4), none, .mv (.t 7)⟩])
  (.cond (.t 4) (.seq (.ops [⟨(some 2), none, .mv (.c (.int .i64 0))⟩, ⟨(some 3), none, .mv (.c (.int .i64 2))⟩])
  .ret) (.seq (.ops [⟨(some 9), none, .mv (.t 0)⟩, ⟨(some 10), none, .len false (.t 9)⟩, ⟨(some 11), none, .bin .gtr (.t 10) (.c (.int .i64 10))⟩, ⟨(some 8), none, .mv (.t 11)⟩])
  (.cond (.t 8) (.seq (.ops [⟨(some 2), none, .mv (.c (.int .i64 0))⟩, ⟨(some 3), none, .mv (.c (.int .i64 3))⟩])
  .ret) .skip)))))
  (.seq (.ops [⟨(some 12), none, .mv (.t 0)⟩, ⟨(some 13), none, .bsl false 2 1 []⟩, ⟨(some 14), none, .call (.c (.fn (.func 67) [] [])) [(.t 12), (.t 13)]⟩, ⟨(some 2), none, .mv (.t 14)⟩, ⟨(some 3), none, .mv (.c (.int .i64 0))⟩])
  .ret)))
theorem e24 {args : List PV} {σ : Heap} {K : PV → Heap → Prop} (hl : args.length ≤ 15) (h : Wf σ → (∀ a ∈ args, PV.upto σ.length a) → vc (mkCfg Try.prog mixed [] 15 σ.length) k24 (FinK σ.length [.t 2, .t 3] K) (argEnv 0 args) σ) : ACall Try.prog 24 args σ K :=
  ACall_enter (C := mkCfg Try.prog mixed [] 15 σ.length) (c := Try.f24.body.getD .skip) Try.func24 (by kernel_rfl) (by kernel_rfl) (by kernel_rfl) rfl hl (by kernel_rfl) (by kernel_rfl) h
end Go.Proofs.Ytkljidghocnllaa
