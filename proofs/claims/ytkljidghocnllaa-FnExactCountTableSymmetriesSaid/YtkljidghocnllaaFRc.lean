/- The compact code of functions of the seat, and how their calls are entered: printed by this session's own program. -/
import Derived.Test.YtkljidghocnllaaCb
namespace Go.Proofs.Ytkljidghocnllaa
open Go.Kv
set_option maxRecDepth 100000
/- (*impl.finder).from -/
/- live [0, 29, 30, 58, 59] -/
def k70_b0 : KC := (.seq (.ops [⟨(some 31), none, .bin .lss (.t 30) (.t 29)⟩])
  (.seq (.cond (.t 31) .skip (.exit 0))
  (.seq (.block 1 (.seq (.ops [⟨(some 32), none, .mv (.t 30)⟩, ⟨(some 3), none, .mv (.t 32)⟩])
  (.seq (.seq (.ops [⟨(some 33), none, .mv (.t 0)⟩, ⟨(some 34), none, .mv (.t 3)⟩, ⟨(some 35), none, .nilck (.t 33)⟩, ⟨(some 36), none, .fieldA 3 (.t 35)⟩, ⟨(some 37), none, .idxA 10 1 (.t 36) (.t 34)⟩, ⟨(some 38), none, .load false 1 (.t 37)⟩])
  (.cond (.t 38) (.exit 1) .skip))
  (.seq (.ops [⟨(some 39), none, .mv (.t 0)⟩, ⟨(some 40), none, .mv (.t 3)⟩, ⟨(some 41), none, .nilck (.t 39)⟩, ⟨(some 42), none, .fieldA 3 (.t 41)⟩, ⟨(some 43), none, .idxA 10 1 (.t 42) (.t 40)⟩, ⟨none, none, .store 1 (.t 43) (.c (.bool true))⟩])
  (.seq (.ops [⟨(some 44), none, .mv (.t 0)⟩, ⟨(some 45), none, .mv (.t 0)⟩, ⟨(some 46), none, .nilck (.t 45)⟩, ⟨(some 47), none, .fieldA 2 (.t 46)⟩, ⟨(some 48), none, .load false 1 (.t 47)⟩, ⟨(some 49), none, .mv (.t 3)⟩, ⟨(some 50), none, .bsl true 2 1 [(.t 49)]⟩, ⟨(some 51), none, .app (.t 48) (.t 50) 2 1⟩, ⟨(some 52), none, .nilck (.t 44)⟩, ⟨(some 53), none, .fieldA 2 (.t 52)⟩, ⟨none, none, .store 1 (.t 53) (.t 51)⟩])
  (.seq (.ops [⟨(some 54), none, .mv (.t 0)⟩, ⟨(some 55), none, .call (.c (.fn (.func 115) [] [])) [(.t 54)]⟩, ⟨(some 56), none, .not (.t 55)⟩, ⟨(some 57), none, .mv (.t 56)⟩, ⟨(some 58), some (57, false), .mv (.t 0)⟩, ⟨(some 59), some (57, false), .call (.c (.fn (.func 70) [] [])) [(.t 58)]⟩, ⟨(some 60), none, .pick (.t 57) (.c (.bool true)) (.t 59)⟩, ⟨(some 4), none, .mv (.t 60)⟩])
  (.seq (.draw [⟨(some 61), none, .mv (.t 0)⟩, ⟨(some 62), none, .mv (.t 0)⟩, ⟨(some 63), none, .nilck (.t 62)⟩, ⟨(some 64), none, .fieldA 2 (.t 63)⟩, ⟨(some 65), none, .load false 1 (.t 64)⟩, ⟨(some 66), none, .mv (.t 0)⟩, ⟨(some 67), none, .nilck (.t 66)⟩, ⟨(some 68), none, .fieldA 2 (.t 67)⟩, ⟨(some 69), none, .load false 1 (.t 68)⟩, ⟨(some 70), none, .len false (.t 69)⟩, ⟨(some 71), none, .bin .sub (.t 70) (.c (.int .i64 1))⟩, ⟨(some 72), none, .sls 1 (.t 65) none (some (.t 71))⟩, ⟨(some 73), none, .nilck (.t 61)⟩, ⟨(some 74), none, .fieldA 2 (.t 73)⟩, ⟨none, none, .store 1 (.t 74) (.t 72)⟩])
  (.seq (.ops [⟨(some 75), none, .mv (.t 0)⟩, ⟨(some 76), none, .mv (.t 3)⟩, ⟨(some 77), none, .nilck (.t 75)⟩, ⟨(some 78), none, .fieldA 3 (.t 77)⟩, ⟨(some 79), none, .idxA 10 1 (.t 78) (.t 76)⟩, ⟨none, none, .store 1 (.t 79) (.c (.bool false))⟩])
  (.seq (.ops [⟨(some 80), none, .mv (.t 4)⟩, ⟨(some 81), none, .not (.t 80)⟩])
  (.cond (.t 81) (.seq (.ops [⟨(some 2), none, .mv (.c (.bool false))⟩])
  .ret) .skip))))))))))
  (.ops [⟨(some 82), none, .bin .add (.t 30) (.c (.int .i64 1))⟩, ⟨(some 30), none, .mv (.t 82)⟩]))))
def k70 : KC := (.seq (.ops [⟨(some 2), none, .mv (.c (.bool false))⟩])
  (.seq (.seq (.draw [⟨(some 5), none, .mv (.t 0)⟩, ⟨(some 6), none, .nilck (.t 5)⟩, ⟨(some 7), none, .fieldA 2 (.t 6)⟩, ⟨(some 8), none, .load false 1 (.t 7)⟩, ⟨(some 9), none, .len false (.t 8)⟩, ⟨(some 10), none, .mv (.t 0)⟩, ⟨(some 11), none, .nilck (.t 10)⟩, ⟨(some 12), none, .fieldA 0 (.t 11)⟩, ⟨(some 13), none, .load false 1 (.t 12)⟩, ⟨(some 14), none, .len false (.t 13)⟩, ⟨(some 15), none, .bin .eql (.t 9) (.t 14)⟩])
  (.cond (.t 15) (.seq (.draw [⟨(some 16), none, .mv (.t 0)⟩, ⟨(some 17), none, .nilck (.t 16)⟩, ⟨(some 18), none, .fieldA 13 (.t 17)⟩, ⟨(some 19), none, .load false 1 (.t 18)⟩, ⟨(some 20), none, .mv (.t 0)⟩, ⟨(some 21), none, .nilck (.t 20)⟩, ⟨(some 22), none, .fieldA 2 (.t 21)⟩, ⟨(some 23), none, .load false 1 (.t 22)⟩, ⟨(some 24), none, .call (.t 19) [(.t 23)]⟩, ⟨(some 2), none, .mv (.t 24)⟩])
  .ret) .skip))
  (.seq (.seq (.ops [⟨(some 25), none, .mv (.t 0)⟩, ⟨(some 26), none, .nilck (.t 25)⟩, ⟨(some 27), none, .fieldA 0 (.t 26)⟩, ⟨(some 28), none, .load false 1 (.t 27)⟩, ⟨(some 29), none, .len false (.t 28)⟩, ⟨(some 30), none, .mv (.c (.int .i64 0))⟩])
  (.block 0 (.loop k70_b0)))
  (.seq (.ops [⟨(some 2), none, .mv (.c (.bool true))⟩])
  .ret))))
theorem e70 {args : List PV} {σ : Heap} {K : PV → Heap → Prop} (hl : args.length ≤ 83) (h : Wf σ → (∀ a ∈ args, PV.upto σ.length a) → vc (mkCfg Try.prog mixed [50] 83 σ.length) k70 (FinK σ.length [.t 2] K) (argEnv 0 args) σ) : ACall Try.prog 70 args σ K :=
  ACall_enter (C := mkCfg Try.prog mixed [50] 83 σ.length) (c := Try.f70.body.getD .skip) Try.func70 (by kernel_rfl) (by kernel_rfl) (by kernel_rfl) rfl hl (by kernel_rfl) (by kernel_rfl) h
/- impl.CountTableSymmetries$1 -/
def k69 : KC := (.seq (.ops [⟨(some 3), none, .mv (.c (.bool false))⟩])
  (.seq (.ops [⟨(some 4), none, .load false 1 (.t 1)⟩, ⟨(some 5), none, .bin .add (.t 4) (.c (.int .i64 1))⟩, ⟨none, none, .store 1 (.t 1) (.t 5)⟩])
  (.seq (.ops [⟨(some 3), none, .mv (.c (.bool true))⟩])
  .ret)))
theorem e69 {args : List PV} {σ : Heap} {K : PV → Heap → Prop} (hl : args.length ≤ 6) (h : Wf σ → (∀ a ∈ args, PV.upto σ.length a) → vc (mkCfg Try.prog mixed [] 6 σ.length) k69 (FinK σ.length [.t 3] K) (argEnv 0 args) σ) : ACall Try.prog 69 args σ K :=
  ACall_enter (C := mkCfg Try.prog mixed [] 6 σ.length) (c := Try.f69.body.getD .skip) Try.func69 (by kernel_rfl) (by kernel_rfl) (by kernel_rfl) rfl hl (by kernel_rfl) (by kernel_rfl) h
end Go.Proofs.Ytkljidghocnllaa
