/- The compact code of functions of the seat, and how their calls are entered: printed by this session's own program. -/
import Derived.Test.YtkljidghocnllaaCb
namespace Go.Proofs.Ytkljidghocnllaa
open Go.Kv
set_option maxRecDepth 100000
/- spec.l08Go -/
/- live [0, 1, 2, 3, 10, 11, 27, 28, 29, 30] -/
def k72_b0 : KC := (.seq (.seq (.ops [⟨(some 22), none, .mv (.t 11)⟩, ⟨(some 23), none, .mv (.t 0)⟩, ⟨(some 24), none, .len false (.t 23)⟩, ⟨(some 25), none, .bin .lss (.t 22) (.t 24)⟩, ⟨(some 26), none, .mv (.t 25)⟩, ⟨(some 27), some (26, true), .mv (.t 10)⟩, ⟨(some 28), some (26, true), .len false (.t 27)⟩, ⟨(some 29), some (26, true), .mv (.t 3)⟩, ⟨(some 30), some (26, true), .bin .lss (.t 28) (.t 29)⟩, ⟨(some 31), none, .pick (.t 26) (.t 30) (.c (.bool false))⟩])
  (.cond (.t 31) .skip (.exit 0)))
  (.seq (.block 1 (.seq (.ops [⟨(some 34), none, .mv (.t 2)⟩, ⟨(some 35), none, .call (.c (.fn (.func 109) [] [])) [(.t 34)]⟩, ⟨(some 36), none, .mv (.t 11)⟩, ⟨(some 37), none, .bsl true 2 1 [(.t 36)]⟩, ⟨(some 38), none, .app (.t 35) (.t 37) 2 1⟩, ⟨(some 12), none, .mv (.t 38)⟩])
  (.seq (.ops [⟨(some 39), none, .mv (.t 0)⟩, ⟨(some 40), none, .mv (.t 1)⟩, ⟨(some 41), none, .mv (.t 12)⟩, ⟨(some 42), none, .call (.c (.fn (.func 110) [] [])) [(.t 39), (.t 40), (.t 41)]⟩])
  (.cond (.t 42) (.ops [⟨(some 43), none, .mv (.t 10)⟩, ⟨(some 44), none, .mv (.t 0)⟩, ⟨(some 45), none, .mv (.t 1)⟩, ⟨(some 46), none, .mv (.t 12)⟩, ⟨(some 47), none, .mv (.t 3)⟩, ⟨(some 48), none, .mv (.t 10)⟩, ⟨(some 49), none, .len false (.t 48)⟩, ⟨(some 50), none, .bin .sub (.t 47) (.t 49)⟩, ⟨(some 51), none, .call (.c (.fn (.func 72) [] [])) [(.t 44), (.t 45), (.t 46), (.t 50)]⟩, ⟨(some 52), none, .app (.t 43) (.t 51) 50 1⟩, ⟨(some 10), none, .mv (.t 52)⟩]) .skip))))
  (.ops [⟨(some 32), none, .mv (.t 11)⟩, ⟨(some 33), none, .bin .add (.t 32) (.c (.int .i64 1))⟩, ⟨(some 11), none, .mv (.t 33)⟩])))
def k72 : KC := (.seq (.ops [⟨(some 8), none, .mv (.c (.nils))⟩])
  (.seq (.ops [⟨(some 13), none, .mv (.t 2)⟩, ⟨(some 14), none, .len false (.t 13)⟩, ⟨(some 9), none, .mv (.t 14)⟩])
  (.seq (.seq (.ops [⟨(some 15), none, .mv (.t 9)⟩, ⟨(some 16), none, .mv (.t 0)⟩, ⟨(some 17), none, .len false (.t 16)⟩, ⟨(some 18), none, .bin .eql (.t 15) (.t 17)⟩])
  (.cond (.t 18) (.seq (.ops [⟨(some 19), none, .mv (.t 2)⟩, ⟨(some 20), none, .bsl false 50 1 [(.t 19)]⟩, ⟨(some 8), none, .mv (.t 20)⟩])
  .ret) .skip))
  (.seq (.ops [⟨(some 21), none, .bsl false 50 1 []⟩, ⟨(some 10), none, .mv (.t 21)⟩])
  (.seq (.seq (.ops [⟨(some 11), none, .mv (.c (.int .i64 0))⟩])
  (.block 0 (.loop k72_b0)))
  (.seq (.ops [⟨(some 53), none, .mv (.t 10)⟩, ⟨(some 8), none, .mv (.t 53)⟩])
  .ret))))))
theorem e72 {args : List PV} {σ : Heap} {K : PV → Heap → Prop} (hl : args.length ≤ 54) (h : Wf σ → (∀ a ∈ args, PV.upto σ.length a) → vc (mkCfg Try.prog mixed [37] 54 σ.length) k72 (FinK σ.length [.t 8] K) (argEnv 0 args) σ) : ACall Try.prog 72 args σ K :=
  ACall_enter (C := mkCfg Try.prog mixed [37] 54 σ.length) (c := Try.f72.body.getD .skip) Try.func72 (by kernel_rfl) (by kernel_rfl) (by kernel_rfl) rfl hl (by kernel_rfl) (by kernel_rfl) h
/- spec.FindIsomorphism -/
def k31 : KC := (.seq (.ops [⟨(some 4), none, .mv (.c (.nils))⟩, ⟨(some 5), none, .mv (.c (.int .i64 0))⟩])
  (.seq (.block 0 (.seq (.ops [⟨(some 8), none, .mv (.t 0)⟩, ⟨(some 9), none, .call (.c (.fn (.func 66) [] [])) [(.t 8)]⟩, ⟨(some 10), none, .not (.t 9)⟩, ⟨(some 11), none, .mv (.t 10)⟩, ⟨(some 12), some (11, false), .mv (.t 1)⟩, ⟨(some 13), some (11, false), .call (.c (.fn (.func 66) [] [])) [(.t 12)]⟩, ⟨(some 14), some (11, false), .not (.t 13)⟩, ⟨(some 15), none, .pick (.t 11) (.c (.bool true)) (.t 14)⟩, ⟨(some 7), none, .mv (.t 15)⟩])
  (.cond (.t 7) (.seq (.ops [⟨(some 4), none, .mv (.c (.nils))⟩, ⟨(some 5), none, .mv (.c (.int .i64 2))⟩])
  .ret) (.seq (.ops [⟨(some 17), none, .mv (.t 0)⟩, ⟨(some 18), none, .len false (.t 17)⟩, ⟨(some 19), none, .bin .gtr (.t 18) (.c (.int .i64 10))⟩, ⟨(some 20), none, .mv (.t 19)⟩, ⟨(some 21), some (20, false), .mv (.t 1)⟩, ⟨(some 22), some (20, false), .len false (.t 21)⟩, ⟨(some 23), some (20, false), .bin .gtr (.t 22) (.c (.int .i64 10))⟩, ⟨(some 24), none, .pick (.t 20) (.c (.bool true)) (.t 23)⟩, ⟨(some 16), none, .mv (.t 24)⟩])
  (.cond (.t 16) (.seq (.ops [⟨(some 4), none, .mv (.c (.nils))⟩, ⟨(some 5), none, .mv (.c (.int .i64 3))⟩])
  .ret) (.seq (.ops [⟨(some 26), none, .mv (.t 0)⟩, ⟨(some 27), none, .len false (.t 26)⟩, ⟨(some 28), none, .mv (.t 1)⟩, ⟨(some 29), none, .len false (.t 28)⟩, ⟨(some 30), none, .bin .neq (.t 27) (.t 29)⟩, ⟨(some 25), none, .mv (.t 30)⟩])
  (.cond (.t 25) (.seq (.ops [⟨(some 4), none, .mv (.c (.nils))⟩, ⟨(some 5), none, .mv (.c (.int .i64 4))⟩])
  .ret) .skip)))))))
  (.seq (.ops [⟨(some 31), none, .mv (.t 0)⟩, ⟨(some 32), none, .mv (.t 1)⟩, ⟨(some 33), none, .bsl false 2 1 []⟩, ⟨(some 34), none, .call (.c (.fn (.func 72) [] [])) [(.t 31), (.t 32), (.t 33), (.c (.int .i64 1))]⟩, ⟨(some 6), none, .mv (.t 34)⟩])
  (.seq (.seq (.ops [⟨(some 35), none, .mv (.t 6)⟩, ⟨(some 36), none, .len false (.t 35)⟩, ⟨(some 37), none, .bin .eql (.t 36) (.c (.int .i64 0))⟩])
  (.cond (.t 37) (.seq (.ops [⟨(some 4), none, .mv (.c (.nils))⟩, ⟨(some 5), none, .mv (.c (.int .i64 4))⟩])
  .ret) .skip))
  (.seq (.ops [⟨(some 38), none, .mv (.t 6)⟩, ⟨(some 39), none, .idxS 1 (.t 38) (.c (.int .i64 0))⟩, ⟨(some 40), none, .load false 1 (.t 39)⟩, ⟨(some 4), none, .mv (.t 40)⟩, ⟨(some 5), none, .mv (.c (.int .i64 0))⟩])
  .ret)))))
theorem e31 {args : List PV} {σ : Heap} {K : PV → Heap → Prop} (hl : args.length ≤ 41) (h : Wf σ → (∀ a ∈ args, PV.upto σ.length a) → vc (mkCfg Try.prog mixed [] 41 σ.length) k31 (FinK σ.length [.t 4, .t 5] K) (argEnv 0 args) σ) : ACall Try.prog 31 args σ K :=
  ACall_enter (C := mkCfg Try.prog mixed [] 41 σ.length) (c := Try.f31.body.getD .skip) Try.func31 (by kernel_rfl) (by kernel_rfl) (by kernel_rfl) rfl hl (by kernel_rfl) (by kernel_rfl) h
/- (*impl.finder).fits -/
/- live [0, 3, 4, 17, 18, 25, 26, 43, 44, 45, 46, 47, 48, 49, 50, 51, 52, 53, 54, 55] -/
def k115_b0 : KC := (.seq (.ops [⟨(some 27), none, .bin .lss (.t 26) (.t 25)⟩])
  (.seq (.cond (.t 27) .skip (.exit 2))
  (.seq (.block 3 (.seq (.ops [⟨(some 28), none, .mv (.t 26)⟩, ⟨(some 5), none, .mv (.t 28)⟩])
  (.seq (.ops [⟨(some 29), none, .mv (.t 0)⟩, ⟨(some 30), none, .nilck (.t 29)⟩, ⟨(some 31), none, .fieldA 0 (.t 30)⟩, ⟨(some 32), none, .load false 1 (.t 31)⟩, ⟨(some 33), none, .mv (.t 4)⟩, ⟨(some 34), none, .idxS 1 (.t 32) (.t 33)⟩, ⟨(some 35), none, .load false 1 (.t 34)⟩, ⟨(some 36), none, .mv (.t 5)⟩, ⟨(some 37), none, .idxS 1 (.t 35) (.t 36)⟩, ⟨(some 38), none, .load false 1 (.t 37)⟩, ⟨(some 6), none, .mv (.t 38)⟩])
  (.seq (.seq (.ops [⟨(some 39), none, .mv (.t 6)⟩, ⟨(some 40), none, .mv (.t 3)⟩, ⟨(some 41), none, .bin .gtr (.t 39) (.t 40)⟩, ⟨(some 42), none, .mv (.t 41)⟩, ⟨(some 43), some (42, false), .mv (.t 4)⟩, ⟨(some 44), some (42, false), .mv (.t 3)⟩, ⟨(some 45), some (42, false), .bin .neq (.t 43) (.t 44)⟩, ⟨(some 46), some (42, false), .mv (.t 45)⟩, ⟨(some 47), some (46, true), .mv (.t 5)⟩, ⟨(some 48), some (46, true), .mv (.t 3)⟩, ⟨(some 49), some (46, true), .bin .neq (.t 47) (.t 48)⟩, ⟨(some 50), some (42, false), .pick (.t 46) (.t 49) (.c (.bool false))⟩, ⟨(some 51), some (42, false), .mv (.t 50)⟩, ⟨(some 52), some (51, true), .mv (.t 6)⟩, ⟨(some 53), some (51, true), .mv (.t 3)⟩, ⟨(some 54), some (51, true), .bin .neq (.t 52) (.t 53)⟩, ⟨(some 55), some (42, false), .pick (.t 51) (.t 54) (.c (.bool false))⟩, ⟨(some 56), none, .pick (.t 42) (.c (.bool true)) (.t 55)⟩])
  (.cond (.t 56) (.exit 3) .skip))
  (.seq (.draw [⟨(some 57), none, .mv (.t 0)⟩, ⟨(some 58), none, .nilck (.t 57)⟩, ⟨(some 59), none, .fieldA 1 (.t 58)⟩, ⟨(some 60), none, .load false 1 (.t 59)⟩, ⟨(some 61), none, .mv (.t 0)⟩, ⟨(some 62), none, .nilck (.t 61)⟩, ⟨(some 63), none, .fieldA 2 (.t 62)⟩, ⟨(some 64), none, .load false 1 (.t 63)⟩, ⟨(some 65), none, .mv (.t 4)⟩, ⟨(some 66), none, .idxS 1 (.t 64) (.t 65)⟩, ⟨(some 67), none, .load false 1 (.t 66)⟩, ⟨(some 68), none, .idxS 1 (.t 60) (.t 67)⟩, ⟨(some 69), none, .load false 1 (.t 68)⟩, ⟨(some 70), none, .mv (.t 0)⟩, ⟨(some 71), none, .nilck (.t 70)⟩, ⟨(some 72), none, .fieldA 2 (.t 71)⟩, ⟨(some 73), none, .load false 1 (.t 72)⟩, ⟨(some 74), none, .mv (.t 5)⟩, ⟨(some 75), none, .idxS 1 (.t 73) (.t 74)⟩, ⟨(some 76), none, .load false 1 (.t 75)⟩, ⟨(some 77), none, .idxS 1 (.t 69) (.t 76)⟩, ⟨(some 78), none, .load false 1 (.t 77)⟩, ⟨(some 79), none, .mv (.t 0)⟩, ⟨(some 80), none, .nilck (.t 79)⟩, ⟨(some 81), none, .fieldA 2 (.t 80)⟩, ⟨(some 82), none, .load false 1 (.t 81)⟩, ⟨(some 83), none, .mv (.t 6)⟩, ⟨(some 84), none, .idxS 1 (.t 82) (.t 83)⟩, ⟨(some 85), none, .load false 1 (.t 84)⟩, ⟨(some 86), none, .bin .neq (.t 78) (.t 85)⟩])
  (.cond (.t 86) (.seq (.ops [⟨(some 2), none, .mv (.c (.bool false))⟩])
  .ret) .skip))))))
  (.ops [⟨(some 87), none, .bin .add (.t 26) (.c (.int .i64 1))⟩, ⟨(some 26), none, .mv (.t 87)⟩]))))
/- live [0, 3, 17, 18, 43, 44, 45, 46, 47, 48, 49, 50, 51, 52, 53, 54, 55] -/
def k115_b1 : KC := (.seq (.ops [⟨(some 19), none, .bin .lss (.t 18) (.t 17)⟩])
  (.seq (.cond (.t 19) .skip (.exit 0))
  (.seq (.block 1 (.seq (.ops [⟨(some 20), none, .mv (.t 18)⟩, ⟨(some 4), none, .mv (.t 20)⟩])
  (.seq (.ops [⟨(some 21), none, .mv (.t 0)⟩, ⟨(some 22), none, .nilck (.t 21)⟩, ⟨(some 23), none, .fieldA 2 (.t 22)⟩, ⟨(some 24), none, .load false 1 (.t 23)⟩, ⟨(some 25), none, .len false (.t 24)⟩, ⟨(some 26), none, .mv (.c (.int .i64 0))⟩])
  (.block 2 (.loop k115_b0)))))
  (.ops [⟨(some 88), none, .bin .add (.t 18) (.c (.int .i64 1))⟩, ⟨(some 18), none, .mv (.t 88)⟩]))))
def k115 : KC := (.seq (.ops [⟨(some 2), none, .mv (.c (.bool false))⟩])
  (.seq (.ops [⟨(some 7), none, .mv (.t 0)⟩, ⟨(some 8), none, .nilck (.t 7)⟩, ⟨(some 9), none, .fieldA 2 (.t 8)⟩, ⟨(some 10), none, .load false 1 (.t 9)⟩, ⟨(some 11), none, .len false (.t 10)⟩, ⟨(some 12), none, .bin .sub (.t 11) (.c (.int .i64 1))⟩, ⟨(some 3), none, .mv (.t 12)⟩])
  (.seq (.seq (.ops [⟨(some 13), none, .mv (.t 0)⟩, ⟨(some 14), none, .nilck (.t 13)⟩, ⟨(some 15), none, .fieldA 2 (.t 14)⟩, ⟨(some 16), none, .load false 1 (.t 15)⟩, ⟨(some 17), none, .len false (.t 16)⟩, ⟨(some 18), none, .mv (.c (.int .i64 0))⟩])
  (.block 0 (.loop k115_b1)))
  (.seq (.ops [⟨(some 2), none, .mv (.c (.bool true))⟩])
  .ret))))
theorem e115 {args : List PV} {σ : Heap} {K : PV → Heap → Prop} (hl : args.length ≤ 89) (h : Wf σ → (∀ a ∈ args, PV.upto σ.length a) → vc (mkCfg Try.prog mixed [] 89 σ.length) k115 (FinK σ.length [.t 2] K) (argEnv 0 args) σ) : ACall Try.prog 115 args σ K :=
  ACall_enter (C := mkCfg Try.prog mixed [] 89 σ.length) (c := Try.f115.body.getD .skip) Try.func115 (by kernel_rfl) (by kernel_rfl) (by kernel_rfl) rfl hl (by kernel_rfl) (by kernel_rfl) h
end Go.Proofs.Ytkljidghocnllaa
