/- The compact code of functions of the seat, and how their calls are entered: printed by this session's own program. -/
import Derived.Test.YtkdkdkkimieieaaCb
namespace Go.Proofs.Ytkdkdkkimieieaa
open Go.Kv
set_option maxRecDepth 100000
/- impl.ProductTable -/
/- live [0, 1, 6, 7, 8, 9, 32, 33, 39, 40] -/
def k50_b0 : KC := (.seq (.ops [⟨(some 41), none, .bin .lss (.t 40) (.t 39)⟩])
  (.seq (.cond (.t 41) .skip (.exit 3))
  (.seq (.block 4 (.seq (.ops [⟨(some 42), none, .mv (.t 40)⟩, ⟨(some 10), none, .mv (.t 42)⟩])
  (.draw [⟨(some 43), none, .mv (.t 9)⟩, ⟨(some 44), none, .mv (.t 6)⟩, ⟨(some 45), none, .mv (.t 0)⟩, ⟨(some 46), none, .mv (.t 8)⟩, ⟨(some 47), none, .mv (.t 6)⟩, ⟨(some 48), none, .bin .quo (.t 46) (.t 47)⟩, ⟨(some 49), none, .idxS 1 (.t 45) (.t 48)⟩, ⟨(some 50), none, .load false 1 (.t 49)⟩, ⟨(some 51), none, .mv (.t 10)⟩, ⟨(some 52), none, .mv (.t 6)⟩, ⟨(some 53), none, .bin .quo (.t 51) (.t 52)⟩, ⟨(some 54), none, .idxS 1 (.t 50) (.t 53)⟩, ⟨(some 55), none, .load false 1 (.t 54)⟩, ⟨(some 56), none, .bin .mul (.t 44) (.t 55)⟩, ⟨(some 57), none, .mv (.t 1)⟩, ⟨(some 58), none, .mv (.t 8)⟩, ⟨(some 59), none, .mv (.t 6)⟩, ⟨(some 60), none, .bin .rem (.t 58) (.t 59)⟩, ⟨(some 61), none, .idxS 1 (.t 57) (.t 60)⟩, ⟨(some 62), none, .load false 1 (.t 61)⟩, ⟨(some 63), none, .mv (.t 10)⟩, ⟨(some 64), none, .mv (.t 6)⟩, ⟨(some 65), none, .bin .rem (.t 63) (.t 64)⟩, ⟨(some 66), none, .idxS 1 (.t 62) (.t 65)⟩, ⟨(some 67), none, .load false 1 (.t 66)⟩, ⟨(some 68), none, .bin .add (.t 56) (.t 67)⟩, ⟨(some 69), none, .bsl true 2 1 [(.t 68)]⟩, ⟨(some 70), none, .app (.t 43) (.t 69) 2 1⟩, ⟨(some 9), none, .mv (.t 70)⟩])))
  (.ops [⟨(some 71), none, .bin .add (.t 40) (.c (.int .i64 1))⟩, ⟨(some 40), none, .mv (.t 71)⟩]))))
/- live [0, 1, 6, 7, 32, 33] -/
def k50_b1 : KC := (.seq (.ops [⟨(some 34), none, .bin .lss (.t 33) (.t 32)⟩])
  (.seq (.cond (.t 34) .skip (.exit 1))
  (.seq (.block 2 (.seq (.ops [⟨(some 35), none, .mv (.t 33)⟩, ⟨(some 8), none, .mv (.t 35)⟩])
  (.seq (.ops [⟨(some 9), none, .mv (.c (.nils))⟩])
  (.seq (.seq (.ops [⟨(some 36), none, .mv (.t 0)⟩, ⟨(some 37), none, .len false (.t 36)⟩, ⟨(some 38), none, .mv (.t 6)⟩, ⟨(some 39), none, .bin .mul (.t 37) (.t 38)⟩, ⟨(some 40), none, .mv (.c (.int .i64 0))⟩])
  (.block 3 (.loop k50_b0)))
  (.ops [⟨(some 72), none, .mv (.t 7)⟩, ⟨(some 73), none, .mv (.t 9)⟩, ⟨(some 74), none, .bsl true 25 1 [(.t 73)]⟩, ⟨(some 75), none, .app (.t 72) (.t 74) 25 1⟩, ⟨(some 7), none, .mv (.t 75)⟩])))))
  (.ops [⟨(some 76), none, .bin .add (.t 33) (.c (.int .i64 1))⟩, ⟨(some 33), none, .mv (.t 76)⟩]))))
def k50 : KC := (.seq (.ops [⟨(some 4), none, .mv (.c (.nils))⟩, ⟨(some 5), none, .mv (.c (.int .i64 0))⟩])
  (.seq (.block 0 (.seq (.ops [⟨(some 12), none, .mv (.t 0)⟩, ⟨(some 13), none, .call (.c (.fn (.func 77) [] [])) [(.t 12)]⟩, ⟨(some 14), none, .not (.t 13)⟩, ⟨(some 15), none, .mv (.t 14)⟩, ⟨(some 16), some (15, false), .mv (.t 1)⟩, ⟨(some 17), some (15, false), .call (.c (.fn (.func 77) [] [])) [(.t 16)]⟩, ⟨(some 18), some (15, false), .not (.t 17)⟩, ⟨(some 19), none, .pick (.t 15) (.c (.bool true)) (.t 18)⟩, ⟨(some 11), none, .mv (.t 19)⟩])
  (.cond (.t 11) (.seq (.ops [⟨(some 4), none, .mv (.c (.nils))⟩, ⟨(some 5), none, .mv (.c (.int .i64 2))⟩])
  .ret) (.seq (.ops [⟨(some 21), none, .mv (.t 0)⟩, ⟨(some 22), none, .len false (.t 21)⟩, ⟨(some 23), none, .mv (.t 1)⟩, ⟨(some 24), none, .len false (.t 23)⟩, ⟨(some 25), none, .bin .mul (.t 22) (.t 24)⟩, ⟨(some 26), none, .bin .gtr (.t 25) (.c (.int .i64 40))⟩, ⟨(some 20), none, .mv (.t 26)⟩])
  (.cond (.t 20) (.seq (.ops [⟨(some 4), none, .mv (.c (.nils))⟩, ⟨(some 5), none, .mv (.c (.int .i64 3))⟩])
  .ret) .skip)))))
  (.seq (.ops [⟨(some 27), none, .mv (.t 1)⟩, ⟨(some 28), none, .len false (.t 27)⟩, ⟨(some 6), none, .mv (.t 28)⟩])
  (.seq (.ops [⟨(some 7), none, .mv (.c (.nils))⟩])
  (.seq (.seq (.ops [⟨(some 29), none, .mv (.t 0)⟩, ⟨(some 30), none, .len false (.t 29)⟩, ⟨(some 31), none, .mv (.t 6)⟩, ⟨(some 32), none, .bin .mul (.t 30) (.t 31)⟩, ⟨(some 33), none, .mv (.c (.int .i64 0))⟩])
  (.block 1 (.loop k50_b1)))
  (.seq (.ops [⟨(some 77), none, .mv (.t 7)⟩, ⟨(some 4), none, .mv (.t 77)⟩, ⟨(some 5), none, .mv (.c (.int .i64 0))⟩])
  .ret))))))
theorem e50 {args : List PV} {σ : Heap} {K : PV → Heap → Prop} (hl : args.length ≤ 78) (h : Wf σ → (∀ a ∈ args, PV.upto σ.length a) → vc (mkCfg Try.prog mixed [69, 74] 78 σ.length) k50 (FinK σ.length [.t 4, .t 5] K) (argEnv 0 args) σ) : ACall Try.prog 50 args σ K :=
  ACall_enter (C := mkCfg Try.prog mixed [69, 74] 78 σ.length) (c := Try.f50.body.getD .skip) Try.func50 (by kernel_rfl) (by kernel_rfl) (by kernel_rfl) rfl hl (by kernel_rfl) (by kernel_rfl) h
/- spec.ProductTable -/
/- live [0, 1, 6, 7, 8, 9, 10] -/
def k49_b0 : KC := (.seq (.seq (.ops [⟨(some 39), none, .mv (.t 10)⟩, ⟨(some 40), none, .mv (.t 0)⟩, ⟨(some 41), none, .len false (.t 40)⟩, ⟨(some 42), none, .mv (.t 7)⟩, ⟨(some 43), none, .bin .mul (.t 41) (.t 42)⟩, ⟨(some 44), none, .bin .lss (.t 39) (.t 43)⟩])
  (.cond (.t 44) .skip (.exit 3)))
  (.seq (.block 4 (.draw [⟨(some 47), none, .mv (.t 9)⟩, ⟨(some 48), none, .mv (.t 7)⟩, ⟨(some 49), none, .mv (.t 0)⟩, ⟨(some 50), none, .mv (.t 8)⟩, ⟨(some 51), none, .mv (.t 7)⟩, ⟨(some 52), none, .bin .quo (.t 50) (.t 51)⟩, ⟨(some 53), none, .idxS 1 (.t 49) (.t 52)⟩, ⟨(some 54), none, .load false 1 (.t 53)⟩, ⟨(some 55), none, .mv (.t 10)⟩, ⟨(some 56), none, .mv (.t 7)⟩, ⟨(some 57), none, .bin .quo (.t 55) (.t 56)⟩, ⟨(some 58), none, .idxS 1 (.t 54) (.t 57)⟩, ⟨(some 59), none, .load false 1 (.t 58)⟩, ⟨(some 60), none, .bin .mul (.t 48) (.t 59)⟩, ⟨(some 61), none, .mv (.t 1)⟩, ⟨(some 62), none, .mv (.t 8)⟩, ⟨(some 63), none, .mv (.t 7)⟩, ⟨(some 64), none, .bin .rem (.t 62) (.t 63)⟩, ⟨(some 65), none, .idxS 1 (.t 61) (.t 64)⟩, ⟨(some 66), none, .load false 1 (.t 65)⟩, ⟨(some 67), none, .mv (.t 10)⟩, ⟨(some 68), none, .mv (.t 7)⟩, ⟨(some 69), none, .bin .rem (.t 67) (.t 68)⟩, ⟨(some 70), none, .idxS 1 (.t 66) (.t 69)⟩, ⟨(some 71), none, .load false 1 (.t 70)⟩, ⟨(some 72), none, .bin .add (.t 60) (.t 71)⟩, ⟨(some 73), none, .bsl true 2 1 [(.t 72)]⟩, ⟨(some 74), none, .app (.t 47) (.t 73) 2 1⟩, ⟨(some 9), none, .mv (.t 74)⟩]))
  (.ops [⟨(some 45), none, .mv (.t 10)⟩, ⟨(some 46), none, .bin .add (.t 45) (.c (.int .i64 1))⟩, ⟨(some 10), none, .mv (.t 46)⟩])))
/- live [0, 1, 6, 7, 8] -/
def k49_b1 : KC := (.seq (.seq (.ops [⟨(some 30), none, .mv (.t 8)⟩, ⟨(some 31), none, .mv (.t 0)⟩, ⟨(some 32), none, .len false (.t 31)⟩, ⟨(some 33), none, .mv (.t 7)⟩, ⟨(some 34), none, .bin .mul (.t 32) (.t 33)⟩, ⟨(some 35), none, .bin .lss (.t 30) (.t 34)⟩])
  (.cond (.t 35) .skip (.exit 1)))
  (.seq (.block 2 (.seq (.ops [⟨(some 38), none, .bsl false 2 1 []⟩, ⟨(some 9), none, .mv (.t 38)⟩])
  (.seq (.seq (.ops [⟨(some 10), none, .mv (.c (.int .i64 0))⟩])
  (.block 3 (.loop k49_b0)))
  (.ops [⟨(some 75), none, .mv (.t 6)⟩, ⟨(some 76), none, .mv (.t 9)⟩, ⟨(some 77), none, .bsl true 25 1 [(.t 76)]⟩, ⟨(some 78), none, .app (.t 75) (.t 77) 25 1⟩, ⟨(some 6), none, .mv (.t 78)⟩]))))
  (.ops [⟨(some 36), none, .mv (.t 8)⟩, ⟨(some 37), none, .bin .add (.t 36) (.c (.int .i64 1))⟩, ⟨(some 8), none, .mv (.t 37)⟩])))
def k49 : KC := (.seq (.ops [⟨(some 4), none, .mv (.c (.nils))⟩, ⟨(some 5), none, .mv (.c (.int .i64 0))⟩])
  (.seq (.block 0 (.seq (.ops [⟨(some 12), none, .mv (.t 0)⟩, ⟨(some 13), none, .call (.c (.fn (.func 74) [] [])) [(.t 12)]⟩, ⟨(some 14), none, .not (.t 13)⟩, ⟨(some 15), none, .mv (.t 14)⟩, ⟨(some 16), some (15, false), .mv (.t 1)⟩, ⟨(some 17), some (15, false), .call (.c (.fn (.func 74) [] [])) [(.t 16)]⟩, ⟨(some 18), some (15, false), .not (.t 17)⟩, ⟨(some 19), none, .pick (.t 15) (.c (.bool true)) (.t 18)⟩, ⟨(some 11), none, .mv (.t 19)⟩])
  (.cond (.t 11) (.seq (.ops [⟨(some 4), none, .mv (.c (.nils))⟩, ⟨(some 5), none, .mv (.c (.int .i64 2))⟩])
  .ret) (.seq (.ops [⟨(some 21), none, .mv (.t 0)⟩, ⟨(some 22), none, .len false (.t 21)⟩, ⟨(some 23), none, .mv (.t 1)⟩, ⟨(some 24), none, .len false (.t 23)⟩, ⟨(some 25), none, .bin .mul (.t 22) (.t 24)⟩, ⟨(some 26), none, .bin .gtr (.t 25) (.c (.int .i64 40))⟩, ⟨(some 20), none, .mv (.t 26)⟩])
  (.cond (.t 20) (.seq (.ops [⟨(some 4), none, .mv (.c (.nils))⟩, ⟨(some 5), none, .mv (.c (.int .i64 3))⟩])
  .ret) .skip)))))
  (.seq (.ops [⟨(some 27), none, .bsl false 25 1 []⟩, ⟨(some 28), none, .mv (.t 1)⟩, ⟨(some 29), none, .len false (.t 28)⟩, ⟨(some 6), none, .mv (.t 27)⟩, ⟨(some 7), none, .mv (.t 29)⟩])
  (.seq (.seq (.ops [⟨(some 8), none, .mv (.c (.int .i64 0))⟩])
  (.block 1 (.loop k49_b1)))
  (.seq (.ops [⟨(some 79), none, .mv (.t 6)⟩, ⟨(some 4), none, .mv (.t 79)⟩, ⟨(some 5), none, .mv (.c (.int .i64 0))⟩])
  .ret)))))
theorem e49 {args : List PV} {σ : Heap} {K : PV → Heap → Prop} (hl : args.length ≤ 80) (h : Wf σ → (∀ a ∈ args, PV.upto σ.length a) → vc (mkCfg Try.prog mixed [73, 77] 80 σ.length) k49 (FinK σ.length [.t 4, .t 5] K) (argEnv 0 args) σ) : ACall Try.prog 49 args σ K :=
  ACall_enter (C := mkCfg Try.prog mixed [73, 77] 80 σ.length) (c := Try.f49.body.getD .skip) Try.func49 (by kernel_rfl) (by kernel_rfl) (by kernel_rfl) rfl hl (by kernel_rfl) (by kernel_rfl) h
end Go.Proofs.Ytkdkdkkimieieaa
