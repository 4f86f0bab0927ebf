/- The compact code of functions of the seat, and how their calls are entered: printed by this session's own program. -/
import Derived.Test.YtkljidghocnllaaCb
namespace Go.Proofs.Ytkljidghocnllaa
open Go.Kv
set_option maxRecDepth 100000
/- impl.SideBySide -/
/- live [0, 1, 21, 22, 23, 35, 36, 37, 52, 53, 54, 55, 56, 57] -/
def k40_b0 : KC := (.seq (.ops [⟨(some 24), none, .bin .lss (.t 23) (.t 22)⟩])
  (.seq (.cond (.t 24) .skip (.exit 0))
  (.seq (.block 1 (.seq (.ops [⟨(some 25), none, .idxS 6 (.t 21) (.t 23)⟩, ⟨(some 26), none, .load true 6 (.t 25)⟩, ⟨(some 7), none, .alloc [.int .i64 0, .int .i64 0, .int .i64 0, .int .i64 0, .int .i64 0, .int .i64 0]⟩, ⟨none, none, .store 6 (.t 7) (.t 26)⟩])
  (.seq (.ops [⟨(some 27), none, .load true 6 (.t 7)⟩, ⟨(some 28), none, .call (.c (.fn (.func 77) [] [])) [(.t 27)]⟩, ⟨(some 29), none, .not (.t 28)⟩])
  (.cond (.t 29) (.seq (.ops [⟨(some 4), none, .mv (.c (.nils))⟩, ⟨(some 5), none, .mv (.c (.int .i64 1))⟩])
  .ret) .skip))))
  (.ops [⟨(some 30), none, .bin .add (.t 23) (.c (.int .i64 1))⟩, ⟨(some 23), none, .mv (.t 30)⟩]))))
/- live [1, 8, 9, 10, 59, 60, 61] -/
def k40_b1 : KC := (.seq (.ops [⟨(some 62), none, .bin .lss (.t 61) (.t 60)⟩])
  (.seq (.cond (.t 62) .skip (.exit 2))
  (.seq (.block 3 (.seq (.ops [⟨(some 63), none, .idxS 6 (.t 59) (.t 61)⟩, ⟨(some 64), none, .load true 6 (.t 63)⟩, ⟨(some 12), none, .alloc [.int .i64 0, .int .i64 0, .int .i64 0, .int .i64 0, .int .i64 0, .int .i64 0]⟩, ⟨none, none, .store 6 (.t 12) (.t 64)⟩])
  (.seq (.ops [⟨(some 65), none, .mv (.t 9)⟩, ⟨(some 66), none, .call (.c (.fn (.func 78) [] [])) [(.t 65)]⟩, ⟨(some 13), none, .alloc [.int .i64 0, .int .i64 0, .int .i64 0, .int .i64 0, .int .i64 0, .int .i64 0]⟩, ⟨none, none, .store 6 (.t 13) (.t 66)⟩])
  (.seq (.draw [⟨(some 67), none, .fieldA 1 (.t 13)⟩, ⟨(some 68), none, .mv (.t 8)⟩, ⟨(some 69), none, .slA 5 (.t 67) (some (.t 68))⟩, ⟨(some 70), none, .fieldA 1 (.t 12)⟩, ⟨(some 71), none, .mv (.t 8)⟩, ⟨(some 72), none, .slA 5 (.t 70) (some (.t 71))⟩, ⟨(some 73), none, .cpy (.t 69) (.t 72)⟩])
  (.ops [⟨(some 74), none, .mv (.t 10)⟩, ⟨(some 75), none, .load true 6 (.t 13)⟩, ⟨(some 76), none, .bsl true 27 6 [(.t 75)]⟩, ⟨(some 77), none, .app (.t 74) (.t 76) 27 6⟩, ⟨(some 10), none, .mv (.t 77)⟩])))))
  (.ops [⟨(some 78), none, .bin .add (.t 61) (.c (.int .i64 1))⟩, ⟨(some 61), none, .mv (.t 78)⟩]))))
/- live [8, 9, 10, 15, 16, 79, 80, 81, 88, 89] -/
def k40_b2 : KC := (.seq (.ops [⟨(some 90), none, .bin .lss (.t 89) (.t 88)⟩])
  (.seq (.cond (.t 90) .skip (.exit 6))
  (.seq (.block 7 (.seq (.ops [⟨(some 91), none, .mv (.t 89)⟩, ⟨(some 17), none, .mv (.t 91)⟩])
  (.ops [⟨(some 92), none, .mv (.t 8)⟩, ⟨(some 93), none, .mv (.t 17)⟩, ⟨(some 94), none, .bin .add (.t 92) (.t 93)⟩, ⟨(some 95), none, .mv (.t 8)⟩, ⟨(some 96), none, .mv (.t 17)⟩, ⟨(some 97), none, .fieldA 1 (.t 15)⟩, ⟨(some 98), none, .idxA 5 1 (.t 97) (.t 96)⟩, ⟨(some 99), none, .load false 1 (.t 98)⟩, ⟨(some 100), none, .bin .add (.t 95) (.t 99)⟩, ⟨(some 101), none, .fieldA 1 (.t 16)⟩, ⟨(some 102), none, .idxA 5 1 (.t 101) (.t 94)⟩, ⟨none, none, .store 1 (.t 102) (.t 100)⟩])))
  (.ops [⟨(some 103), none, .bin .add (.t 89) (.c (.int .i64 1))⟩, ⟨(some 89), none, .mv (.t 103)⟩]))))
/- live [8, 9, 10, 79, 80, 81] -/
def k40_b3 : KC := (.seq (.ops [⟨(some 82), none, .bin .lss (.t 81) (.t 80)⟩])
  (.seq (.cond (.t 82) .skip (.exit 4))
  (.seq (.block 5 (.seq (.ops [⟨(some 83), none, .idxS 6 (.t 79) (.t 81)⟩, ⟨(some 84), none, .load true 6 (.t 83)⟩, ⟨(some 15), none, .alloc [.int .i64 0, .int .i64 0, .int .i64 0, .int .i64 0, .int .i64 0, .int .i64 0]⟩, ⟨none, none, .store 6 (.t 15) (.t 84)⟩])
  (.seq (.ops [⟨(some 85), none, .mv (.t 9)⟩, ⟨(some 86), none, .call (.c (.fn (.func 78) [] [])) [(.t 85)]⟩, ⟨(some 16), none, .alloc [.int .i64 0, .int .i64 0, .int .i64 0, .int .i64 0, .int .i64 0, .int .i64 0]⟩, ⟨none, none, .store 6 (.t 16) (.t 86)⟩])
  (.seq (.seq (.ops [⟨(some 87), none, .fieldA 0 (.t 15)⟩, ⟨(some 88), none, .load false 1 (.t 87)⟩, ⟨(some 89), none, .mv (.c (.int .i64 0))⟩])
  (.block 6 (.loop k40_b2)))
  (.ops [⟨(some 104), none, .mv (.t 10)⟩, ⟨(some 105), none, .load true 6 (.t 16)⟩, ⟨(some 106), none, .bsl true 27 6 [(.t 105)]⟩, ⟨(some 107), none, .app (.t 104) (.t 106) 27 6⟩, ⟨(some 10), none, .mv (.t 107)⟩])))))
  (.ops [⟨(some 108), none, .bin .add (.t 81) (.c (.int .i64 1))⟩, ⟨(some 81), none, .mv (.t 108)⟩]))))
def k40 : KC := (.seq (.ops [⟨(some 4), none, .mv (.c (.nils))⟩, ⟨(some 5), none, .mv (.c (.int .i64 0))⟩])
  (.seq (.seq (.ops [⟨(some 18), none, .mv (.t 0)⟩, ⟨(some 19), none, .mv (.t 1)⟩, ⟨(some 20), none, .bsl false 35 1 [(.t 18), (.t 19)]⟩, ⟨(some 21), none, .call (.c (.fn (.func 76) [] [])) [(.t 20)]⟩, ⟨(some 22), none, .len false (.t 21)⟩, ⟨(some 23), none, .mv (.c (.int .i64 0))⟩])
  (.block 0 (.loop k40_b0)))
  (.seq (.seq (.ops [⟨(some 31), none, .mv (.t 0)⟩, ⟨(some 32), none, .call (.c (.fn (.func 64) [] [])) [(.t 31), (.c (.nils))]⟩, ⟨(some 33), none, .bin .neq (.t 32) (.c (.int .i64 0))⟩, ⟨(some 34), none, .mv (.t 33)⟩, ⟨(some 35), some (34, false), .mv (.t 1)⟩, ⟨(some 36), some (34, false), .call (.c (.fn (.func 64) [] [])) [(.t 35), (.c (.nils))]⟩, ⟨(some 37), some (34, false), .bin .neq (.t 36) (.c (.int .i64 0))⟩, ⟨(some 38), none, .pick (.t 34) (.c (.bool true)) (.t 37)⟩])
  (.cond (.t 38) (.seq (.ops [⟨(some 4), none, .mv (.c (.nils))⟩, ⟨(some 5), none, .mv (.c (.int .i64 2))⟩])
  .ret) .skip))
  (.seq (.ops [⟨(some 39), none, .mv (.t 0)⟩, ⟨(some 40), none, .idxS 6 (.t 39) (.c (.int .i64 0))⟩, ⟨(some 41), none, .fieldA 0 (.t 40)⟩, ⟨(some 42), none, .load false 1 (.t 41)⟩, ⟨(some 8), none, .mv (.t 42)⟩])
  (.seq (.ops [⟨(some 43), none, .mv (.t 8)⟩, ⟨(some 44), none, .mv (.t 1)⟩, ⟨(some 45), none, .idxS 6 (.t 44) (.c (.int .i64 0))⟩, ⟨(some 46), none, .fieldA 0 (.t 45)⟩, ⟨(some 47), none, .load false 1 (.t 46)⟩, ⟨(some 48), none, .bin .add (.t 43) (.t 47)⟩, ⟨(some 9), none, .mv (.t 48)⟩])
  (.seq (.seq (.ops [⟨(some 49), none, .mv (.t 9)⟩, ⟨(some 50), none, .bin .gtr (.t 49) (.c (.int .i64 5))⟩, ⟨(some 51), none, .mv (.t 50)⟩, ⟨(some 52), some (51, false), .mv (.t 0)⟩, ⟨(some 53), some (51, false), .len false (.t 52)⟩, ⟨(some 54), some (51, false), .mv (.t 1)⟩, ⟨(some 55), some (51, false), .len false (.t 54)⟩, ⟨(some 56), some (51, false), .bin .add (.t 53) (.t 55)⟩, ⟨(some 57), some (51, false), .bin .gtr (.t 56) (.c (.int .i64 6))⟩, ⟨(some 58), none, .pick (.t 51) (.c (.bool true)) (.t 57)⟩])
  (.cond (.t 58) (.seq (.ops [⟨(some 4), none, .mv (.c (.nils))⟩, ⟨(some 5), none, .mv (.c (.int .i64 3))⟩])
  .ret) .skip))
  (.seq (.ops [⟨(some 10), none, .mv (.c (.nils))⟩])
  (.seq (.seq (.ops [⟨(some 59), none, .mv (.t 0)⟩, ⟨(some 60), none, .len false (.t 59)⟩, ⟨(some 61), none, .mv (.c (.int .i64 0))⟩])
  (.block 2 (.loop k40_b1)))
  (.seq (.seq (.ops [⟨(some 79), none, .mv (.t 1)⟩, ⟨(some 80), none, .len false (.t 79)⟩, ⟨(some 81), none, .mv (.c (.int .i64 0))⟩])
  (.block 4 (.loop k40_b3)))
  (.seq (.ops [⟨(some 109), none, .mv (.t 10)⟩, ⟨(some 4), none, .mv (.t 109)⟩, ⟨(some 5), none, .mv (.c (.int .i64 0))⟩])
  .ret))))))))))
theorem e40 {args : List PV} {σ : Heap} {K : PV → Heap → Prop} (hl : args.length ≤ 110) (h : Wf σ → (∀ a ∈ args, PV.upto σ.length a) → vc (mkCfg Try.prog mixed [76, 106] 110 σ.length) k40 (FinK σ.length [.t 4, .t 5] K) (argEnv 0 args) σ) : ACall Try.prog 40 args σ K :=
  ACall_enter (C := mkCfg Try.prog mixed [76, 106] 110 σ.length) (c := Try.f40.body.getD .skip) Try.func40 (by kernel_rfl) (by kernel_rfl) (by kernel_rfl) rfl hl (by kernel_rfl) (by kernel_rfl) h
/- spec.SideBySide -/
/- live [0, 1, 8, 9, 10, 11, 12, 13] -/
def k38_b0 : KC := (.seq (.seq (.ops [⟨(some 66), none, .mv (.t 13)⟩, ⟨(some 67), none, .mv (.t 8)⟩, ⟨(some 68), none, .bin .lss (.t 66) (.t 67)⟩])
  (.cond (.t 68) .skip (.exit 3)))
  (.seq (.block 4 (.ops [⟨(some 71), none, .mv (.t 13)⟩, ⟨(some 72), none, .mv (.t 0)⟩, ⟨(some 73), none, .mv (.t 11)⟩, ⟨(some 74), none, .mv (.t 13)⟩, ⟨(some 75), none, .idxS 6 (.t 72) (.t 73)⟩, ⟨(some 76), none, .fieldA 1 (.t 75)⟩, ⟨(some 77), none, .idxA 5 1 (.t 76) (.t 74)⟩, ⟨(some 78), none, .load false 1 (.t 77)⟩, ⟨(some 79), none, .fieldA 1 (.t 12)⟩, ⟨(some 80), none, .idxA 5 1 (.t 79) (.t 71)⟩, ⟨none, none, .store 1 (.t 80) (.t 78)⟩]))
  (.ops [⟨(some 69), none, .mv (.t 13)⟩, ⟨(some 70), none, .bin .add (.t 69) (.c (.int .i64 1))⟩, ⟨(some 13), none, .mv (.t 70)⟩])))
/- live [0, 1, 8, 9, 10, 11] -/
def k38_b1 : KC := (.seq (.seq (.ops [⟨(some 56), none, .mv (.t 11)⟩, ⟨(some 57), none, .mv (.t 0)⟩, ⟨(some 58), none, .len false (.t 57)⟩, ⟨(some 59), none, .bin .lss (.t 56) (.t 58)⟩])
  (.cond (.t 59) .skip (.exit 1)))
  (.seq (.block 2 (.seq (.ops [⟨(some 62), none, .mv (.t 8)⟩, ⟨(some 63), none, .mv (.t 9)⟩, ⟨(some 64), none, .bin .add (.t 62) (.t 63)⟩, ⟨(some 65), none, .call (.c (.fn (.func 75) [] [])) [(.t 64)]⟩, ⟨(some 12), none, .alloc [.int .i64 0, .int .i64 0, .int .i64 0, .int .i64 0, .int .i64 0, .int .i64 0]⟩, ⟨none, none, .store 6 (.t 12) (.t 65)⟩])
  (.seq (.seq (.ops [⟨(some 13), none, .mv (.c (.int .i64 0))⟩])
  (.block 3 (.loop k38_b0)))
  (.ops [⟨(some 81), none, .mv (.t 10)⟩, ⟨(some 82), none, .load true 6 (.t 12)⟩, ⟨(some 83), none, .bsl true 27 6 [(.t 82)]⟩, ⟨(some 84), none, .app (.t 81) (.t 83) 27 6⟩, ⟨(some 10), none, .mv (.t 84)⟩]))))
  (.ops [⟨(some 60), none, .mv (.t 11)⟩, ⟨(some 61), none, .bin .add (.t 60) (.c (.int .i64 1))⟩, ⟨(some 11), none, .mv (.t 61)⟩])))
/- live [1, 8, 9, 10, 14, 15, 16] -/
def k38_b2 : KC := (.seq (.seq (.ops [⟨(some 95), none, .mv (.t 16)⟩, ⟨(some 96), none, .mv (.t 9)⟩, ⟨(some 97), none, .bin .lss (.t 95) (.t 96)⟩])
  (.cond (.t 97) .skip (.exit 7)))
  (.seq (.block 8 (.ops [⟨(some 100), none, .mv (.t 8)⟩, ⟨(some 101), none, .mv (.t 16)⟩, ⟨(some 102), none, .bin .add (.t 100) (.t 101)⟩, ⟨(some 103), none, .mv (.t 8)⟩, ⟨(some 104), none, .mv (.t 1)⟩, ⟨(some 105), none, .mv (.t 14)⟩, ⟨(some 106), none, .mv (.t 16)⟩, ⟨(some 107), none, .idxS 6 (.t 104) (.t 105)⟩, ⟨(some 108), none, .fieldA 1 (.t 107)⟩, ⟨(some 109), none, .idxA 5 1 (.t 108) (.t 106)⟩, ⟨(some 110), none, .load false 1 (.t 109)⟩, ⟨(some 111), none, .bin .add (.t 103) (.t 110)⟩, ⟨(some 112), none, .fieldA 1 (.t 15)⟩, ⟨(some 113), none, .idxA 5 1 (.t 112) (.t 102)⟩, ⟨none, none, .store 1 (.t 113) (.t 111)⟩]))
  (.ops [⟨(some 98), none, .mv (.t 16)⟩, ⟨(some 99), none, .bin .add (.t 98) (.c (.int .i64 1))⟩, ⟨(some 16), none, .mv (.t 99)⟩])))
/- live [1, 8, 9, 10, 14] -/
def k38_b3 : KC := (.seq (.seq (.ops [⟨(some 85), none, .mv (.t 14)⟩, ⟨(some 86), none, .mv (.t 1)⟩, ⟨(some 87), none, .len false (.t 86)⟩, ⟨(some 88), none, .bin .lss (.t 85) (.t 87)⟩])
  (.cond (.t 88) .skip (.exit 5)))
  (.seq (.block 6 (.seq (.ops [⟨(some 91), none, .mv (.t 8)⟩, ⟨(some 92), none, .mv (.t 9)⟩, ⟨(some 93), none, .bin .add (.t 91) (.t 92)⟩, ⟨(some 94), none, .call (.c (.fn (.func 75) [] [])) [(.t 93)]⟩, ⟨(some 15), none, .alloc [.int .i64 0, .int .i64 0, .int .i64 0, .int .i64 0, .int .i64 0, .int .i64 0]⟩, ⟨none, none, .store 6 (.t 15) (.t 94)⟩])
  (.seq (.seq (.ops [⟨(some 16), none, .mv (.c (.int .i64 0))⟩])
  (.block 7 (.loop k38_b2)))
  (.ops [⟨(some 114), none, .mv (.t 10)⟩, ⟨(some 115), none, .load true 6 (.t 15)⟩, ⟨(some 116), none, .bsl true 27 6 [(.t 115)]⟩, ⟨(some 117), none, .app (.t 114) (.t 116) 27 6⟩, ⟨(some 10), none, .mv (.t 117)⟩]))))
  (.ops [⟨(some 89), none, .mv (.t 14)⟩, ⟨(some 90), none, .bin .add (.t 89) (.c (.int .i64 1))⟩, ⟨(some 14), none, .mv (.t 90)⟩])))
def k38 : KC := (.seq (.ops [⟨(some 4), none, .mv (.c (.nils))⟩, ⟨(some 5), none, .mv (.c (.int .i64 0))⟩])
  (.seq (.ops [⟨(some 17), none, .mv (.t 0)⟩, ⟨(some 18), none, .call (.c (.fn (.func 63) [] [])) [(.t 17), (.c (.nils))]⟩, ⟨(some 19), none, .mv (.t 1)⟩, ⟨(some 20), none, .call (.c (.fn (.func 63) [] [])) [(.t 19), (.c (.nils))]⟩, ⟨(some 6), none, .mv (.t 18)⟩, ⟨(some 7), none, .mv (.t 20)⟩])
  (.seq (.block 0 (.seq (.ops [⟨(some 22), none, .mv (.t 6)⟩, ⟨(some 23), none, .bin .eql (.t 22) (.c (.int .i64 1))⟩, ⟨(some 24), none, .mv (.t 23)⟩, ⟨(some 25), some (24, false), .mv (.t 7)⟩, ⟨(some 26), some (24, false), .bin .eql (.t 25) (.c (.int .i64 1))⟩, ⟨(some 27), none, .pick (.t 24) (.c (.bool true)) (.t 26)⟩, ⟨(some 21), none, .mv (.t 27)⟩])
  (.cond (.t 21) (.seq (.ops [⟨(some 4), none, .mv (.c (.nils))⟩, ⟨(some 5), none, .mv (.c (.int .i64 1))⟩])
  .ret) (.seq (.ops [⟨(some 29), none, .mv (.t 6)⟩, ⟨(some 30), none, .bin .neq (.t 29) (.c (.int .i64 0))⟩, ⟨(some 31), none, .mv (.t 30)⟩, ⟨(some 32), some (31, false), .mv (.t 7)⟩, ⟨(some 33), some (31, false), .bin .neq (.t 32) (.c (.int .i64 0))⟩, ⟨(some 34), none, .pick (.t 31) (.c (.bool true)) (.t 33)⟩, ⟨(some 28), none, .mv (.t 34)⟩])
  (.cond (.t 28) (.seq (.ops [⟨(some 4), none, .mv (.c (.nils))⟩, ⟨(some 5), none, .mv (.c (.int .i64 2))⟩])
  .ret) .skip)))))
  (.seq (.draw [⟨(some 35), none, .mv (.t 0)⟩, ⟨(some 36), none, .idxS 6 (.t 35) (.c (.int .i64 0))⟩, ⟨(some 37), none, .fieldA 0 (.t 36)⟩, ⟨(some 38), none, .load false 1 (.t 37)⟩, ⟨(some 39), none, .mv (.t 1)⟩, ⟨(some 40), none, .idxS 6 (.t 39) (.c (.int .i64 0))⟩, ⟨(some 41), none, .fieldA 0 (.t 40)⟩, ⟨(some 42), none, .load false 1 (.t 41)⟩, ⟨(some 8), none, .mv (.t 38)⟩, ⟨(some 9), none, .mv (.t 42)⟩, ⟨(some 43), none, .bsl false 27 6 []⟩, ⟨(some 10), none, .mv (.t 43)⟩])
  (.seq (.seq (.ops [⟨(some 44), none, .mv (.t 8)⟩, ⟨(some 45), none, .mv (.t 9)⟩, ⟨(some 46), none, .bin .add (.t 44) (.t 45)⟩, ⟨(some 47), none, .bin .gtr (.t 46) (.c (.int .i64 5))⟩, ⟨(some 48), none, .mv (.t 47)⟩, ⟨(some 49), some (48, false), .mv (.t 0)⟩, ⟨(some 50), some (48, false), .len false (.t 49)⟩, ⟨(some 51), some (48, false), .mv (.t 1)⟩, ⟨(some 52), some (48, false), .len false (.t 51)⟩, ⟨(some 53), some (48, false), .bin .add (.t 50) (.t 52)⟩, ⟨(some 54), some (48, false), .bin .gtr (.t 53) (.c (.int .i64 6))⟩, ⟨(some 55), none, .pick (.t 48) (.c (.bool true)) (.t 54)⟩])
  (.cond (.t 55) (.seq (.ops [⟨(some 4), none, .mv (.c (.nils))⟩, ⟨(some 5), none, .mv (.c (.int .i64 3))⟩])
  .ret) .skip))
  (.seq (.seq (.ops [⟨(some 11), none, .mv (.c (.int .i64 0))⟩])
  (.block 1 (.loop k38_b1)))
  (.seq (.seq (.ops [⟨(some 14), none, .mv (.c (.int .i64 0))⟩])
  (.block 5 (.loop k38_b3)))
  (.seq (.ops [⟨(some 118), none, .mv (.t 10)⟩, ⟨(some 4), none, .mv (.t 118)⟩, ⟨(some 5), none, .mv (.c (.int .i64 0))⟩])
  .ret))))))))
theorem e38 {args : List PV} {σ : Heap} {K : PV → Heap → Prop} (hl : args.length ≤ 119) (h : Wf σ → (∀ a ∈ args, PV.upto σ.length a) → vc (mkCfg Try.prog mixed [83, 116] 119 σ.length) k38 (FinK σ.length [.t 4, .t 5] K) (argEnv 0 args) σ) : ACall Try.prog 38 args σ K :=
  ACall_enter (C := mkCfg Try.prog mixed [83, 116] 119 σ.length) (c := Try.f38.body.getD .skip) Try.func38 (by kernel_rfl) (by kernel_rfl) (by kernel_rfl) rfl hl (by kernel_rfl) (by kernel_rfl) h
end Go.Proofs.Ytkljidghocnllaa
