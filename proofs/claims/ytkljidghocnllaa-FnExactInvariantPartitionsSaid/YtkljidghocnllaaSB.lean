/- Two lists of maps, side by side: both sides. -/
import Derived.Test.YtkljidghocnllaaCb
import Derived.Test.YtkljidghocnllaaIV
import Derived.Test.YtkljidghocnllaaLP
import Derived.Test.YtkljidghocnllaaID
namespace Go.Proofs.Ytkljidghocnllaa
open Go.Kv
set_option maxRecDepth 100000
/- impl.SideBySide -/
/- live [0, 1, 21, 22, 23, 35, 36, 37, 52, 53, 54, 55, 56, 57] -/
def k40_b0 : KC := (.seq (.ops [⟨(some 24), none, .bin .lss (.t 23) (.t 22)⟩])
  (.seq (.cond (.t 24) .skip (.exit 0))
  (.seq (.block 1 (.seq (.ops [⟨(some 25), none, .idxS 6 (.t 21) (.t 23)⟩, ⟨(some 26), none, .load true 6 (.t 25)⟩, ⟨(some 7), none, .alloc [.int .i64 0, .int .i64 0, .int .i64 0, .int .i64 0, .int .i64 0, .int .i64 0]⟩, ⟨none, none, .store 6 (.t 7) (.t 26)⟩])
  (.seq (.ops [⟨(some 27), none, .load true 6 (.t 7)⟩, ⟨(some 28), none, .call (.c (.fn (.func 77) [] [])) [(.t 27)]⟩, ⟨(some 29), none, .not (.t 28)⟩])
  (.cond (.t 29) (.seq (.ops [⟨(some 4), none, .mv (.c (.nils))⟩, ⟨(some 5), none, .mv (.c (.int .i64 1))⟩])
  .ret) .skip))))
  (.ops [⟨(some 30), none, .bin .add (.t 23) (.c (.int .i64 1))⟩, ⟨(some 23), none, .mv (.t 30)⟩]))))
/- live [1, 8, 9, 10, 59, 60, 61] -/
def k40_b1 : KC := (.seq (.ops [⟨(some 62), none, .bin .lss (.t 61) (.t 60)⟩])
  (.seq (.cond (.t 62) .skip (.exit 2))
  (.seq (.block 3 (.seq (.ops [⟨(some 63), none, .idxS 6 (.t 59) (.t 61)⟩, ⟨(some 64), none, .load true 6 (.t 63)⟩, ⟨(some 12), none, .alloc [.int .i64 0, .int .i64 0, .int .i64 0, .int .i64 0, .int .i64 0, .int .i64 0]⟩, ⟨none, none, .store 6 (.t 12) (.t 64)⟩])
  (.seq (.ops [⟨(some 65), none, .mv (.t 9)⟩, ⟨(some 66), none, .call (.c (.fn (.func 78) [] [])) [(.t 65)]⟩, ⟨(some 13), none, .alloc [.int .i64 0, .int .i64 0, .int .i64 0, .int .i64 0, .int .i64 0, .int .i64 0]⟩, ⟨none, none, .store 6 (.t 13) (.t 66)⟩])
  (.seq (.draw [⟨(some 67), none, .fieldA 1 (.t 13)⟩, ⟨(some 68), none, .mv (.t 8)⟩, ⟨(some 69), none, .slA 5 (.t 67) (some (.t 68))⟩, ⟨(some 70), none, .fieldA 1 (.t 12)⟩, ⟨(some 71), none, .mv (.t 8)⟩, ⟨(some 72), none, .slA 5 (.t 70) (some (.t 71))⟩, ⟨(some 73), none, .cpy (.t 69) (.t 72)⟩])
  (.ops [⟨(some 74), none, .mv (.t 10)⟩, ⟨(some 75), none, .load true 6 (.t 13)⟩, ⟨(some 76), none, .bsl true 27 6 [(.t 75)]⟩, ⟨(some 77), none, .app (.t 74) (.t 76) 27 6⟩, ⟨(some 10), none, .mv (.t 77)⟩])))))
  (.ops [⟨(some 78), none, .bin .add (.t 61) (.c (.int .i64 1))⟩, ⟨(some 61), none, .mv (.t 78)⟩]))))
/- live [8, 9, 10, 15, 16, 79, 80, 81, 88, 89] -/
def k40_b2 : KC := (.seq (.ops [⟨(some 90), none, .bin .lss (.t 89) (.t 88)⟩])
  (.seq (.cond (.t 90) .skip (.exit 6))
  (.seq (.block 7 (.seq (.ops [⟨(some 91), none, .mv (.t 89)⟩, ⟨(some 17), none, .mv (.t 91)⟩])
  (.ops [⟨(some 92), none, .mv (.t 8)⟩, ⟨(some 93), none, .mv (.t 17)⟩, ⟨(some 94), none, .bin .add (.t 92) (.t 93)⟩, ⟨(some 95), none, .mv (.t 8)⟩, ⟨(some 96), none, .mv (.t 17)⟩, ⟨(some 97), none, .fieldA 1 (.t 15)⟩, ⟨(some 98), none, .idxA 5 1 (.t 97) (.t 96)⟩, ⟨(some 99), none, .load false 1 (.t 98)⟩, ⟨(some 100), none, .bin .add (.t 95) (.t 99)⟩, ⟨(some 101), none, .fieldA 1 (.t 16)⟩, ⟨(some 102), none, .idxA 5 1 (.t 101) (.t 94)⟩, ⟨none, none, .store 1 (.t 102) (.t 100)⟩])))
  (.ops [⟨(some 103), none, .bin .add (.t 89) (.c (.int .i64 1))⟩, ⟨(some 89), none, .mv (.t 103)⟩]))))
/- live [8, 9, 10, 79, 80, 81] -/
def k40_b3 : KC := (.seq (.ops [⟨(some 82), none, .bin .lss (.t 81) (.t 80)⟩])
  (.seq (.cond (.t 82) .skip (.exit 4))
  (.seq (.block 5 (.seq (.ops [⟨(some 83), none, .idxS 6 (.t 79) (.t 81)⟩, ⟨(some 84), none, .load true 6 (.t 83)⟩, ⟨(some 15), none, .alloc [.int .i64 0, .int .i64 0, .int .i64 0, .int .i64 0, .int .i64 0, .int .i64 0]⟩, ⟨none, none, .store 6 (.t 15) (.t 84)⟩])
  (.seq (.ops [⟨(some 85), none, .mv (.t 9)⟩, ⟨(some 86), none, .call (.c (.fn (.func 78) [] [])) [(.t 85)]⟩, ⟨(some 16), none, .alloc [.int .i64 0, .int .i64 0, .int .i64 0, .int .i64 0, .int .i64 0, .int .i64 0]⟩, ⟨none, none, .store 6 (.t 16) (.t 86)⟩])
  (.seq (.seq (.ops [⟨(some 87), none, .fieldA 0 (.t 15)⟩, ⟨(some 88), none, .load false 1 (.t 87)⟩, ⟨(some 89), none, .mv (.c (.int .i64 0))⟩])
  (.block 6 (.loop k40_b2)))
  (.ops [⟨(some 104), none, .mv (.t 10)⟩, ⟨(some 105), none, .load true 6 (.t 16)⟩, ⟨(some 106), none, .bsl true 27 6 [(.t 105)]⟩, ⟨(some 107), none, .app (.t 104) (.t 106) 27 6⟩, ⟨(some 10), none, .mv (.t 107)⟩])))))
  (.ops [⟨(some 108), none, .bin .add (.t 81) (.c (.int .i64 1))⟩, ⟨(some 81), none, .mv (.t 108)⟩]))))
def k40 : KC := (.seq (.ops [⟨(some 4), none, .mv (.c (.nils))⟩, ⟨(some 5), none, .mv (.c (.int .i64 0))⟩])
  (.seq (.seq (.ops [⟨(some 18), none, .mv (.t 0)⟩, ⟨(some 19), none, .mv (.t 1)⟩, ⟨(some 20), none, .bsl false 35 1 [(.t 18), (.t 19)]⟩, ⟨(some 21), none, .call (.c (.fn (.func 76) [] [])) [(.t 20)]⟩, ⟨(some 22), none, .len false (.t 21)⟩, ⟨(some 23), none, .mv (.c (.int .i64 0))⟩])
  (.block 0 (.loop k40_b0)))
  (.seq (.seq (.ops [⟨(some 31), none, .mv (.t 0)⟩, ⟨(some 32), none, .call (.c (.fn (.func 64) [] [])) [(.t 31), (.c (.nils))]⟩, ⟨(some 33), none, .bin .neq (.t 32) (.c (.int .i64 0))⟩, ⟨(some 34), none, .mv (.t 33)⟩, ⟨(some 35), some (34, false), .mv (.t 1)⟩, ⟨(some 36), some (34, false), .call (.c (.fn (.func 64) [] [])) [(.t 35), (.c (.nils))]⟩, ⟨(some 37), some (34, false), .bin .neq (.t 36) (.c (.int .i64 0))⟩, ⟨(some 38), none, .pick (.t 34) (.c (.bool true)) (.t 37)⟩])
  (.cond (.t 38) (.seq (.ops [⟨(some 4), none, .mv (.c (.nils))⟩, ⟨(some 5), none, .mv (.c (.int .i64 2))⟩])
  .ret) .skip))
  (.seq (.ops [⟨(some 39), none, .mv (.t 0)⟩, ⟨(some 40), none, .idxS 6 (.t 39) (.c (.int .i64 0))⟩, ⟨(some 41), none, .fieldA 0 (.t 40)⟩, ⟨(some 42), none, .load false 1 (.t 41)⟩, ⟨(some 8), none, .mv (.t 42)⟩])
  (.seq (.ops [⟨(some 43), none, .mv (.t 8)⟩, ⟨(some 44), none, .mv (.t 1)⟩, ⟨(some 45), none, .idxS 6 (.t 44) (.c (.int .i64 0))⟩, ⟨(some 46), none, .fieldA 0 (.t 45)⟩, ⟨(some 47), none, .load false 1 (.t 46)⟩, ⟨(some 48), none, .bin .add (.t 43) (.t 47)⟩, ⟨(some 9), none, .mv (.t 48)⟩])
  (.seq (.seq (.ops [⟨(some 49), none, .mv (.t 9)⟩, ⟨(some 50), none, .bin .gtr (.t 49) (.c (.int .i64 5))⟩, ⟨(some 51), none, .mv (.t 50)⟩, ⟨(some 52), some (51, false), .mv (.t 0)⟩, ⟨(some 53), some (51, false), .len false (.t 52)⟩, ⟨(some 54), some (51, false), .mv (.t 1)⟩, ⟨(some 55), some (51, false), .len false (.t 54)⟩, ⟨(some 56), some (51, false), .bin .add (.t 53) (.t 55)⟩, ⟨(some 57), some (51, false), .bin .gtr (.t 56) (.c (.int .i64 6))⟩, ⟨(some 58), none, .pick (.t 51) (.c (.bool true)) (.t 57)⟩])
  (.cond (.t 58) (.seq (.ops [⟨(some 4), none, .mv (.c (.nils))⟩, ⟨(some 5), none, .mv (.c (.int .i64 3))⟩])
  .ret) .skip))
  (.seq (.ops [⟨(some 10), none, .mv (.c (.nils))⟩])
  (.seq (.seq (.ops [⟨(some 59), none, .mv (.t 0)⟩, ⟨(some 60), none, .len false (.t 59)⟩, ⟨(some 61), none, .mv (.c (.int .i64 0))⟩])
  (.block 2 (.loop k40_b1)))
  (.seq (.seq (.ops [⟨(some 79), none, .mv (.t 1)⟩, ⟨(some 80), none, .len false (.t 79)⟩, ⟨(some 81), none, .mv (.c (.int .i64 0))⟩])
  (.block 4 (.loop k40_b3)))
  (.seq (.ops [⟨(some 109), none, .mv (.t 10)⟩, ⟨(some 4), none, .mv (.t 109)⟩, ⟨(some 5), none, .mv (.c (.int .i64 0))⟩])
  .ret))))))))))
theorem e40 {args : List PV} {σ : Heap} {K : PV → Heap → Prop} (hl : args.length ≤ 110) (h : Wf σ → (∀ a ∈ args, PV.upto σ.length a) → vc (mkCfg Try.prog mixed [76, 106] 110 σ.length) k40 (FinK σ.length [.t 4, .t 5] K) (argEnv 0 args) σ) : ACall Try.prog 40 args σ K :=
  ACall_enter (C := mkCfg Try.prog mixed [76, 106] 110 σ.length) (c := Try.f40.body.getD .skip) Try.func40 (by kernel_rfl) (by kernel_rfl) (by kernel_rfl) rfl hl (by kernel_rfl) (by kernel_rfl) h
/- spec.SideBySide -/
/- live [0, 1, 8, 9, 10, 11, 12, 13] -/
def k38_b0 : KC := (.seq (.seq (.ops [⟨(some 66), none, .mv (.t 13)⟩, ⟨(some 67), none, .mv (.t 8)⟩, ⟨(some 68), none, .bin .lss (.t 66) (.t 67)⟩])
  (.cond (.t 68) .skip (.exit 3)))
  (.seq (.block 4 (.ops [⟨(some 71), none, .mv (.t 13)⟩, ⟨(some 72), none, .mv (.t 0)⟩, ⟨(some 73), none, .mv (.t 11)⟩, ⟨(some 74), none, .mv (.t 13)⟩, ⟨(some 75), none, .idxS 6 (.t 72) (.t 73)⟩, ⟨(some 76), none, .fieldA 1 (.t 75)⟩, ⟨(some 77), none, .idxA 5 1 (.t 76) (.t 74)⟩, ⟨(some 78), none, .load false 1 (.t 77)⟩, ⟨(some 79), none, .fieldA 1 (.t 12)⟩, ⟨(some 80), none, .idxA 5 1 (.t 79) (.t 71)⟩, ⟨none, none, .store 1 (.t 80) (.t 78)⟩]))
  (.ops [⟨(some 69), none, .mv (.t 13)⟩, ⟨(some 70), none, .bin .add (.t 69) (.c (.int .i64 1))⟩, ⟨(some 13), none, .mv (.t 70)⟩])))
/- live [0, 1, 8, 9, 10, 11] -/
def k38_b1 : KC := (.seq (.seq (.ops [⟨(some 56), none, .mv (.t 11)⟩, ⟨(some 57), none, .mv (.t 0)⟩, ⟨(some 58), none, .len false (.t 57)⟩, ⟨(some 59), none, .bin .lss (.t 56) (.t 58)⟩])
  (.cond (.t 59) .skip (.exit 1)))
  (.seq (.block 2 (.seq (.ops [⟨(some 62), none, .mv (.t 8)⟩, ⟨(some 63), none, .mv (.t 9)⟩, ⟨(some 64), none, .bin .add (.t 62) (.t 63)⟩, ⟨(some 65), none, .call (.c (.fn (.func 75) [] [])) [(.t 64)]⟩, ⟨(some 12), none, .alloc [.int .i64 0, .int .i64 0, .int .i64 0, .int .i64 0, .int .i64 0, .int .i64 0]⟩, ⟨none, none, .store 6 (.t 12) (.t 65)⟩])
  (.seq (.seq (.ops [⟨(some 13), none, .mv (.c (.int .i64 0))⟩])
  (.block 3 (.loop k38_b0)))
  (.ops [⟨(some 81), none, .mv (.t 10)⟩, ⟨(some 82), none, .load true 6 (.t 12)⟩, ⟨(some 83), none, .bsl true 27 6 [(.t 82)]⟩, ⟨(some 84), none, .app (.t 81) (.t 83) 27 6⟩, ⟨(some 10), none, .mv (.t 84)⟩]))))
  (.ops [⟨(some 60), none, .mv (.t 11)⟩, ⟨(some 61), none, .bin .add (.t 60) (.c (.int .i64 1))⟩, ⟨(some 11), none, .mv (.t 61)⟩])))
/- live [1, 8, 9, 10, 14, 15, 16] -/
def k38_b2 : KC := (.seq (.seq (.ops [⟨(some 95), none, .mv (.t 16)⟩, ⟨(some 96), none, .mv (.t 9)⟩, ⟨(some 97), none, .bin .lss (.t 95) (.t 96)⟩])
  (.cond (.t 97) .skip (.exit 7)))
  (.seq (.block 8 (.ops [⟨(some 100), none, .mv (.t 8)⟩, ⟨(some 101), none, .mv (.t 16)⟩, ⟨(some 102), none, .bin .add (.t 100) (.t 101)⟩, ⟨(some 103), none, .mv (.t 8)⟩, ⟨(some 104), none, .mv (.t 1)⟩, ⟨(some 105), none, .mv (.t 14)⟩, ⟨(some 106), none, .mv (.t 16)⟩, ⟨(some 107), none, .idxS 6 (.t 104) (.t 105)⟩, ⟨(some 108), none, .fieldA 1 (.t 107)⟩, ⟨(some 109), none, .idxA 5 1 (.t 108) (.t 106)⟩, ⟨(some 110), none, .load false 1 (.t 109)⟩, ⟨(some 111), none, .bin .add (.t 103) (.t 110)⟩, ⟨(some 112), none, .fieldA 1 (.t 15)⟩, ⟨(some 113), none, .idxA 5 1 (.t 112) (.t 102)⟩, ⟨none, none, .store 1 (.t 113) (.t 111)⟩]))
  (.ops [⟨(some 98), none, .mv (.t 16)⟩, ⟨(some 99), none, .bin .add (.t 98) (.c (.int .i64 1))⟩, ⟨(some 16), none, .mv (.t 99)⟩])))
/- live [1, 8, 9, 10, 14] -/
def k38_b3 : KC := (.seq (.seq (.ops [⟨(some 85), none, .mv (.t 14)⟩, ⟨(some 86), none, .mv (.t 1)⟩, ⟨(some 87), none, .len false (.t 86)⟩, ⟨(some 88), none, .bin .lss (.t 85) (.t 87)⟩])
  (.cond (.t 88) .skip (.exit 5)))
  (.seq (.block 6 (.seq (.ops [⟨(some 91), none, .mv (.t 8)⟩, ⟨(some 92), none, .mv (.t 9)⟩, ⟨(some 93), none, .bin .add (.t 91) (.t 92)⟩, ⟨(some 94), none, .call (.c (.fn (.func 75) [] [])) [(.t 93)]⟩, ⟨(some 15), none, .alloc [.int .i64 0, .int .i64 0, .int .i64 0, .int .i64 0, .int .i64 0, .int .i64 0]⟩, ⟨none, none, .store 6 (.t 15) (.t 94)⟩])
  (.seq (.seq (.ops [⟨(some 16), none, .mv (.c (.int .i64 0))⟩])
  (.block 7 (.loop k38_b2)))
  (.ops [⟨(some 114), none, .mv (.t 10)⟩, ⟨(some 115), none, .load true 6 (.t 15)⟩, ⟨(some 116), none, .bsl true 27 6 [(.t 115)]⟩, ⟨(some 117), none, .app (.t 114) (.t 116) 27 6⟩, ⟨(some 10), none, .mv (.t 117)⟩]))))
  (.ops [⟨(some 89), none, .mv (.t 14)⟩, ⟨(some 90), none, .bin .add (.t 89) (.c (.int .i64 1))⟩, ⟨(some 14), none, .mv (.t 90)⟩])))
def k38 : KC := (.seq (.ops [⟨(some 4), none, .mv (.c (.nils))⟩, ⟨(some 5), none, .mv (.c (.int .i64 0))⟩])
  (.seq (.ops [⟨(some 17), none, .mv (.t 0)⟩, ⟨(some 18), none, .call (.c (.fn (.func 63) [] [])) [(.t 17), (.c (.nils))]⟩, ⟨(some 19), none, .mv (.t 1)⟩, ⟨(some 20), none, .call (.c (.fn (.func 63) [] [])) [(.t 19), (.c (.nils))]⟩, ⟨(some 6), none, .mv (.t 18)⟩, ⟨(some 7), none, .mv (.t 20)⟩])
  (.seq (.block 0 (.seq (.ops [⟨(some 22), none, .mv (.t 6)⟩, ⟨(some 23), none, .bin .eql (.t 22) (.c (.int .i64 1))⟩, ⟨(some 24), none, .mv (.t 23)⟩, ⟨(some 25), some (24, false), .mv (.t 7)⟩, ⟨(some 26), some (24, false), .bin .eql (.t 25) (.c (.int .i64 1))⟩, ⟨(some 27), none, .pick (.t 24) (.c (.bool true)) (.t 26)⟩, ⟨(some 21), none, .mv (.t 27)⟩])
  (.cond (.t 21) (.seq (.ops [⟨(some 4), none, .mv (.c (.nils))⟩, ⟨(some 5), none, .mv (.c (.int .i64 1))⟩])
  .ret) (.seq (.ops [⟨(some 29), none, .mv (.t 6)⟩, ⟨(some 30), none, .bin .neq (.t 29) (.c (.int .i64 0))⟩, ⟨(some 31), none, .mv (.t 30)⟩, ⟨(some 32), some (31, false), .mv (.t 7)⟩, ⟨(some 33), some (31, false), .bin .neq (.t 32) (.c (.int .i64 0))⟩, ⟨(some 34), none, .pick (.t 31) (.c (.bool true)) (.t 33)⟩, ⟨(some 28), none, .mv (.t 34)⟩])
  (.cond (.t 28) (.seq (.ops [⟨(some 4), none, .mv (.c (.nils))⟩, ⟨(some 5), none, .mv (.c (.int .i64 2))⟩])
  .ret) .skip)))))
  (.seq (.draw [⟨(some 35), none, .mv (.t 0)⟩, ⟨(some 36), none, .idxS 6 (.t 35) (.c (.int .i64 0))⟩, ⟨(some 37), none, .fieldA 0 (.t 36)⟩, ⟨(some 38), none, .load false 1 (.t 37)⟩, ⟨(some 39), none, .mv (.t 1)⟩, ⟨(some 40), none, .idxS 6 (.t 39) (.c (.int .i64 0))⟩, ⟨(some 41), none, .fieldA 0 (.t 40)⟩, ⟨(some 42), none, .load false 1 (.t 41)⟩, ⟨(some 8), none, .mv (.t 38)⟩, ⟨(some 9), none, .mv (.t 42)⟩, ⟨(some 43), none, .bsl false 27 6 []⟩, ⟨(some 10), none, .mv (.t 43)⟩])
  (.seq (.seq (.ops [⟨(some 44), none, .mv (.t 8)⟩, ⟨(some 45), none, .mv (.t 9)⟩, ⟨(some 46), none, .bin .add (.t 44) (.t 45)⟩, ⟨(some 47), none, .bin .gtr (.t 46) (.c (.int .i64 5))⟩, ⟨(some 48), none, .mv (.t 47)⟩, ⟨(some 49), some (48, false), .mv (.t 0)⟩, ⟨(some 50), some (48, false), .len false (.t 49)⟩, ⟨(some 51), some (48, false), .mv (.t 1)⟩, ⟨(some 52), some (48, false), .len false (.t 51)⟩, ⟨(some 53), some (48, false), .bin .add (.t 50) (.t 52)⟩, ⟨(some 54), some (48, false), .bin .gtr (.t 53) (.c (.int .i64 6))⟩, ⟨(some 55), none, .pick (.t 48) (.c (.bool true)) (.t 54)⟩])
  (.cond (.t 55) (.seq (.ops [⟨(some 4), none, .mv (.c (.nils))⟩, ⟨(some 5), none, .mv (.c (.int .i64 3))⟩])
  .ret) .skip))
  (.seq (.seq (.ops [⟨(some 11), none, .mv (.c (.int .i64 0))⟩])
  (.block 1 (.loop k38_b1)))
  (.seq (.seq (.ops [⟨(some 14), none, .mv (.c (.int .i64 0))⟩])
  (.block 5 (.loop k38_b3)))
  (.seq (.ops [⟨(some 118), none, .mv (.t 10)⟩, ⟨(some 4), none, .mv (.t 118)⟩, ⟨(some 5), none, .mv (.c (.int .i64 0))⟩])
  .ret))))))))
theorem e38 {args : List PV} {σ : Heap} {K : PV → Heap → Prop} (hl : args.length ≤ 119) (h : Wf σ → (∀ a ∈ args, PV.upto σ.length a) → vc (mkCfg Try.prog mixed [83, 116] 119 σ.length) k38 (FinK σ.length [.t 4, .t 5] K) (argEnv 0 args) σ) : ACall Try.prog 38 args σ K :=
  ACall_enter (C := mkCfg Try.prog mixed [83, 116] 119 σ.length) (c := Try.f38.body.getD .skip) Try.func38 (by kernel_rfl) (by kernel_rfl) (by kernel_rfl) rfl hl (by kernel_rfl) (by kernel_rfl) h
end Go.Proofs.Ytkljidghocnllaa
namespace Go.Proofs.Ytkljidghocnllaa
open Go.Kv
set_option linter.unusedVariables false
set_option linter.unusedSimpArgs false
attribute [local irreducible] ACall PCall KL
/-- The images of a map of the first list, the first i of them, in T points. -/
def sA (T : Nat) (f : List Nat) (i : Nat) : List Nat := f.take i ++ (List.range T).drop i
/-- The images of a map of the second list, behind n points, the first i of them. -/
def sB (T n : Nat) (f : List Nat) (i : Nat) : List Nat := List.range n ++ (f.take i).map (fun x => n + x) ++ (List.range T).drop (n + i)
theorem range_drop {T i : Nat} (h : i < T) : (List.range T).drop i = i :: (List.range T).drop (i + 1) := by
  rw [List.drop_eq_getElem_cons (by simpa using h)]; simp
theorem sA_length {T : Nat} {f : List Nat} {i : Nat} (h : i ≤ f.length) (h' : i ≤ T) : (sA T f i).length = T := by simp [sA]; omega
theorem sB_length {T n : Nat} {f : List Nat} {i : Nat} (h : i ≤ f.length) (h' : n + i ≤ T) : (sB T n f i).length = T := by simp [sB]; omega
theorem sA_zero (T : Nat) (f : List Nat) : sA T f 0 = List.range T := by simp [sA]
theorem sB_zero {T n : Nat} (f : List Nat) (h : n ≤ T) : sB T n f 0 = List.range T := by
  simp only [sB, List.take_zero, List.map_nil, List.append_nil, Nat.add_zero]
  have : List.range n = (List.range T).take n := by rw [List.take_range, Nat.min_eq_left h]
  rw [this, List.take_append_drop]
theorem sA_step {T : Nat} {f : List Nat} {i : Nat} (h : i < f.length) (h' : i < T) : (sA T f i).set i (f.getD i 0) = sA T f (i + 1) := by
  have hl : (f.take i).length = i := by simp; omega
  rw [sA, List.set_append_right _ _ (by omega), hl, Nat.sub_self, range_drop h', List.set_cons_zero, sA, List.take_succ_eq_append_getElem h, getD_eq h, List.append_assoc]
  rfl
theorem sB_step {T n : Nat} {f : List Nat} {i : Nat} (h : i < f.length) (h' : n + i < T) : (sB T n f i).set (n + i) (n + f.getD i 0) = sB T n f (i + 1) := by
  have hl : (List.range n ++ (f.take i).map (fun x => n + x)).length = n + i := by simp; omega
  rw [sB, List.set_append_right _ _ (by omega), hl, Nat.sub_self, range_drop h', List.set_cons_zero, sB, List.take_succ_eq_append_getElem h, getD_eq h, List.map_append]
  simp only [List.map_cons, List.map_nil, List.append_assoc, List.cons_append, List.nil_append, Nat.add_assoc]
/-- What is copied over the identity. -/
theorem over_id {T : Nat} {f : List Nat} (h : f.length ≤ T) (h5 : T ≤ 5) : putC (ints (mp (List.range T))) 1 (ints (f.map fun x : Nat => (x : Int))) = ints (mp (sA T f f.length)) := by
  have hm : (mp (List.range T)).length = 6 := mpN_length (by simp; omega)
  rw [putC_ints _ _ _ (by simp [hm]; omega)]
  congr 1
  have e1 : mp (sA T f f.length) = mpN T (sA T f f.length) := by rw [mp, sA_length (Nat.le_refl _) h]
  rw [e1]
  simp only [List.length_map, mp, mpN, List.length_range, sA, List.take_length, List.map_append, List.length_append, List.length_drop]
  rw [show 1 + f.length = f.length + 1 by omega, List.take_succ_cons, List.take_zero, List.drop_succ_cons, List.drop_append_of_le_length (by simpa using h), List.map_drop]
  rw [show f.length + (T - f.length) = T by omega]
  simp
def rsA (T : Nat) (fs : List (List Nat)) : List (List Int) := fs.map fun f => mp (sA T f f.length)
def rsB (T n : Nat) (fs : List (List Nat)) : List (List Int) := fs.map fun f => mp (sB T n f f.length)
theorem rsA_snoc (T : Nat) {fs : List (List Nat)} {x : Nat} (h : x < fs.length) : rsA T (fs.take x) ++ [mp (sA T fs[x] fs[x].length)] = rsA T (fs.take (x + 1)) := by
  rw [List.take_succ_eq_append_getElem h]; simp only [rsA, List.map_append, List.map_cons, List.map_nil]
theorem rsB_snoc (T n : Nat) {fs : List (List Nat)} {x : Nat} (h : x < fs.length) : rsB T n (fs.take x) ++ [mp (sB T n fs[x] fs[x].length)] = rsB T n (fs.take (x + 1)) := by
  rw [List.take_succ_eq_append_getElem h]; simp only [rsB, List.map_append, List.map_cons, List.map_nil]
@[simp] theorem rsA_length (T : Nat) (fs : List (List Nat)) : (rsA T fs).length = fs.length := by simp [rsA]
@[simp] theorem rsB_length (T n : Nat) (fs : List (List Nat)) : (rsB T n fs).length = fs.length := by simp [rsB]
def pts (a : List (List Int)) : Int := (a.getD 0 []).getD 0 0
/-- The code of two lists. -/
def sbc (a b : List (List Int)) : Int := if (a ++ b).all isM = false then 1 else if lcode a [] ≠ 0 ∨ lcode b [] ≠ 0 then 2 else if 5 < pts a + pts b ∨ 6 < a.length + b.length then 3 else 0
theorem lcode_one (a : List (List Int)) : lcode a [] = 1 ↔ a.all isM = false := by
  unfold lcode
  rw [List.append_nil]
  constructor
  · intro h
    cases ha : a.all isM with
    | false => rfl
    | true =>
      rw [if_neg (by simp [ha])] at h
      split at h
      · omega
      · split at h <;> omega
  · intro h; rw [if_pos h]
theorem p38_in (fs gs : List (List Nat)) (n m : Nat) (hf : ∀ f ∈ fs, Ok f n) (hg : ∀ g ∈ gs, Ok g m) (hl1 : 1 ≤ fs.length) (hl2 : 1 ≤ gs.length) (hnm : n + m ≤ 5) (hll : fs.length + gs.length ≤ 6) (hn : 1 ≤ n) (hm : 1 ≤ m)
    (h6 : ∀ r ∈ fs.map mp, r.length = 6) (h6' : ∀ r ∈ gs.map mp, r.length = 6) (hca : lcode (fs.map mp) [] = 0) (hcb : lcode (gs.map mp) [] = 0) :
    Pure Try.prog 38 [.list (aggs (fs.map mp)), .list (aggs (gs.map mp))] (.tup [.list (aggs (rsA (n + m) fs ++ rsB (n + m) n gs)), .int .i64 0]) := by
  have h0 : 0 < fs.length := by omega
  have h0' : 0 < gs.length := by omega
  have hk0 := hf _ (List.getElem_mem h0)
  have hk0' := hg _ (List.getElem_mem h0')
  have e0 : (mp fs[0]).getD 0 0 = n := by rw [mp_get0, hk0.len]
  have e0' : (mp gs[0]).getD 0 0 = m := by rw [mp_get0, hk0'.len]
  have q0 := hk0.mp_len
  have q0' := hk0'.mp_len
  refine e38 (by simp) fun _ _ => ?_
  simp only [k38, argEnv, take6, List.drop_zero, Int.cast_ofNat_Int, go_sem, ↓reduceIte, Nat.reduceEqDiff, Nat.reduceAdd, Nat.reduceMul, Nat.reduceLeDiff, Nat.reduceLT, Int.reduceLE, Int.reduceLT, reduceCtorEq]
  refine (p63n (fs.map mp) (by simp; omega) h6).go ?_
  rw [hca]
  try simp only [take6, List.drop_zero, Int.cast_ofNat_Int, go_sem, ↓reduceIte, Nat.reduceEqDiff, Nat.reduceAdd, Nat.reduceMul, Nat.reduceLeDiff, Nat.reduceLT, Int.reduceLE, Int.reduceLT, reduceCtorEq]
  refine (p63n (gs.map mp) (by simp; omega) h6').go ?_
  rw [hcb]
  try simp only [List.length_map, map_getD h0, map_getD h0', e0, e0', q0, q0', hk0.len, hk0'.len, take6, List.drop_zero, Int.cast_ofNat_Int, go_sem, ↓reduceIte, Nat.reduceEqDiff, Nat.reduceAdd, Nat.reduceMul, Nat.reduceLeDiff, Nat.reduceLT, Int.reduceLE, Int.reduceLT, reduceCtorEq]
  repeat' (first | refine And.intro ?_ ?_ | intro _)
  all_goals (try omega)
  have hidn := p75 (n + m) (by omega) hnm
  rw [Int.natCast_add] at hidn
  refine KL_ind k38_b1.eq_1 (fun x : Nat × PV × Heap => [(0, .list (aggs (fs.map mp))), (1, .list (aggs (gs.map mp))), (8, .int .i64 n), (9, .int .i64 m), (10, x.2.1), (11, .int .i64 x.1)]) (fun x => x.2.2) (fun x => x.1 ≤ fs.length ∧ OwnA 27 x.2.2 0 x.2.2.length x.2.1 (rsA (n + m) (fs.take x.1)) ∧ Free x.2.2) (fun x => fs.length - x.1) [0, 1, 8, 9, 10, 11] (0, .ref 0 0 0 0, [.arr 0 27 6 []]) (by rfl) (by rfl) ⟨Nat.zero_le _, .own 0 0 [] [] rfl (by simp) ⟨Nat.zero_le _, by simp⟩, Free.empty _ _ _⟩ fun ⟨x, v, σ⟩ ⟨hx, hT, hfr⟩ ih => ?_
  simp only at hx hT hfr
  try simp only [List.length_map, take6, List.drop_zero, Int.cast_ofNat_Int, go_sem, ↓reduceIte, Nat.reduceEqDiff, Nat.reduceAdd, Nat.reduceMul, Nat.reduceLeDiff, Nat.reduceLT, Int.reduceLE, Int.reduceLT, reduceCtorEq]
  refine ⟨fun h1 => ?_, fun h1 => ?_⟩
  · have hxt : x < fs.length := by omega
    have hk := hf _ (List.getElem_mem hxt)
    have q6 := hk.mp_len
    have hself : ∀ a : AObj, (σ ++ [a])[σ.length]? = some a := fun a => by simp
    have hset : ∀ a b : AObj, (σ ++ [a]).set σ.length b = σ ++ [b] := fun a b => by simp [List.set_append_right]
    have hr6 : (mp (List.range (n + m))).length = 6 := mpN_length (by simp; omega)
    have hmr : mpN ((n + m : Nat) : Int) (sA (n + m) fs[x] 0) = mp (List.range (n + m)) := by rw [sA_zero, mp, List.length_range]
    refine ⟨by omega, ?_⟩
    refine hidn.go ?_
    try simp only [hr6, hself, hset, take6, List.drop_zero, Int.cast_ofNat_Int, go_sem, ↓reduceIte, Nat.reduceEqDiff, Nat.reduceAdd, Nat.reduceMul, Nat.reduceLeDiff, Nat.reduceLT, Int.reduceLE, Int.reduceLT, reduceCtorEq]
    refine KL_ind k38_b0.eq_1 (fun y : Nat => [(0, .list (aggs (fs.map mp))), (1, .list (aggs (gs.map mp))), (8, .int .i64 n), (9, .int .i64 m), (10, v), (11, .int .i64 x), (12, .ptr σ.length 0), (13, .int .i64 y)]) (fun y => σ ++ [.box (ints (mpN ((n + m : Nat) : Int) (sA (n + m) fs[x] y)))]) (fun y => y ≤ n) (fun y => n - y) [0, 1, 8, 9, 10, 11, 12, 13] 0 (by simp [keep]) ?_ (Nat.zero_le _) fun y hy ihy => ?_
    · show _ = σ ++ [AObj.box (ints (mpN ((n + m : Nat) : Int) (sA (n + m) fs[x] 0)))]
      rw [hmr]
    have hsl : (sA (n + m) fs[x] y).length = n + m := sA_length (by rw [hk.len]; exact hy) (by omega)
    have hs6 : (mpN ((n + m : Nat) : Int) (sA (n + m) fs[x] y)).length = 6 := mpN_length (by omega)
    have hgy := hk.get' y
    try simp only [hself, hset, hs6, q6, map_getD hxt, List.length_map, take6, List.drop_zero, Int.cast_ofNat_Int, go_sem, ↓reduceIte, Nat.reduceEqDiff, Nat.reduceAdd, Nat.reduceMul, Nat.reduceLeDiff, Nat.reduceLT, Int.reduceLE, Int.reduceLT, reduceCtorEq]
    refine ⟨fun h2 => ?_, fun h2 => ?_⟩
    · have hst := sA_step (T := n + m) (f := fs[x]) (i := y) (by rw [hk.len]; omega) (by omega)
      refine ⟨by omega, fun _ => ⟨by omega, by omega, fun _ => ⟨by omega, by omega, by omega, ?_⟩⟩⟩
      refine ihy (y + 1) (by omega) (by omega) _ _ (by rfl) ?_
      rw [mpN_set (by omega), hst]
    · obtain rfl : y = n := by omega
      have e : mpN ((y + m : Nat) : Int) (sA (y + m) fs[x] y) = mp (sA (y + m) fs[x] fs[x].length) := by rw [mp, hk.len, hsl]
      have hs6' := hs6
      rw [e] at hs6'
      rw [e]
      try simp only [hs6', hself, OpK_eq, take6, List.drop_zero, Int.cast_ofNat_Int, go_sem, ↓reduceIte, Nat.reduceEqDiff, Nat.reduceAdd, Nat.reduceMul, Nat.reduceLeDiff, Nat.reduceLT, Int.reduceLE, Int.reduceLT, reduceCtorEq]
      refine OwnA.push (OwnA.append hT _) (hfr.append (Free.boxI _)) _ hs6' (by simp; omega) fun v' σ' hT' hf' => ?_
      try simp only [OpK_eq, take6, List.drop_zero, Int.cast_ofNat_Int, go_sem, ↓reduceIte, Nat.reduceEqDiff, Nat.reduceAdd, Nat.reduceMul, Nat.reduceLeDiff, Nat.reduceLT, Int.reduceLE, Int.reduceLT, reduceCtorEq]
      repeat' (first | refine And.intro ?_ ?_ | intro _)
      all_goals (try omega)
      refine ih (x + 1, v', σ') ⟨by show x + 1 ≤ fs.length; omega, ?_, hf'⟩ (by show fs.length - (x + 1) < fs.length - x; omega) _ _ (by rfl) rfl
      rw [← rsA_snoc _ hxt]; exact hT'
  obtain rfl : x = fs.length := by omega
  rw [List.take_length] at hT
  clear ih
  refine KL_ind k38_b3.eq_1 (fun x : Nat × PV × Heap => [(1, .list (aggs (gs.map mp))), (8, .int .i64 n), (9, .int .i64 m), (10, x.2.1), (14, .int .i64 x.1)]) (fun x => x.2.2) (fun x => x.1 ≤ gs.length ∧ OwnA 27 x.2.2 0 x.2.2.length x.2.1 (rsA (n + m) fs ++ rsB (n + m) n (gs.take x.1)) ∧ Free x.2.2) (fun x => gs.length - x.1) [1, 8, 9, 10, 14] (0, v, σ) (by rfl) (by rfl) ⟨Nat.zero_le _, by simpa [rsB] using hT, hfr⟩ fun ⟨x, v, σ⟩ ⟨hx, hT, hfr⟩ ih => ?_
  simp only at hx hT hfr
  try simp only [List.length_map, take6, List.drop_zero, Int.cast_ofNat_Int, go_sem, ↓reduceIte, Nat.reduceEqDiff, Nat.reduceAdd, Nat.reduceMul, Nat.reduceLeDiff, Nat.reduceLT, Int.reduceLE, Int.reduceLT, reduceCtorEq]
  refine ⟨fun h1 => ?_, fun h1 => ?_⟩
  · have hxt : x < gs.length := by omega
    have hk := hg _ (List.getElem_mem hxt)
    have q6 := hk.mp_len
    have hself : ∀ a : AObj, (σ ++ [a])[σ.length]? = some a := fun a => by simp
    have hset : ∀ a b : AObj, (σ ++ [a]).set σ.length b = σ ++ [b] := fun a b => by simp [List.set_append_right]
    have hr6 : (mp (List.range (n + m))).length = 6 := mpN_length (by simp; omega)
    have hmr : mpN ((n + m : Nat) : Int) (sB (n + m) n gs[x] 0) = mp (List.range (n + m)) := by rw [sB_zero _ (by omega), mp, List.length_range]
    refine ⟨by omega, ?_⟩
    refine hidn.go ?_
    try simp only [hr6, hself, hset, take6, List.drop_zero, Int.cast_ofNat_Int, go_sem, ↓reduceIte, Nat.reduceEqDiff, Nat.reduceAdd, Nat.reduceMul, Nat.reduceLeDiff, Nat.reduceLT, Int.reduceLE, Int.reduceLT, reduceCtorEq]
    refine KL_ind k38_b2.eq_1 (fun y : Nat => [(1, .list (aggs (gs.map mp))), (8, .int .i64 n), (9, .int .i64 m), (10, v), (14, .int .i64 x), (15, .ptr σ.length 0), (16, .int .i64 y)]) (fun y => σ ++ [.box (ints (mpN ((n + m : Nat) : Int) (sB (n + m) n gs[x] y)))]) (fun y => y ≤ m) (fun y => m - y) [1, 8, 9, 10, 14, 15, 16] 0 (by simp [keep]) ?_ (Nat.zero_le _) fun y hy ihy => ?_
    · show _ = σ ++ [AObj.box (ints (mpN ((n + m : Nat) : Int) (sB (n + m) n gs[x] 0)))]
      rw [hmr]
    have hsl : (sB (n + m) n gs[x] y).length = n + m := sB_length (by rw [hk.len]; exact hy) (by omega)
    have hs6 : (mpN ((n + m : Nat) : Int) (sB (n + m) n gs[x] y)).length = 6 := mpN_length (by omega)
    have hgy := hk.get' y
    have hty : ((n : Int) + (y : Int)).toNat = n + y := by omega
    try simp only [hself, hset, hs6, q6, map_getD hxt, List.length_map, hty, take6, List.drop_zero, Int.cast_ofNat_Int, go_sem, ↓reduceIte, Nat.reduceEqDiff, Nat.reduceAdd, Nat.reduceMul, Nat.reduceLeDiff, Nat.reduceLT, Int.reduceLE, Int.reduceLT, reduceCtorEq]
    refine ⟨fun h2 => ?_, fun h2 => ?_⟩
    · have hst := sB_step (T := n + m) (n := n) (f := gs[x]) (i := y) (by rw [hk.len]; omega) (by omega)
      refine ⟨by omega, by omega, fun _ => ⟨by omega, by omega, fun _ => ⟨by omega, ⟨by omega, by omega⟩, by omega, by omega, ?_⟩⟩⟩
      refine ihy (y + 1) (by omega) (by omega) _ _ (by rfl) ?_
      rw [← Int.natCast_add, mpN_set (by omega), hst]
    · obtain rfl : y = m := by omega
      have e : mpN ((n + y : Nat) : Int) (sB (n + y) n gs[x] y) = mp (sB (n + y) n gs[x] gs[x].length) := by rw [mp, hk.len, hsl]
      have hs6' := hs6
      rw [e] at hs6'
      rw [e]
      try simp only [hs6', hself, OpK_eq, take6, List.drop_zero, Int.cast_ofNat_Int, go_sem, ↓reduceIte, Nat.reduceEqDiff, Nat.reduceAdd, Nat.reduceMul, Nat.reduceLeDiff, Nat.reduceLT, Int.reduceLE, Int.reduceLT, reduceCtorEq]
      refine OwnA.push (OwnA.append hT _) (hfr.append (Free.boxI _)) _ hs6' (by simp; omega) fun v' σ' hT' hf' => ?_
      try simp only [OpK_eq, take6, List.drop_zero, Int.cast_ofNat_Int, go_sem, ↓reduceIte, Nat.reduceEqDiff, Nat.reduceAdd, Nat.reduceMul, Nat.reduceLeDiff, Nat.reduceLT, Int.reduceLE, Int.reduceLT, reduceCtorEq]
      repeat' (first | refine And.intro ?_ ?_ | intro _)
      all_goals (try omega)
      refine ih (x + 1, v', σ') ⟨by show x + 1 ≤ gs.length; omega, ?_, hf'⟩ (by show gs.length - (x + 1) < gs.length - x; omega) _ _ (by rfl) rfl
      rw [← rsB_snoc _ _ hxt, ← List.append_assoc]; exact hT'
  · obtain rfl : x = gs.length := by omega
    rw [List.take_length] at hT
    try simp only [OpK_eq, take6, List.drop_zero, Int.cast_ofNat_Int, go_sem, ↓reduceIte, Nat.reduceEqDiff, Nat.reduceAdd, Nat.reduceMul, Nat.reduceLeDiff, Nat.reduceLT, Int.reduceLE, Int.reduceLT, reduceCtorEq]
    exact Fin.freeze (Imm.tupL (.cons hT.imm (.cons (.int _ _ _) (.nil _)))) ⟨rfl, rfl⟩
theorem sbc_eq (a b : List (List Int)) : sbc a b = if lcode a [] = 1 ∨ lcode b [] = 1 then 1 else if lcode a [] ≠ 0 ∨ lcode b [] ≠ 0 then 2 else if 5 < pts a + pts b ∨ 6 < a.length + b.length then 3 else 0 := by
  unfold sbc
  have e : ((a ++ b).all isM = false) ↔ (lcode a [] = 1 ∨ lcode b [] = 1) := by
    rw [lcode_one, lcode_one, List.all_append, Bool.and_eq_false_iff]
  by_cases h : (a ++ b).all isM = false
  · rw [if_pos h, if_pos (e.1 h)]
  · rw [if_neg h, if_neg fun g => h (e.2 g)]
theorem sbc_zero {a b : List (List Int)} (h : sbc a b = 0) : lcode a [] = 0 ∧ lcode b [] = 0 ∧ pts a + pts b ≤ 5 ∧ a.length + b.length ≤ 6 := by
  rw [sbc_eq] at h
  split at h
  · omega
  split at h
  · omega
  split at h
  · omega
  omega
theorem p38_out (a b : List (List Int)) (ha : a.length ≤ 1048576) (hb : b.length ≤ 1048576) (h6 : ∀ r ∈ a, r.length = 6) (h6' : ∀ r ∈ b, r.length = 6) (h : sbc a b ≠ 0) : Pure Try.prog 38 [.list (aggs a), .list (aggs b)] (.tup [.nils, .int .i64 (sbc a b)]) := by
  have hv := sbc_eq a b
  refine e38 (by simp) fun _ _ => ?_
  simp only [k38, argEnv, take6, List.drop_zero, Int.cast_ofNat_Int, go_sem, ↓reduceIte, Nat.reduceEqDiff, Nat.reduceAdd, Nat.reduceMul, Nat.reduceLeDiff, Nat.reduceLT, Int.reduceLE, Int.reduceLT, reduceCtorEq]
  refine (p63n a ha h6).go ?_
  try simp only [take6, List.drop_zero, Int.cast_ofNat_Int, go_sem, ↓reduceIte, Nat.reduceEqDiff, Nat.reduceAdd, Nat.reduceMul, Nat.reduceLeDiff, Nat.reduceLT, Int.reduceLE, Int.reduceLT, reduceCtorEq]
  refine (p63n b hb h6').go ?_
  try simp only [take6, List.drop_zero, Int.cast_ofNat_Int, go_sem, ↓reduceIte, Nat.reduceEqDiff, Nat.reduceAdd, Nat.reduceMul, Nat.reduceLeDiff, Nat.reduceLT, Int.reduceLE, Int.reduceLT, reduceCtorEq]
  by_cases h1 : lcode a [] = 1
  · rw [if_pos (.inl h1)] at hv
    try simp only [h1, take6, List.drop_zero, Int.cast_ofNat_Int, go_sem, ↓reduceIte, Nat.reduceEqDiff, Nat.reduceAdd, Nat.reduceMul, Nat.reduceLeDiff, Nat.reduceLT, Int.reduceLE, Int.reduceLT, reduceCtorEq]
    exact Kv.Fin.still ⟨by rw [hv], rfl⟩
  by_cases h2 : lcode b [] = 1
  · rw [if_pos (.inr h2)] at hv
    try simp only [h1, h2, take6, List.drop_zero, Int.cast_ofNat_Int, go_sem, ↓reduceIte, Nat.reduceEqDiff, Nat.reduceAdd, Nat.reduceMul, Nat.reduceLeDiff, Nat.reduceLT, Int.reduceLE, Int.reduceLT, reduceCtorEq]
    exact Kv.Fin.still ⟨by rw [hv], rfl⟩
  rw [if_neg (by omega)] at hv
  by_cases h3 : lcode a [] = 0
  · by_cases h4 : lcode b [] = 0
    · rw [if_neg (by omega)] at hv
      have h5 : 5 < pts a + pts b ∨ 6 < a.length + b.length := by
        by_cases h5 : 5 < pts a + pts b ∨ 6 < a.length + b.length
        · exact h5
        · rw [if_neg h5] at hv; exact absurd hv h
      rw [if_pos h5] at hv
      obtain ⟨fs, n, rfl, hf, hl1, hl2, hn, hn1, hn5⟩ := lcode_maps h6 h3
      obtain ⟨gs, m, rfl, hg, hm1, hm2, hm, hm1', hm5⟩ := lcode_maps h6' h4
      have h0 : 0 < fs.length := by omega
      have h0' : 0 < gs.length := by omega
      have q0 := (hf _ (List.getElem_mem h0)).mp_len
      have q0' := (hg _ (List.getElem_mem h0')).mp_len
      unfold pts at h5
      rw [hn, hm] at h5
      rw [map_getD h0] at hn
      rw [map_getD h0'] at hm
      simp only [List.length_map] at h5
      try simp only [h1, h2, h3, h4, List.length_map, map_getD h0, map_getD h0', hn, hm, q0, q0', take6, List.drop_zero, Int.cast_ofNat_Int, go_sem, ↓reduceIte, Nat.reduceEqDiff, Nat.reduceAdd, Nat.reduceMul, Nat.reduceLeDiff, Nat.reduceLT, Int.reduceLE, Int.reduceLT, reduceCtorEq]
      repeat' (first | refine And.intro ?_ ?_ | intro _)
      all_goals (try omega)
      all_goals exact Kv.Fin.still ⟨by rw [hv], rfl⟩
    · rw [if_pos (.inr h4)] at hv
      try simp only [h1, h2, h3, h4, take6, List.drop_zero, Int.cast_ofNat_Int, go_sem, ↓reduceIte, Nat.reduceEqDiff, Nat.reduceAdd, Nat.reduceMul, Nat.reduceLeDiff, Nat.reduceLT, Int.reduceLE, Int.reduceLT, reduceCtorEq]
      repeat' (first | refine And.intro ?_ ?_ | intro _)
      all_goals (try omega)
      all_goals exact Kv.Fin.still ⟨by rw [hv], rfl⟩
  · rw [if_pos (.inl h3)] at hv
    try simp only [h1, h2, h3, take6, List.drop_zero, Int.cast_ofNat_Int, go_sem, ↓reduceIte, Nat.reduceEqDiff, Nat.reduceAdd, Nat.reduceMul, Nat.reduceLeDiff, Nat.reduceLT, Int.reduceLE, Int.reduceLT, reduceCtorEq]
    repeat' (first | refine And.intro ?_ ?_ | intro _)
    all_goals (try omega)
    all_goals exact Kv.Fin.still ⟨by rw [hv], rfl⟩
def sbT (a b : List (List Int)) : List (List Int) := if sbc a b = 0 then rsA ((pts a).toNat + (pts b).toNat) (a.map um) ++ rsB ((pts a).toNat + (pts b).toNat) (pts a).toNat (b.map um) else []
theorem KL_clean {C : Cfg} {b : KC} {Q : Exit → Env → Heap → Prop} {env : Env} {σ : Heap} (live : List Nat) (E : Env) (hn : C.n0 = 0) (hE : keep live env = E) (hu : E.undr 0 = true) (h : KL C b Q E []) : KL C b Q env σ := by
  refine KL_keep live ?_
  rw [hE]
  refine KL_drop 0 (by omega) (Nat.zero_le _) (Env.undr_upto hu) (fun o ho => by simp at ho) ?_
  simpa using h
theorem p40 (a b : List (List Int)) (ha : a.length ≤ 1048576) (hb : b.length ≤ 1048576) (h6 : ∀ r ∈ a, r.length = 6) (h6' : ∀ r ∈ b, r.length = 6) : NewAO Try.prog 40 [.list (aggs a), .list (aggs b)] 27 (sbT a b) (sbc a b) := by
  have hab : ∀ r ∈ a ++ b, r.length = 6 := fun r hr => (List.mem_append.1 hr).elim (h6 r) (h6' r)
  have hlab : (a ++ b).length ≤ 2097152 := by simp; omega
  have hsum : a.length + b.length = (a ++ b).length := by simp
  have hv : sbc a b = if (a ++ b).all isM = false then 1 else if lcode a [] ≠ 0 ∨ lcode b [] ≠ 0 then 2 else if 5 < pts a + pts b ∨ 6 < a.length + b.length then 3 else 0 := rfl
  have hT0 : sbc a b ≠ 0 → sbT a b = [] := fun h => by unfold sbT; rw [if_neg h]
  unfold NewAO
  refine e40 (by simp) fun _ _ => ?_
  simp only [k40, argEnv, take6, List.drop_zero, Int.cast_ofNat_Int, go_sem, ↓reduceIte, Nat.reduceEqDiff, Nat.reduceAdd, Nat.reduceMul, Nat.reduceLeDiff, Nat.reduceLT, Int.reduceLE, Int.reduceLT, reduceCtorEq]
  refine p76L _ 0 (.list (aggs b)) a b (.list _) rfl ha hb h6 h6' fun ver => ?_
  try simp only [take6, List.drop_zero, Int.cast_ofNat_Int, go_sem, ↓reduceIte, Nat.reduceEqDiff, Nat.reduceAdd, Nat.reduceMul, Nat.reduceLeDiff, Nat.reduceLT, Int.reduceLE, Int.reduceLT, reduceCtorEq]
  rw [hsum]
  generalize hL : a ++ b = l at *
  refine KL_indD k40_b0.eq_1 (fun x : Nat => [(0, .list (aggs a)), (1, .list (aggs b)), (21, .ref 1 ver 0 l.length), (22, .int .i64 l.length), (23, .int .i64 x)]) (fun _ => [.arr 0 35 1 [.list (aggs a), .list (aggs b)], .arr ver 27 6 (aggs l)]) (fun x => x ≤ l.length ∧ (l.take x).all isM = true) (fun x => l.length - x) [0, 1, 21, 22, 23] 0 (by rfl) ⟨[], rfl⟩ ⟨Nat.zero_le _, by simp⟩ (fun x hx => ?_) fun x ⟨hx, hall⟩ ih => ?_
  · refine ⟨Nat.zero_le _, ?_, ?_⟩
    · exact Env.undr_upto (by simp [Env.undr, PV.undr, undrX_aggs])
    · exact .cons (by simp [AObj.undr, PV.undr, PV.undrX, undrX_aggs]) (.cons (by simp [AObj.undr, undrX_aggs]) (.nil _))
  try simp only [take6, List.drop_zero, Int.cast_ofNat_Int, go_sem, ↓reduceIte, Nat.reduceEqDiff, Nat.reduceAdd, Nat.reduceMul, Nat.reduceLeDiff, Nat.reduceLT, Int.reduceLE, Int.reduceLT, reduceCtorEq]
  refine ⟨fun h1 => ⟨by omega, by omega, fun h2 => ?_⟩, fun h1 => ?_⟩
  · have q6 := hab _ (List.getElem_mem h2)
    rw [getD_eq h2]
    try simp only [q6, take6, List.drop_zero, Int.cast_ofNat_Int, go_sem, ↓reduceIte, Nat.reduceEqDiff, Nat.reduceAdd, Nat.reduceMul, Nat.reduceLeDiff, Nat.reduceLT, Int.reduceLE, Int.reduceLT, reduceCtorEq]
    refine (p77 _ q6).go ?_
    try simp only [take6, List.drop_zero, Int.cast_ofNat_Int, go_sem, ↓reduceIte, Nat.reduceEqDiff, Nat.reduceAdd, Nat.reduceMul, Nat.reduceLeDiff, Nat.reduceLT, Int.reduceLE, Int.reduceLT, reduceCtorEq]
    refine ⟨fun h3 => ?_, fun h3 => ⟨by omega, ?_⟩⟩
    · rw [if_pos (all_false h2 h3)] at hv
      rw [hT0 (by omega), hv]
      exact Kv.Fin.still ⟨.nils, rfl, .nil, .nil⟩
    · refine ih (x + 1) ⟨by omega, ?_⟩ (by omega) _ _ (by rfl) ⟨[_], rfl⟩
      rw [all_take_succ _ h2, hall, h3]; rfl
  obtain rfl : x = l.length := by omega
  rw [List.take_length] at hall
  rw [if_neg (by rw [hall]; simp)] at hv
  clear ih
  refine (p64 .nils a [] .nil ha (by simp) h6 (by simp)).go ?_
  try simp only [take6, List.drop_zero, Int.cast_ofNat_Int, go_sem, ↓reduceIte, Nat.reduceEqDiff, Nat.reduceAdd, Nat.reduceMul, Nat.reduceLeDiff, Nat.reduceLT, Int.reduceLE, Int.reduceLT, reduceCtorEq]
  by_cases h3 : lcode a [] = 0
  case neg =>
    rw [if_pos (.inl h3)] at hv
    rw [hT0 (by omega), hv]
    refine ⟨fun h => absurd h h3, fun _ => Kv.Fin.still ⟨.nils, rfl, .nil, .nil⟩⟩
  refine ⟨fun _ => ?_, fun h => absurd h3 h⟩
  refine (p64 .nils b [] .nil hb (by simp) h6' (by simp)).go ?_
  by_cases h4 : lcode b [] = 0
  case neg =>
    rw [if_pos (.inr h4)] at hv
    rw [hT0 (by omega), hv]
    try simp only [h4, take6, List.drop_zero, Int.cast_ofNat_Int, go_sem, ↓reduceIte, Nat.reduceEqDiff, Nat.reduceAdd, Nat.reduceMul, Nat.reduceLeDiff, Nat.reduceLT, Int.reduceLE, Int.reduceLT, reduceCtorEq]
    exact Kv.Fin.still ⟨.nils, rfl, .nil, .nil⟩
  rw [if_neg (by omega)] at hv
  obtain ⟨fs, n, rfl, hf, hl1, hl2, hn, hn1, hn5⟩ := lcode_maps h6 h3
  obtain ⟨gs, m, rfl, hg, hm1, hm2, hm, hm1', hm5⟩ := lcode_maps h6' h4
  have h0 : 0 < fs.length := by omega
  have h0' : 0 < gs.length := by omega
  have q0 := (hf _ (List.getElem_mem h0)).mp_len
  have q0' := (hg _ (List.getElem_mem h0')).mp_len
  unfold pts at hv
  rw [hn, hm] at hv
  have hTd : sbT (fs.map mp) (gs.map mp) = if sbc (fs.map mp) (gs.map mp) = 0 then rsA (n + m) fs ++ rsB (n + m) n gs else [] := by
    unfold sbT pts
    rw [hn, hm, map_um, map_um]
    simp only [Int.toNat_natCast]
  rw [map_getD h0] at hn
  rw [map_getD h0'] at hm
  simp only [List.length_map] at hv
  by_cases h5 : 5 < (n : Int) + m ∨ 6 < fs.length + gs.length
  case pos =>
    rw [if_pos h5] at hv
    rw [hT0 (by omega), hv]
    try simp only [h4, List.length_map, map_getD h0, map_getD h0', hn, hm, q0, q0', take6, List.drop_zero, Int.cast_ofNat_Int, go_sem, ↓reduceIte, Nat.reduceEqDiff, Nat.reduceAdd, Nat.reduceMul, Nat.reduceLeDiff, Nat.reduceLT, Int.reduceLE, Int.reduceLT, reduceCtorEq]
    repeat' (first | refine And.intro ?_ ?_ | intro _)
    all_goals (try omega)
    all_goals exact Kv.Fin.still ⟨.nils, rfl, .nil, .nil⟩
  rw [if_neg h5] at hv
  rw [if_pos hv] at hTd
  rw [hTd, hv]
  try simp only [h4, List.length_map, map_getD h0, map_getD h0', hn, hm, q0, q0', take6, List.drop_zero, Int.cast_ofNat_Int, go_sem, ↓reduceIte, Nat.reduceEqDiff, Nat.reduceAdd, Nat.reduceMul, Nat.reduceLeDiff, Nat.reduceLT, Int.reduceLE, Int.reduceLT, reduceCtorEq]
  repeat' (first | refine And.intro ?_ ?_ | intro _)
  all_goals (try omega)
  have hnm : n + m ≤ 5 := by omega
  have hidn := p78 (n + m) (by omega) hnm
  rw [Int.natCast_add] at hidn
  refine KL_clean [1, 8, 9, 10, 59, 60, 61] [(1, .list (aggs (gs.map mp))), (8, .int .i64 n), (9, .int .i64 ((n : Int) + m)), (10, .nils), (59, .list (aggs (fs.map mp))), (60, .int .i64 fs.length), (61, .int .i64 0)] rfl rfl (by simp [Env.undr, PV.undr, undrX_aggs]) ?_
  refine KL_ind k40_b1.eq_1 (fun x : Nat × PV × Heap => [(1, .list (aggs (gs.map mp))), (8, .int .i64 n), (9, .int .i64 ((n : Int) + m)), (10, x.2.1), (59, .list (aggs (fs.map mp))), (60, .int .i64 fs.length), (61, .int .i64 x.1)]) (fun x => x.2.2) (fun x => x.1 ≤ fs.length ∧ OwnA 27 x.2.2 0 x.2.2.length x.2.1 (rsA (n + m) (fs.take x.1)) ∧ Free x.2.2) (fun x => fs.length - x.1) [1, 8, 9, 10, 59, 60, 61] (0, .nils, []) (by rfl) (by rfl) ⟨Nat.zero_le _, .nil, .nil⟩ fun ⟨x, v, σ⟩ ⟨hx, hT, hfr⟩ ih => ?_
  simp only at hx hT hfr
  have hself : ∀ a : AObj, (σ ++ [a])[σ.length]? = some a := fun a => by simp
  have hset : ∀ a b : AObj, (σ ++ [a]).set σ.length b = σ ++ [b] := fun a b => by simp [List.set_append_right]
  have h2a : ∀ a b : AObj, (σ ++ [a] ++ [b])[σ.length]? = some a := fun a b => by rw [List.getElem?_append_left (by simp)]; simp
  have h2b : ∀ a b : AObj, (σ ++ [a] ++ [b])[σ.length + 1]? = some b := fun a b => by rw [List.getElem?_append_right (by simp)]; simp
  have h2s : ∀ a b b' : AObj, (σ ++ [a] ++ [b]).set (σ.length + 1) b' = σ ++ [a] ++ [b'] := fun a b b' => by rw [List.set_append_right _ _ (by simp)]; simp
  have hr6 : (mp (List.range (n + m))).length = 6 := mpN_length (by simp; omega)
  try simp only [List.length_map, take6, List.drop_zero, Int.cast_ofNat_Int, go_sem, ↓reduceIte, Nat.reduceEqDiff, Nat.reduceAdd, Nat.reduceMul, Nat.reduceLeDiff, Nat.reduceLT, Int.reduceLE, Int.reduceLT, reduceCtorEq]
  refine ⟨fun h1 => ?_, fun h1 => ?_⟩
  · have hxt : x < fs.length := by omega
    have hk := hf _ (List.getElem_mem hxt)
    have q6 := hk.mp_len
    have s6 : (mp (sA (n + m) fs[x] fs[x].length)).length = 6 := mpN_length (by rw [sA_length (Nat.le_refl _) (by rw [hk.len]; omega)]; omega)
    have hov := over_id (T := n + m) (f := fs[x]) (by rw [hk.len]; omega) hnm
    try simp only [q6, map_getD hxt, List.length_map, hself, hset, take6, List.drop_zero, Int.cast_ofNat_Int, go_sem, ↓reduceIte, Nat.reduceEqDiff, Nat.reduceAdd, Nat.reduceMul, Nat.reduceLeDiff, Nat.reduceLT, Int.reduceLE, Int.reduceLT, reduceCtorEq]
    refine ⟨by omega, fun _ => ?_⟩
    refine hidn.go ?_
    try simp only [q6, hr6, hself, hset, h2a, h2b, h2s, take6, List.drop_zero, Int.cast_ofNat_Int, go_sem, ↓reduceIte, Nat.reduceEqDiff, Nat.reduceAdd, Nat.reduceMul, Nat.reduceLeDiff, Nat.reduceLT, Int.reduceLE, Int.reduceLT, reduceCtorEq]
    have hmid : (((mp fs[x]).drop 1).take n).take n = fs[x].map fun x : Nat => (x : Int) := by
      have h1 : (fs[x].map fun x : Nat => (x : Int)).length = n := by rw [List.length_map, hk.len]
      rw [List.take_take, Nat.min_self]
      simp only [mp, mpN, List.drop_succ_cons, List.drop_zero]
      rw [← h1, List.take_left]
    rw [hmid, hov]
    refine ⟨by omega, by omega, by omega, by omega, ?_⟩
    try simp only [OpK_eq, h2b, s6, take6, List.drop_zero, Int.cast_ofNat_Int, go_sem, ↓reduceIte, Nat.reduceEqDiff, Nat.reduceAdd, Nat.reduceMul, Nat.reduceLeDiff, Nat.reduceLT, Int.reduceLE, Int.reduceLT, reduceCtorEq]
    refine OwnA.push (OwnA.append (OwnA.append hT _) _) ((hfr.append (Free.boxI _)).append (Free.boxI _)) _ s6 (by simp; omega) fun v' σ' hT' hf' => ?_
    try simp only [OpK_eq, take6, List.drop_zero, Int.cast_ofNat_Int, go_sem, ↓reduceIte, Nat.reduceEqDiff, Nat.reduceAdd, Nat.reduceMul, Nat.reduceLeDiff, Nat.reduceLT, Int.reduceLE, Int.reduceLT, reduceCtorEq]
    repeat' (first | refine And.intro ?_ ?_ | intro _)
    all_goals (try omega)
    refine ih (x + 1, v', σ') ⟨by show x + 1 ≤ fs.length; omega, ?_, hf'⟩ (by show fs.length - (x + 1) < fs.length - x; omega) _ _ (by rfl) rfl
    rw [← rsA_snoc _ hxt]; exact hT'
  obtain rfl : x = fs.length := by omega
  rw [List.take_length] at hT
  clear ih hself hset h2a h2b h2s
  refine KL_ind k40_b3.eq_1 (fun x : Nat × PV × Heap => [(8, .int .i64 n), (9, .int .i64 ((n : Int) + m)), (10, x.2.1), (79, .list (aggs (gs.map mp))), (80, .int .i64 gs.length), (81, .int .i64 x.1)]) (fun x => x.2.2) (fun x => x.1 ≤ gs.length ∧ OwnA 27 x.2.2 0 x.2.2.length x.2.1 (rsA (n + m) fs ++ rsB (n + m) n (gs.take x.1)) ∧ Free x.2.2) (fun x => gs.length - x.1) [8, 9, 10, 79, 80, 81] (0, v, σ) (by rfl) (by rfl) ⟨Nat.zero_le _, by simpa [rsB] using hT, hfr⟩ fun ⟨x, v, σ⟩ ⟨hx, hT, hfr⟩ ih => ?_
  simp only at hx hT hfr
  have hself : ∀ a : AObj, (σ ++ [a])[σ.length]? = some a := fun a => by simp
  have hset : ∀ a b : AObj, (σ ++ [a]).set σ.length b = σ ++ [b] := fun a b => by simp [List.set_append_right]
  have h2a : ∀ a b : AObj, (σ ++ [a] ++ [b])[σ.length]? = some a := fun a b => by rw [List.getElem?_append_left (by simp)]; simp
  have h2b : ∀ a b : AObj, (σ ++ [a] ++ [b])[σ.length + 1]? = some b := fun a b => by rw [List.getElem?_append_right (by simp)]; simp
  have h2s : ∀ a b b' : AObj, (σ ++ [a] ++ [b]).set (σ.length + 1) b' = σ ++ [a] ++ [b'] := fun a b b' => by rw [List.set_append_right _ _ (by simp)]; simp
  try simp only [List.length_map, take6, List.drop_zero, Int.cast_ofNat_Int, go_sem, ↓reduceIte, Nat.reduceEqDiff, Nat.reduceAdd, Nat.reduceMul, Nat.reduceLeDiff, Nat.reduceLT, Int.reduceLE, Int.reduceLT, reduceCtorEq]
  refine ⟨fun h1 => ?_, fun h1 => ?_⟩
  · have hxt : x < gs.length := by omega
    have hk := hg _ (List.getElem_mem hxt)
    have q6 := hk.mp_len
    have hmr : mpN ((n + m : Nat) : Int) (sB (n + m) n gs[x] 0) = mp (List.range (n + m)) := by rw [sB_zero _ (by omega), mp, List.length_range]
    try simp only [q6, map_getD hxt, List.length_map, hself, hset, take6, List.drop_zero, Int.cast_ofNat_Int, go_sem, ↓reduceIte, Nat.reduceEqDiff, Nat.reduceAdd, Nat.reduceMul, Nat.reduceLeDiff, Nat.reduceLT, Int.reduceLE, Int.reduceLT, reduceCtorEq]
    refine ⟨by omega, fun _ => ?_⟩
    refine hidn.go ?_
    try simp only [q6, hr6, hself, hset, h2a, h2b, h2s, hk.len, take6, List.drop_zero, Int.cast_ofNat_Int, go_sem, ↓reduceIte, Nat.reduceEqDiff, Nat.reduceAdd, Nat.reduceMul, Nat.reduceLeDiff, Nat.reduceLT, Int.reduceLE, Int.reduceLT, reduceCtorEq]
    refine KL_ind k40_b2.eq_1 (fun y : Nat => [(8, .int .i64 n), (9, .int .i64 ((n : Int) + m)), (10, v), (15, .ptr σ.length 0), (16, .ptr (σ.length + 1) 0), (79, .list (aggs (gs.map mp))), (80, .int .i64 gs.length), (81, .int .i64 x), (88, .int .i64 m), (89, .int .i64 y)]) (fun y => σ ++ [.box (ints (mp gs[x]))] ++ [.box (ints (mpN ((n + m : Nat) : Int) (sB (n + m) n gs[x] y)))]) (fun y => y ≤ m) (fun y => m - y) [8, 9, 10, 15, 16, 79, 80, 81, 88, 89] 0 (by simp [keep]) ?_ (Nat.zero_le _) fun y hy ihy => ?_
    · show _ = σ ++ [AObj.box (ints (mp gs[x]))] ++ [AObj.box (ints (mpN ((n + m : Nat) : Int) (sB (n + m) n gs[x] 0)))]
      rw [hmr]
    have hsl : (sB (n + m) n gs[x] y).length = n + m := sB_length (by rw [hk.len]; exact hy) (by omega)
    have hs6 : (mpN ((n + m : Nat) : Int) (sB (n + m) n gs[x] y)).length = 6 := mpN_length (by omega)
    have hgy := hk.get' y
    have hty : ((n : Int) + (y : Int)).toNat = n + y := by omega
    try simp only [h2a, h2b, h2s, hs6, q6, hty, take6, List.drop_zero, Int.cast_ofNat_Int, go_sem, ↓reduceIte, Nat.reduceEqDiff, Nat.reduceAdd, Nat.reduceMul, Nat.reduceLeDiff, Nat.reduceLT, Int.reduceLE, Int.reduceLT, reduceCtorEq]
    refine ⟨fun h2 => ?_, fun h2 => ?_⟩
    · have hst := sB_step (T := n + m) (n := n) (f := gs[x]) (i := y) (by rw [hk.len]; omega) (by omega)
      refine ⟨by omega, by omega, by omega, fun _ => ⟨by omega, ⟨by omega, by omega⟩, by omega, by omega, ?_⟩⟩
      refine ihy (y + 1) (by omega) (by omega) _ _ (by rfl) ?_
      rw [← Int.natCast_add, mpN_set (by omega), hst]
    · obtain rfl : y = m := by omega
      have e : mpN ((n + y : Nat) : Int) (sB (n + y) n gs[x] y) = mp (sB (n + y) n gs[x] gs[x].length) := by rw [mp, hk.len, hsl]
      have hs6' := hs6
      rw [e] at hs6'
      rw [e]
      try simp only [hs6', h2b, OpK_eq, take6, List.drop_zero, Int.cast_ofNat_Int, go_sem, ↓reduceIte, Nat.reduceEqDiff, Nat.reduceAdd, Nat.reduceMul, Nat.reduceLeDiff, Nat.reduceLT, Int.reduceLE, Int.reduceLT, reduceCtorEq]
      refine OwnA.push (OwnA.append (OwnA.append hT _) _) ((hfr.append (Free.boxI _)).append (Free.boxI _)) _ hs6' (by simp; omega) fun v' σ' hT' hf' => ?_
      try simp only [OpK_eq, take6, List.drop_zero, Int.cast_ofNat_Int, go_sem, ↓reduceIte, Nat.reduceEqDiff, Nat.reduceAdd, Nat.reduceMul, Nat.reduceLeDiff, Nat.reduceLT, Int.reduceLE, Int.reduceLT, reduceCtorEq]
      repeat' (first | refine And.intro ?_ ?_ | intro _)
      all_goals (try omega)
      refine ih (x + 1, v', σ') ⟨by show x + 1 ≤ gs.length; omega, ?_, hf'⟩ (by show gs.length - (x + 1) < gs.length - x; omega) _ _ (by rfl) rfl
      rw [← rsB_snoc _ _ hxt, ← List.append_assoc]; exact hT'
  · obtain rfl : x = gs.length := by omega
    rw [List.take_length] at hT
    try simp only [OpK_eq, take6, List.drop_zero, Int.cast_ofNat_Int, go_sem, ↓reduceIte, Nat.reduceEqDiff, Nat.reduceAdd, Nat.reduceMul, Nat.reduceLeDiff, Nat.reduceLT, Int.reduceLE, Int.reduceLT, reduceCtorEq]
    exact Kv.Fin.now ⟨v, rfl, hT, hfr⟩
end Go.Proofs.Ytkljidghocnllaa
