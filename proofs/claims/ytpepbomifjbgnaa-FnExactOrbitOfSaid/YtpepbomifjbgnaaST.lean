/- Sorting of at most twelve numbers; what is left when neighbours that are equal are one. -/
import Derived.Test.YtpepbomifjbgnaaCb
import Derived.Test.YtpepbomifjbgnaaW
namespace Go.Proofs.Ytpepbomifjbgnaa
open Go.Kv
set_option maxRecDepth 100000
/- cmp.isNaN[int64] -/
def k180 : KC := (.seq (.ops [⟨(some 2), none, .mv (.c (.bool false))⟩])
  (.seq (.ops [⟨(some 3), none, .mv (.t 0)⟩, ⟨(some 4), none, .mv (.t 0)⟩, ⟨(some 5), none, .bin .neq (.t 3) (.t 4)⟩, ⟨(some 2), none, .mv (.t 5)⟩])
  .ret))
theorem e180 {args : List PV} {σ : Heap} {K : PV → Heap → Prop} (hl : args.length ≤ 6) (h : Wf σ → (∀ a ∈ args, PV.upto σ.length a) → vc (mkCfg Try.prog mixed [] 6 σ.length) k180 (FinK σ.length [.t 2] K) (argEnv 0 args) σ) : ACall Try.prog 180 args σ K :=
  ACall_enter (C := mkCfg Try.prog mixed [] 6 σ.length) (c := Try.f180.body.getD .skip) Try.func180 (by kernel_rfl) (by kernel_rfl) (by kernel_rfl) rfl hl (by kernel_rfl) (by kernel_rfl) h
/- cmp.Less[int64] -/
def k169 : KC := (.seq (.ops [⟨(some 4), none, .mv (.c (.bool false))⟩])
  (.seq (.ops [⟨(some 5), none, .mv (.t 0)⟩, ⟨(some 6), none, .call (.c (.fn (.func 180) [] [])) [(.t 5)]⟩, ⟨(some 7), none, .mv (.t 6)⟩, ⟨(some 8), some (7, true), .mv (.t 1)⟩, ⟨(some 9), some (7, true), .call (.c (.fn (.func 180) [] [])) [(.t 8)]⟩, ⟨(some 10), some (7, true), .not (.t 9)⟩, ⟨(some 11), none, .pick (.t 7) (.t 10) (.c (.bool false))⟩, ⟨(some 12), none, .mv (.t 11)⟩, ⟨(some 13), some (12, false), .mv (.t 0)⟩, ⟨(some 14), some (12, false), .mv (.t 1)⟩, ⟨(some 15), some (12, false), .bin .lss (.t 13) (.t 14)⟩, ⟨(some 16), none, .pick (.t 12) (.c (.bool true)) (.t 15)⟩, ⟨(some 4), none, .mv (.t 16)⟩])
  .ret))
theorem e169 {args : List PV} {σ : Heap} {K : PV → Heap → Prop} (hl : args.length ≤ 17) (h : Wf σ → (∀ a ∈ args, PV.upto σ.length a) → vc (mkCfg Try.prog mixed [] 17 σ.length) k169 (FinK σ.length [.t 4] K) (argEnv 0 args) σ) : ACall Try.prog 169 args σ K :=
  ACall_enter (C := mkCfg Try.prog mixed [] 17 σ.length) (c := Try.f169.body.getD .skip) Try.func169 (by kernel_rfl) (by kernel_rfl) (by kernel_rfl) rfl hl (by kernel_rfl) (by kernel_rfl) h
/- slices.insertionSortOrdered[int64] -/
/- live [0, 1, 2, 6, 7, 20, 21, 22, 23, 24, 25, 26, 27, 28, 29] -/
def k163_b0 : KC := (.seq (.seq (.draw [⟨(some 16), none, .mv (.t 7)⟩, ⟨(some 17), none, .mv (.t 1)⟩, ⟨(some 18), none, .bin .gtr (.t 16) (.t 17)⟩, ⟨(some 19), none, .mv (.t 18)⟩, ⟨(some 20), some (19, true), .mv (.t 0)⟩, ⟨(some 21), some (19, true), .mv (.t 7)⟩, ⟨(some 22), some (19, true), .idxS 1 (.t 20) (.t 21)⟩, ⟨(some 23), some (19, true), .load false 1 (.t 22)⟩, ⟨(some 24), some (19, true), .mv (.t 0)⟩, ⟨(some 25), some (19, true), .mv (.t 7)⟩, ⟨(some 26), some (19, true), .bin .sub (.t 25) (.c (.int .i64 1))⟩, ⟨(some 27), some (19, true), .idxS 1 (.t 24) (.t 26)⟩, ⟨(some 28), some (19, true), .load false 1 (.t 27)⟩, ⟨(some 29), some (19, true), .pcall (.c (.fn (.func 169) [] [])) [(.t 23), (.t 28)]⟩, ⟨(some 30), none, .pick (.t 19) (.t 29) (.c (.bool false))⟩])
  (.cond (.t 30) .skip (.exit 2)))
  (.seq (.block 3 (.draw [⟨(some 33), none, .mv (.t 0)⟩, ⟨(some 34), none, .mv (.t 7)⟩, ⟨(some 35), none, .mv (.t 0)⟩, ⟨(some 36), none, .mv (.t 7)⟩, ⟨(some 37), none, .bin .sub (.t 36) (.c (.int .i64 1))⟩, ⟨(some 38), none, .mv (.t 0)⟩, ⟨(some 39), none, .mv (.t 7)⟩, ⟨(some 40), none, .bin .sub (.t 39) (.c (.int .i64 1))⟩, ⟨(some 41), none, .idxS 1 (.t 38) (.t 40)⟩, ⟨(some 42), none, .load false 1 (.t 41)⟩, ⟨(some 43), none, .mv (.t 0)⟩, ⟨(some 44), none, .mv (.t 7)⟩, ⟨(some 45), none, .idxS 1 (.t 43) (.t 44)⟩, ⟨(some 46), none, .load false 1 (.t 45)⟩, ⟨(some 47), none, .idxS 1 (.t 33) (.t 34)⟩, ⟨none, none, .store 1 (.t 47) (.t 42)⟩, ⟨(some 48), none, .idxS 1 (.t 35) (.t 37)⟩, ⟨none, none, .store 1 (.t 48) (.t 46)⟩]))
  (.ops [⟨(some 31), none, .mv (.t 7)⟩, ⟨(some 32), none, .bin .sub (.t 31) (.c (.int .i64 1))⟩, ⟨(some 7), none, .mv (.t 32)⟩])))
/- live [0, 1, 2, 6, 20, 21, 22, 23, 24, 25, 26, 27, 28, 29] -/
def k163_b1 : KC := (.seq (.seq (.ops [⟨(some 10), none, .mv (.t 6)⟩, ⟨(some 11), none, .mv (.t 2)⟩, ⟨(some 12), none, .bin .lss (.t 10) (.t 11)⟩])
  (.cond (.t 12) .skip (.exit 0)))
  (.seq (.block 1 (.seq (.ops [⟨(some 15), none, .mv (.t 6)⟩, ⟨(some 7), none, .mv (.t 15)⟩])
  (.block 2 (.loop k163_b0))))
  (.ops [⟨(some 13), none, .mv (.t 6)⟩, ⟨(some 14), none, .bin .add (.t 13) (.c (.int .i64 1))⟩, ⟨(some 6), none, .mv (.t 14)⟩])))
def k163 : KC := (.seq (.ops [⟨(some 8), none, .mv (.t 1)⟩, ⟨(some 9), none, .bin .add (.t 8) (.c (.int .i64 1))⟩, ⟨(some 6), none, .mv (.t 9)⟩])
  (.block 0 (.loop k163_b1)))
theorem e163 {args : List PV} {σ : Heap} {K : PV → Heap → Prop} (hl : args.length ≤ 49) (h : Wf σ → (∀ a ∈ args, PV.upto σ.length a) → vc (mkCfg Try.prog mixed [] 49 σ.length) k163 (FinK σ.length [] K) (argEnv 0 args) σ) : ACall Try.prog 163 args σ K :=
  ACall_enter (C := mkCfg Try.prog mixed [] 49 σ.length) (c := Try.f163.body.getD .skip) Try.func163 (by kernel_rfl) (by kernel_rfl) (by kernel_rfl) rfl hl (by kernel_rfl) (by kernel_rfl) h
/- slices.pdqsortOrdered[int64] -/
/- live [0, 1, 2, 3, 8, 9, 63, 66, 67, 76, 77, 78, 79, 80, 81, 82, 83, 84, 85, 86] -/
def k136_b0 : KC := (.block 1 (.seq (.ops [⟨(some 19), none, .mv (.t 2)⟩, ⟨(some 20), none, .mv (.t 1)⟩, ⟨(some 21), none, .bin .sub (.t 19) (.t 20)⟩, ⟨(some 10), none, .mv (.t 21)⟩])
  (.seq (.seq (.ops [⟨(some 22), none, .mv (.t 10)⟩, ⟨(some 23), none, .bin .leq (.t 22) (.c (.int .i64 12))⟩])
  (.cond (.t 23) (.seq (.ops [⟨(some 24), none, .mv (.t 0)⟩, ⟨(some 25), none, .mv (.t 1)⟩, ⟨(some 26), none, .mv (.t 2)⟩, ⟨(some 27), none, .call (.c (.fn (.func 163) [] [])) [(.t 24), (.t 25), (.t 26)]⟩])
  .ret) .skip))
  (.seq (.seq (.ops [⟨(some 28), none, .mv (.t 3)⟩, ⟨(some 29), none, .bin .eql (.t 28) (.c (.int .i64 0))⟩])
  (.cond (.t 29) (.seq (.ops [⟨(some 30), none, .mv (.t 0)⟩, ⟨(some 31), none, .mv (.t 1)⟩, ⟨(some 32), none, .mv (.t 2)⟩, ⟨(some 33), none, .call (.c (.fn (.func 164) [] [])) [(.t 30), (.t 31), (.t 32)]⟩])
  .ret) .skip))
  (.seq (.seq (.ops [⟨(some 34), none, .mv (.t 8)⟩, ⟨(some 35), none, .not (.t 34)⟩])
  (.cond (.t 35) (.seq (.ops [⟨(some 36), none, .mv (.t 0)⟩, ⟨(some 37), none, .mv (.t 1)⟩, ⟨(some 38), none, .mv (.t 2)⟩, ⟨(some 39), none, .call (.c (.fn (.func 165) [] [])) [(.t 36), (.t 37), (.t 38)]⟩])
  (.ops [⟨(some 40), none, .mv (.t 3)⟩, ⟨(some 41), none, .bin .sub (.t 40) (.c (.int .i64 1))⟩, ⟨(some 3), none, .mv (.t 41)⟩])) .skip))
  (.seq (.ops [⟨(some 43), none, .mv (.t 0)⟩, ⟨(some 44), none, .mv (.t 1)⟩, ⟨(some 45), none, .mv (.t 2)⟩, ⟨(some 46), none, .call (.c (.fn (.func 166) [] [])) [(.t 43), (.t 44), (.t 45)]⟩, ⟨(some 42), none, .mv (.t 46)⟩, ⟨(some 47), none, .extr 0 (.t 42)⟩, ⟨(some 48), none, .extr 1 (.t 42)⟩, ⟨(some 11), none, .mv (.t 47)⟩, ⟨(some 12), none, .mv (.t 48)⟩])
  (.seq (.seq (.ops [⟨(some 49), none, .mv (.t 12)⟩, ⟨(some 50), none, .bin .eql (.t 49) (.c (.int .i64 2))⟩])
  (.cond (.t 50) (.seq (.ops [⟨(some 51), none, .mv (.t 0)⟩, ⟨(some 52), none, .mv (.t 1)⟩, ⟨(some 53), none, .mv (.t 2)⟩, ⟨(some 54), none, .call (.c (.fn (.func 167) [] [])) [(.t 51), (.t 52), (.t 53)]⟩])
  (.seq (.ops [⟨(some 55), none, .mv (.t 2)⟩, ⟨(some 56), none, .bin .sub (.t 55) (.c (.int .i64 1))⟩, ⟨(some 57), none, .mv (.t 11)⟩, ⟨(some 58), none, .mv (.t 1)⟩, ⟨(some 59), none, .bin .sub (.t 57) (.t 58)⟩, ⟨(some 60), none, .bin .sub (.t 56) (.t 59)⟩, ⟨(some 11), none, .mv (.t 60)⟩])
  (.ops [⟨(some 12), none, .mv (.c (.int .i64 1))⟩]))) .skip))
  (.seq (.seq (.ops [⟨(some 61), none, .mv (.t 8)⟩, ⟨(some 62), none, .mv (.t 61)⟩, ⟨(some 63), some (62, true), .mv (.t 9)⟩, ⟨(some 64), none, .pick (.t 62) (.t 63) (.c (.bool false))⟩, ⟨(some 65), none, .mv (.t 64)⟩, ⟨(some 66), some (65, true), .mv (.t 12)⟩, ⟨(some 67), some (65, true), .bin .eql (.t 66) (.c (.int .i64 1))⟩, ⟨(some 68), none, .pick (.t 65) (.t 67) (.c (.bool false))⟩])
  (.cond (.t 68) (.seq (.ops [⟨(some 69), none, .mv (.t 0)⟩, ⟨(some 70), none, .mv (.t 1)⟩, ⟨(some 71), none, .mv (.t 2)⟩, ⟨(some 72), none, .call (.c (.fn (.func 168) [] [])) [(.t 69), (.t 70), (.t 71)]⟩])
  (.cond (.t 72) .ret .skip)) .skip))
  (.seq (.seq (.draw [⟨(some 73), none, .mv (.t 1)⟩, ⟨(some 74), none, .bin .gtr (.t 73) (.c (.int .i64 0))⟩, ⟨(some 75), none, .mv (.t 74)⟩, ⟨(some 76), some (75, true), .mv (.t 0)⟩, ⟨(some 77), some (75, true), .mv (.t 1)⟩, ⟨(some 78), some (75, true), .bin .sub (.t 77) (.c (.int .i64 1))⟩, ⟨(some 79), some (75, true), .idxS 1 (.t 76) (.t 78)⟩, ⟨(some 80), some (75, true), .load false 1 (.t 79)⟩, ⟨(some 81), some (75, true), .mv (.t 0)⟩, ⟨(some 82), some (75, true), .mv (.t 11)⟩, ⟨(some 83), some (75, true), .idxS 1 (.t 81) (.t 82)⟩, ⟨(some 84), some (75, true), .load false 1 (.t 83)⟩, ⟨(some 85), some (75, true), .pcall (.c (.fn (.func 169) [] [])) [(.t 80), (.t 84)]⟩, ⟨(some 86), some (75, true), .not (.t 85)⟩, ⟨(some 87), none, .pick (.t 75) (.t 86) (.c (.bool false))⟩])
  (.cond (.t 87) (.seq (.ops [⟨(some 88), none, .mv (.t 0)⟩, ⟨(some 89), none, .mv (.t 1)⟩, ⟨(some 90), none, .mv (.t 2)⟩, ⟨(some 91), none, .mv (.t 11)⟩, ⟨(some 92), none, .call (.c (.fn (.func 170) [] [])) [(.t 88), (.t 89), (.t 90), (.t 91)]⟩, ⟨(some 13), none, .mv (.t 92)⟩])
  (.seq (.ops [⟨(some 93), none, .mv (.t 13)⟩, ⟨(some 1), none, .mv (.t 93)⟩])
  (.exit 1))) .skip))
  (.seq (.ops [⟨(some 95), none, .mv (.t 0)⟩, ⟨(some 96), none, .mv (.t 1)⟩, ⟨(some 97), none, .mv (.t 2)⟩, ⟨(some 98), none, .mv (.t 11)⟩, ⟨(some 99), none, .call (.c (.fn (.func 171) [] [])) [(.t 95), (.t 96), (.t 97), (.t 98)]⟩, ⟨(some 94), none, .mv (.t 99)⟩, ⟨(some 100), none, .extr 0 (.t 94)⟩, ⟨(some 101), none, .extr 1 (.t 94)⟩, ⟨(some 14), none, .mv (.t 100)⟩, ⟨(some 15), none, .mv (.t 101)⟩])
  (.seq (.ops [⟨(some 102), none, .mv (.t 15)⟩, ⟨(some 9), none, .mv (.t 102)⟩])
  (.seq (.ops [⟨(some 103), none, .mv (.t 14)⟩, ⟨(some 104), none, .mv (.t 1)⟩, ⟨(some 105), none, .bin .sub (.t 103) (.t 104)⟩, ⟨(some 106), none, .mv (.t 2)⟩, ⟨(some 107), none, .mv (.t 14)⟩, ⟨(some 108), none, .bin .sub (.t 106) (.t 107)⟩, ⟨(some 16), none, .mv (.t 105)⟩, ⟨(some 17), none, .mv (.t 108)⟩])
  (.seq (.ops [⟨(some 109), none, .mv (.t 10)⟩, ⟨(some 110), none, .bin .quo (.t 109) (.c (.int .i64 8))⟩, ⟨(some 18), none, .mv (.t 110)⟩])
  (.seq (.ops [⟨(some 111), none, .mv (.t 16)⟩, ⟨(some 112), none, .mv (.t 17)⟩, ⟨(some 113), none, .bin .lss (.t 111) (.t 112)⟩])
  (.cond (.t 113) (.seq (.ops [⟨(some 114), none, .mv (.t 16)⟩, ⟨(some 115), none, .mv (.t 18)⟩, ⟨(some 116), none, .bin .geq (.t 114) (.t 115)⟩, ⟨(some 8), none, .mv (.t 116)⟩])
  (.seq (.ops [⟨(some 117), none, .mv (.t 0)⟩, ⟨(some 118), none, .mv (.t 1)⟩, ⟨(some 119), none, .mv (.t 14)⟩, ⟨(some 120), none, .mv (.t 3)⟩, ⟨(some 121), none, .call (.c (.fn (.func 136) [] [])) [(.t 117), (.t 118), (.t 119), (.t 120)]⟩])
  (.ops [⟨(some 122), none, .mv (.t 14)⟩, ⟨(some 123), none, .bin .add (.t 122) (.c (.int .i64 1))⟩, ⟨(some 1), none, .mv (.t 123)⟩]))) (.seq (.ops [⟨(some 124), none, .mv (.t 17)⟩, ⟨(some 125), none, .mv (.t 18)⟩, ⟨(some 126), none, .bin .geq (.t 124) (.t 125)⟩, ⟨(some 8), none, .mv (.t 126)⟩])
  (.seq (.ops [⟨(some 127), none, .mv (.t 0)⟩, ⟨(some 128), none, .mv (.t 14)⟩, ⟨(some 129), none, .bin .add (.t 128) (.c (.int .i64 1))⟩, ⟨(some 130), none, .mv (.t 2)⟩, ⟨(some 131), none, .mv (.t 3)⟩, ⟨(some 132), none, .call (.c (.fn (.func 136) [] [])) [(.t 127), (.t 129), (.t 130), (.t 131)]⟩])
  (.ops [⟨(some 133), none, .mv (.t 14)⟩, ⟨(some 2), none, .mv (.t 133)⟩]))))))))))))))))))
def k136 : KC := (.seq (.ops [⟨(some 8), none, .mv (.c (.bool true))⟩])
  (.seq (.ops [⟨(some 9), none, .mv (.c (.bool true))⟩])
  (.block 0 (.loop k136_b0))))
theorem e136 {args : List PV} {σ : Heap} {K : PV → Heap → Prop} (hl : args.length ≤ 134) (h : Wf σ → (∀ a ∈ args, PV.upto σ.length a) → vc (mkCfg Try.prog mixed [] 134 σ.length) k136 (FinK σ.length [] K) (argEnv 0 args) σ) : ACall Try.prog 136 args σ K :=
  ACall_enter (C := mkCfg Try.prog mixed [] 134 σ.length) (c := Try.f136.body.getD .skip) Try.func136 (by kernel_rfl) (by kernel_rfl) (by kernel_rfl) rfl hl (by kernel_rfl) (by kernel_rfl) h
/- slices.Sort[[]int64,int64] -/
def k96 : KC := (.seq (.ops [⟨(some 3), none, .mv (.t 0)⟩, ⟨(some 4), none, .len false (.t 3)⟩, ⟨(some 2), none, .mv (.t 4)⟩])
  (.ops [⟨(some 5), none, .mv (.t 0)⟩, ⟨(some 6), none, .mv (.t 2)⟩, ⟨(some 7), none, .mv (.t 2)⟩, ⟨(some 8), none, .conv .u64 (.t 7)⟩, ⟨(some 9), none, .call (.c (.fn (.func 127) [] [])) [(.t 8)]⟩, ⟨(some 10), none, .call (.c (.fn (.func 136) [] [])) [(.t 5), (.c (.int .i64 0)), (.t 6), (.t 9)]⟩]))
theorem e96 {args : List PV} {σ : Heap} {K : PV → Heap → Prop} (hl : args.length ≤ 11) (h : Wf σ → (∀ a ∈ args, PV.upto σ.length a) → vc (mkCfg Try.prog mixed [] 11 σ.length) k96 (FinK σ.length [] K) (argEnv 0 args) σ) : ACall Try.prog 96 args σ K :=
  ACall_enter (C := mkCfg Try.prog mixed [] 11 σ.length) (c := Try.f96.body.getD .skip) Try.func96 (by kernel_rfl) (by kernel_rfl) (by kernel_rfl) rfl hl (by kernel_rfl) (by kernel_rfl) h
/- math/bits.Len -/
def k127 : KC := (.seq (.ops [⟨(some 2), none, .mv (.c (.int .i64 0))⟩])
  (.seq (.cond (.c (.bool false)) (.seq (.ops [⟨(some 3), none, .mv (.t 0)⟩, ⟨(some 4), none, .conv .u32 (.t 3)⟩, ⟨(some 5), none, .call (.c (.fn (.func 158) [] [])) [(.t 4)]⟩, ⟨(some 2), none, .mv (.t 5)⟩])
  .ret) .skip)
  (.seq (.ops [⟨(some 6), none, .mv (.t 0)⟩, ⟨(some 7), none, .call (.c (.fn (.func 159) [] [])) [(.t 6)]⟩, ⟨(some 2), none, .mv (.t 7)⟩])
  .ret)))
theorem e127 {args : List PV} {σ : Heap} {K : PV → Heap → Prop} (hl : args.length ≤ 8) (h : Wf σ → (∀ a ∈ args, PV.upto σ.length a) → vc (mkCfg Try.prog mixed [] 8 σ.length) k127 (FinK σ.length [.t 2] K) (argEnv 0 args) σ) : ACall Try.prog 127 args σ K :=
  ACall_enter (C := mkCfg Try.prog mixed [] 8 σ.length) (c := Try.f127.body.getD .skip) Try.func127 (by kernel_rfl) (by kernel_rfl) (by kernel_rfl) rfl hl (by kernel_rfl) (by kernel_rfl) h
/- math/bits.Len64 -/
def k159 : KC := (.seq (.ops [⟨(some 2), none, .mv (.c (.int .i64 0))⟩])
  (.seq (.seq (.ops [⟨(some 3), none, .mv (.t 0)⟩, ⟨(some 4), none, .bin .geq (.t 3) (.c (.int .u64 4294967296))⟩])
  (.cond (.t 4) (.seq (.ops [⟨(some 5), none, .mv (.t 0)⟩, ⟨(some 6), none, .bin .shr (.t 5) (.c (.int .u64 32))⟩, ⟨(some 0), none, .mv (.t 6)⟩])
  (.ops [⟨(some 2), none, .mv (.c (.int .i64 32))⟩])) .skip))
  (.seq (.seq (.ops [⟨(some 7), none, .mv (.t 0)⟩, ⟨(some 8), none, .bin .geq (.t 7) (.c (.int .u64 65536))⟩])
  (.cond (.t 8) (.seq (.ops [⟨(some 9), none, .mv (.t 0)⟩, ⟨(some 10), none, .bin .shr (.t 9) (.c (.int .u64 16))⟩, ⟨(some 0), none, .mv (.t 10)⟩])
  (.ops [⟨(some 11), none, .mv (.t 2)⟩, ⟨(some 12), none, .bin .add (.t 11) (.c (.int .i64 16))⟩, ⟨(some 2), none, .mv (.t 12)⟩])) .skip))
  (.seq (.seq (.ops [⟨(some 13), none, .mv (.t 0)⟩, ⟨(some 14), none, .bin .geq (.t 13) (.c (.int .u64 256))⟩])
  (.cond (.t 14) (.seq (.ops [⟨(some 15), none, .mv (.t 0)⟩, ⟨(some 16), none, .bin .shr (.t 15) (.c (.int .u64 8))⟩, ⟨(some 0), none, .mv (.t 16)⟩])
  (.ops [⟨(some 17), none, .mv (.t 2)⟩, ⟨(some 18), none, .bin .add (.t 17) (.c (.int .i64 8))⟩, ⟨(some 2), none, .mv (.t 18)⟩])) .skip))
  (.seq (.ops [⟨(some 19), none, .mv (.t 2)⟩, ⟨(some 20), none, .mv (.t 0)⟩, ⟨(some 21), none, .conv .u8 (.t 20)⟩, ⟨(some 22), none, .idxStr (.c (.str ([0, 1, 2, 2, 3, 3, 3, 3, 4, 4, 4, 4, 4, 4, 4, 4, 5, 5, 5, 5, 5, 5, 5, 5, 5, 5, 5, 5, 5, 5, 5, 5] ++ List.replicate 32 (6) ++ List.replicate 64 (7) ++ List.replicate 128 (8)))) (.t 21)⟩, ⟨(some 23), none, .conv .i64 (.t 22)⟩, ⟨(some 24), none, .bin .add (.t 19) (.t 23)⟩, ⟨(some 2), none, .mv (.t 24)⟩])
  .ret)))))
theorem e159 {args : List PV} {σ : Heap} {K : PV → Heap → Prop} (hl : args.length ≤ 25) (h : Wf σ → (∀ a ∈ args, PV.upto σ.length a) → vc (mkCfg Try.prog mixed [] 25 σ.length) k159 (FinK σ.length [.t 2] K) (argEnv 0 args) σ) : ACall Try.prog 159 args σ K :=
  ACall_enter (C := mkCfg Try.prog mixed [] 25 σ.length) (c := Try.f159.body.getD .skip) Try.func159 (by kernel_rfl) (by kernel_rfl) (by kernel_rfl) rfl hl (by kernel_rfl) (by kernel_rfl) h
end Go.Proofs.Ytpepbomifjbgnaa
namespace Go.Proofs.Ytpepbomifjbgnaa
open Go.Kv
set_option linter.unusedVariables false
set_option linter.unusedSimpArgs false
attribute [local irreducible] ACall PCall KL
theorem p180 (a : Int) : Pure Try.prog 180 [.int .i64 a] (.bool false) := by
  refine e180 (by simp) fun _ _ => ?_
  simp only [k180, argEnv, take6, List.drop_zero, Int.cast_ofNat_Int, go_sem, ↓reduceIte, Nat.reduceEqDiff, Nat.reduceAdd, Nat.reduceMul, Nat.reduceLeDiff, Nat.reduceLT, Int.reduceLE, Int.reduceLT, reduceCtorEq]
  exact Kv.Fin.still ⟨by simp, rfl⟩
theorem p169 (a b : Int) : Pure Try.prog 169 [.int .i64 a, .int .i64 b] (.bool (decide (a < b))) := by
  refine e169 (by simp) fun _ _ => ?_
  simp only [k169, argEnv, take6, List.drop_zero, Int.cast_ofNat_Int, go_sem, ↓reduceIte, Nat.reduceEqDiff, Nat.reduceAdd, Nat.reduceMul, Nat.reduceLeDiff, Nat.reduceLT, Int.reduceLE, Int.reduceLT, reduceCtorEq]
  refine (p180 a).go ?_
  try simp only [take6, List.drop_zero, Int.cast_ofNat_Int, go_sem, ↓reduceIte, Nat.reduceEqDiff, Nat.reduceAdd, Nat.reduceMul, Nat.reduceLeDiff, Nat.reduceLT, Int.reduceLE, Int.reduceLT, reduceCtorEq]
  exact Kv.Fin.still ⟨rfl, rfl⟩
/-- The numbers up to place i are in order, but for the one at place j, which is ahead of all behind it. -/
def Jn (m : List Int) (i j : Nat) : Prop := (∀ x y, x < y → y ≤ i → x ≠ j → y ≠ j → m.getD x 0 ≤ m.getD y 0) ∧ ∀ y, j < y → y ≤ i → m.getD j 0 ≤ m.getD y 0
def Sn (m : List Int) (i : Nat) : Prop := ∀ x y, x < y → y < i → m.getD x 0 ≤ m.getD y 0
theorem getD_setI (m : List Int) (i : Nat) (v : Int) (k : Nat) (h : i < m.length) : (m.set i v).getD k 0 = if k = i then v else m.getD k 0 := by
  rw [List.getD_eq_getElem?_getD]
  by_cases e : k = i
  · subst e; rw [List.getElem?_set_self h]; simp
  · rw [List.getElem?_set_ne (Ne.symm e), if_neg e, List.getD_eq_getElem?_getD]
theorem Jn.zero {m : List Int} {i : Nat} (h : Sn m i) : Jn m i i := ⟨fun x y h1 h2 h3 h4 => h x y h1 (by omega), fun y h1 h2 => by omega⟩
theorem Jn.done {m : List Int} {i j : Nat} (h : Jn m i j) (hj : j ≤ i) (hs : j = 0 ∨ m.getD (j - 1) 0 ≤ m.getD j 0) : Sn m (i + 1) := fun x y h1 h2 => by
  by_cases ex : x = j
  · subst ex; exact h.2 y h1 (by omega)
  · by_cases ey : y = j
    · subst ey
      rcases hs with hs | hs
      · omega
      · by_cases e : x = y - 1
        · rw [e]; exact hs
        · exact Int.le_trans (h.1 x (y - 1) (by omega) (by omega) ex (by omega)) hs
    · exact h.1 x y h1 (by omega) ex ey
def swap1 (m : List Int) (j : Nat) : List Int := (m.set j (m.getD (j - 1) 0)).set (j - 1) (m.getD j 0)
@[simp] theorem swap1_length (m : List Int) (j : Nat) : (swap1 m j).length = m.length := by simp [swap1]
theorem swap1_getD {m : List Int} {j : Nat} (h : j < m.length) (k : Nat) : (swap1 m j).getD k 0 = if k = j - 1 then m.getD j 0 else if k = j then m.getD (j - 1) 0 else m.getD k 0 := by
  rw [swap1, getD_setI _ _ _ _ (by simp; omega), getD_setI _ _ _ _ h]
theorem swap1_perm {m : List Int} {j : Nat} (h : j < m.length) : (swap1 m j).Perm m := by
  have h1 : j - 1 < m.length := by omega
  have := @List.set_set_perm Int m j (j - 1) h h1
  have e1 : m.getD (j - 1) 0 = m[j - 1] := by simp [List.getD_eq_getElem?_getD, h1]
  have e2 : m.getD j 0 = m[j] := by simp [List.getD_eq_getElem?_getD, h]
  rw [swap1, e1, e2]; exact this
theorem Jn.step {m : List Int} {i j : Nat} (h : Jn m i j) (hi : i < m.length) (hj : j ≤ i) (h0 : 0 < j) (hl : m.getD j 0 < m.getD (j - 1) 0) : Jn (swap1 m j) i (j - 1) := by
  have hg := swap1_getD (m := m) (j := j) (by omega)
  refine ⟨fun x y h1 h2 h3 h4 => ?_, fun y h1 h2 => ?_⟩
  · rw [hg, hg, if_neg h3, if_neg h4]
    by_cases ex : x = j
    · rw [if_pos ex, if_neg (by omega)]
      exact h.1 (j - 1) y (by omega) h2 (by omega) (by omega)
    · rw [if_neg ex]
      by_cases ey : y = j
      · rw [if_pos ey]
        exact h.1 x (j - 1) (by omega) (by omega) ex (by omega)
      · rw [if_neg ey]; exact h.1 x y h1 h2 ex ey
  · rw [hg, hg, if_pos rfl, if_neg (by omega)]
    by_cases ey : y = j
    · rw [if_pos ey]; omega
    · rw [if_neg ey]; exact h.2 y (by omega) h2
theorem Sn.pairwise {m : List Int} (h : Sn m m.length) : m.Pairwise (· ≤ ·) := by
  rw [List.pairwise_iff_getElem]
  intro i j hi hj hij
  have := h i j hij hj
  simpa [List.getD_eq_getElem?_getD, hi, hj] using this
theorem p163 (σ : Heap) (id ver : Nat) (e : TypeId) (l : List Int) (hid : σ[id]? = some (.arr ver e 1 (ints l))) (hn : l.length ≤ 4294967296) {K : PV → Heap → Prop} (hK : ∀ r : List Int, r.Perm l → r.Pairwise (· ≤ ·) → K (.tup []) (σ.set id (.arr ver e 1 (ints r)))) :
    ACall Try.prog 163 [.ref id ver 0 l.length, .int .i64 0, .int .i64 l.length] σ K := by
  have hlt := (List.getElem?_eq_some_iff.1 hid).1
  have hself : ∀ o, (σ.set id o)[id]? = some o := fun o => List.getElem?_set_self hlt
  have hset : ∀ o o', (σ.set id o).set id o' = σ.set id o' := fun o o' => List.set_set ..
  have h00 : σ.set id (.arr ver e 1 (ints l)) = σ := List.ext_getElem? fun i => by
    by_cases h : id = i
    · subst h; rw [hself, hid]
    · rw [List.getElem?_set_ne h]
  refine e163 (by simp) fun _ _ => ?_
  simp only [k163, argEnv, take6, List.drop_zero, Int.cast_ofNat_Int, go_sem, ↓reduceIte, Nat.reduceEqDiff, Nat.reduceAdd, Nat.reduceMul, Nat.reduceLeDiff, Nat.reduceLT, Int.reduceLE, Int.reduceLT, reduceCtorEq]
  refine ⟨by omega, ?_⟩
  refine KL_ind k163_b1.eq_1 (fun x : Nat × List Int => [(0, .ref id ver 0 l.length), (1, .int .i64 0), (2, .int .i64 l.length), (6, .int .i64 x.1)]) (fun x => σ.set id (.arr ver e 1 (ints x.2))) (fun x => 1 ≤ x.1 ∧ x.1 ≤ l.length + 1 ∧ x.2.Perm l ∧ Sn x.2 x.1) (fun x => l.length + 1 - x.1) [0, 1, 2, 6] (1, l) (by simp [keep]) h00.symm ⟨Nat.le_refl _, by omega, .refl _, fun x y h1 h2 => by omega⟩ fun ⟨i, m⟩ ⟨hi1, hi2, hp, hS⟩ ih => ?_
  simp only at hi1 hi2 hp hS
  have hml := hp.length_eq
  try simp only [take6, List.drop_zero, Int.cast_ofNat_Int, go_sem, ↓reduceIte, Nat.reduceEqDiff, Nat.reduceAdd, Nat.reduceMul, Nat.reduceLeDiff, Nat.reduceLT, Int.reduceLE, Int.reduceLT, reduceCtorEq]
  refine ⟨fun h1 => ?_, fun h1 => ?_⟩
  · have hil : i < l.length := by omega
    refine KL_ind k163_b0.eq_1 (fun x : Nat × List Int => [(0, .ref id ver 0 l.length), (1, .int .i64 0), (2, .int .i64 l.length), (6, .int .i64 i), (7, .int .i64 x.1)]) (fun x => σ.set id (.arr ver e 1 (ints x.2))) (fun x => x.1 ≤ i ∧ x.2.Perm l ∧ Jn x.2 i x.1) (fun x => x.1) [0, 1, 2, 6, 7] (i, m) (by simp [keep]) rfl ⟨Nat.le_refl _, hp, .zero hS⟩ fun ⟨j, m⟩ ⟨hj, hp, hJ⟩ ihj => ?_
    simp only at hj hp hJ
    clear hml hS
    have hml := hp.length_eq
    have hj1 : ((j : Int) - 1).toNat = j - 1 := by omega
    try simp only [hself, hset, hml, hj1, take6, List.drop_zero, Int.cast_ofNat_Int, go_sem, ↓reduceIte, Nat.reduceEqDiff, Nat.reduceAdd, Nat.reduceMul, Nat.reduceLeDiff, Nat.reduceLT, Int.reduceLE, Int.reduceLT, reduceCtorEq]
    refine ⟨fun h2 => ⟨by omega, by omega, fun _ => ⟨by omega, by omega, by omega, fun _ => ?_⟩⟩, fun h2 => ⟨by omega, ?_⟩⟩
    · refine (p169 _ _).pgo ?_
      try simp only [hself, hset, hml, hj1, take6, List.drop_zero, Int.cast_ofNat_Int, go_sem, ↓reduceIte, Nat.reduceEqDiff, Nat.reduceAdd, Nat.reduceMul, Nat.reduceLeDiff, Nat.reduceLT, Int.reduceLE, Int.reduceLT, reduceCtorEq]
      refine ⟨fun h3 => ⟨by omega, by omega, by omega, by omega, fun _ => ⟨by omega, by omega, fun _ => ⟨by omega, by omega, fun _ => ⟨by omega, by omega, fun _ => ⟨by omega, ?_⟩⟩⟩⟩⟩, fun h3 => ⟨by omega, ?_⟩⟩
      · refine ihj (j - 1, swap1 m j) ⟨by show j - 1 ≤ i; omega, (swap1_perm (by omega)).trans hp, hJ.step (by omega) hj (by omega) h3⟩ (by show j - 1 < j; omega) _ _ (by simp [keep]; omega) rfl
      · refine ih (i + 1, m) ⟨by show 1 ≤ i + 1; omega, by show i + 1 ≤ l.length + 1; omega, hp, hJ.done hj (.inr (by omega))⟩ (by show l.length + 1 - (i + 1) < l.length + 1 - i; omega) _ _ (by simp [keep]) rfl
    · refine ih (i + 1, m) ⟨by show 1 ≤ i + 1; omega, by show i + 1 ≤ l.length + 1; omega, hp, hJ.done hj (.inl (by omega))⟩ (by show l.length + 1 - (i + 1) < l.length + 1 - i; omega) _ _ (by simp [keep]) rfl
  · have hS' : Sn m m.length := fun x y h3 h4 => hS x y h3 (by omega)
    exact Kv.Fin.now (hK m hp hS'.pairwise)
theorem p136 (σ : Heap) (id ver : Nat) (e : TypeId) (l : List Int) (hid : σ[id]? = some (.arr ver e 1 (ints l))) (hn : l.length ≤ 12) (lim : Int) {K : PV → Heap → Prop} (hK : ∀ r : List Int, r.Perm l → r.Pairwise (· ≤ ·) → K (.tup []) (σ.set id (.arr ver e 1 (ints r)))) :
    ACall Try.prog 136 [.ref id ver 0 l.length, .int .i64 0, .int .i64 l.length, .int .i64 lim] σ K := by
  refine e136 (by simp) fun _ _ => ?_
  simp only [k136, argEnv, take6, List.drop_zero, Int.cast_ofNat_Int, go_sem, ↓reduceIte, Nat.reduceEqDiff, Nat.reduceAdd, Nat.reduceMul, Nat.reduceLeDiff, Nat.reduceLT, Int.reduceLE, Int.reduceLT, reduceCtorEq]
  refine KL_round ?_
  rw [k136_b0]
  try simp only [take6, List.drop_zero, Int.cast_ofNat_Int, go_sem, ↓reduceIte, Nat.reduceEqDiff, Nat.reduceAdd, Nat.reduceMul, Nat.reduceLeDiff, Nat.reduceLT, Int.reduceLE, Int.reduceLT, reduceCtorEq]
  refine ⟨by omega, fun _ => ?_, fun h => absurd h (by omega)⟩
  refine p163 σ id ver e l hid (by omega) fun r hp hS => ?_
  try simp only [take6, List.drop_zero, Int.cast_ofNat_Int, go_sem, ↓reduceIte, Nat.reduceEqDiff, Nat.reduceAdd, Nat.reduceMul, Nat.reduceLeDiff, Nat.reduceLT, Int.reduceLE, Int.reduceLT, reduceCtorEq]
  exact Kv.Fin.now (hK r hp hS)
theorem aWrap_u8 {n : Nat} (h : n < 256) {K : PV → Prop} : aWrap .u8 (n : Int) K = K (.int .u8 n) := by
  have e : IntKind.u8.wrap (n : Int) = n := by
    simp only [IntKind.wrap, IntKind.signed, IntKind.bits, Bool.false_and, Bool.false_eq_true, if_false]
    omega
  show K _ = _
  rw [e]
theorem aWrap_u64 {n : Nat} (h : n < 9223372036854775808) {K : PV → Prop} : aWrap .u64 (n : Int) K = K (.int .u64 n) := by
  have e : IntKind.u64.wrap (n : Int) = n := by
    simp only [IntKind.wrap, IntKind.signed, IntKind.bits, Bool.false_and, Bool.false_eq_true, if_false]
    omega
  show K _ = _
  rw [e]
theorem aOp_idxStr {P : Program} {env : Env} {σ : Heap} {K : PV → Heap → Prop} (s : List UInt8) (t : Nat) {k : IntKind} {n : Int} (h : Kv.look env t = .int k n) : aOp P (.idxStr (.c (.str s)) (.t t)) env σ K = ((0 ≤ n ∧ n < s.length) ∧ K (.int .u8 (s.getD n.toNat 0).toNat) σ) := by
  simp only [aOp, kx, h, intOf?]
set_option maxRecDepth 100000 in
theorem p159 (n : Nat) (hn : n ≤ 12) : ACall Try.prog 159 [.int .u64 n] [] (fun v s => (∃ k : Int, v = .int .i64 k) ∧ s = []) := by
  refine e159 (by simp) fun _ _ => ?_
  simp only [k159, argEnv, take6, List.drop_zero, Int.cast_ofNat_Int, go_sem, ↓reduceIte, Nat.reduceEqDiff, Nat.reduceAdd, Nat.reduceMul, Nat.reduceLeDiff, Nat.reduceLT, Int.reduceLE, Int.reduceLT, reduceCtorEq]
  refine ⟨fun h => absurd h (by omega), fun _ => ⟨fun h => absurd h (by omega), fun _ => ⟨fun h => absurd h (by omega), fun _ => ?_⟩⟩⟩
  rw [aWrap_u8 (by omega)]
  try simp only [take6, List.drop_zero, Int.cast_ofNat_Int, go_sem, ↓reduceIte, Nat.reduceEqDiff, Nat.reduceAdd, Nat.reduceMul, Nat.reduceLeDiff, Nat.reduceLT, Int.reduceLE, Int.reduceLT, reduceCtorEq]
  rw [aOp_idxStr _ 21 (k := .u8) (n := n) rfl]
  generalize hg : (List.getD _ (Int.toNat (n : Int)) (0 : UInt8)) = g
  have hlt := g.toNat_lt
  try simp only [take6, List.drop_zero, Int.cast_ofNat_Int, go_sem, ↓reduceIte, Nat.reduceEqDiff, Nat.reduceAdd, Nat.reduceMul, Nat.reduceLeDiff, Nat.reduceLT, Int.reduceLE, Int.reduceLT, reduceCtorEq]
  exact ⟨by omega, by omega, by omega, Kv.Fin.still ⟨⟨_, rfl⟩, rfl⟩⟩
theorem p127 (n : Nat) (hn : n ≤ 12) : ACall Try.prog 127 [.int .u64 n] [] (fun v s => (∃ k : Int, v = .int .i64 k) ∧ s = []) := by
  refine e127 (by simp) fun _ _ => ?_
  simp only [k127, argEnv, take6, List.drop_zero, Int.cast_ofNat_Int, go_sem, ↓reduceIte, Nat.reduceEqDiff, Nat.reduceAdd, Nat.reduceMul, Nat.reduceLeDiff, Nat.reduceLT, Int.reduceLE, Int.reduceLT, reduceCtorEq]
  refine (p159 n hn).go fun v s ⟨⟨k, hv⟩, hs⟩ => ?_
  subst hv; subst hs
  try simp only [take6, List.drop_zero, Int.cast_ofNat_Int, go_sem, ↓reduceIte, Nat.reduceEqDiff, Nat.reduceAdd, Nat.reduceMul, Nat.reduceLeDiff, Nat.reduceLT, Int.reduceLE, Int.reduceLT, reduceCtorEq]
  exact Kv.Fin.still ⟨⟨_, rfl⟩, rfl⟩
/-- At most twelve numbers are sorted. -/
theorem p96 (σ : Heap) (id ver : Nat) (e : TypeId) (l : List Int) (hid : σ[id]? = some (.arr ver e 1 (ints l))) (hn : l.length ≤ 12) {K : PV → Heap → Prop} (hK : ∀ r : List Int, r.Perm l → r.Pairwise (· ≤ ·) → K (.tup []) (σ.set id (.arr ver e 1 (ints r)))) :
    ACall Try.prog 96 [.ref id ver 0 l.length] σ K := by
  refine e96 (by simp) fun _ _ => ?_
  simp only [k96, argEnv, hid, take6, List.drop_zero, Int.cast_ofNat_Int, go_sem, ↓reduceIte, Nat.reduceEqDiff, Nat.reduceAdd, Nat.reduceMul, Nat.reduceLeDiff, Nat.reduceLT, Int.reduceLE, Int.reduceLT, reduceCtorEq]
  rw [aWrap_u64 (by omega)]
  try simp only [take6, List.drop_zero, Int.cast_ofNat_Int, go_sem, ↓reduceIte, Nat.reduceEqDiff, Nat.reduceAdd, Nat.reduceMul, Nat.reduceLeDiff, Nat.reduceLT, Int.reduceLE, Int.reduceLT, reduceCtorEq]
  refine (p127 l.length hn).go fun v s ⟨⟨k, hv⟩, hs⟩ => ?_
  subst hv; subst hs
  try simp only [take6, List.drop_zero, Int.cast_ofNat_Int, go_sem, ↓reduceIte, Nat.reduceEqDiff, Nat.reduceAdd, Nat.reduceMul, Nat.reduceLeDiff, Nat.reduceLT, Int.reduceLE, Int.reduceLT, reduceCtorEq]
  refine p136 σ id ver e l hid hn k fun r hp hS => ?_
  try simp only [take6, List.drop_zero, Int.cast_ofNat_Int, go_sem, ↓reduceIte, Nat.reduceEqDiff, Nat.reduceAdd, Nat.reduceMul, Nat.reduceLeDiff, Nat.reduceLT, Int.reduceLE, Int.reduceLT, reduceCtorEq]
  exact Kv.Fin.now (hK r hp hS)
end Go.Proofs.Ytpepbomifjbgnaa
