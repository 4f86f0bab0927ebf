/- The law of partitions, walked. -/
import Derived.Test.YtodmbkceindakaaGreatCb
import Derived.Test.YtodmbkceindakaaGreatDM
namespace Go.Proofs.YtodmbkceindakaaGreat
open Go.Kv
set_option maxRecDepth 100000
/- laws.FnPartitions -/
/- live [3, 4, 5, 6, 9, 10, 13, 14, 24, 166, 167, 183, 184, 189, 190, 191, 192] -/
def k3_b0 : KC := (.seq (.seq (.ops [⟨(some 161), none, .mv (.t 24)⟩, ⟨(some 162), none, .mv (.t 14)⟩, ⟨(some 163), none, .len false (.t 162)⟩, ⟨(some 164), none, .bin .lss (.t 161) (.t 163)⟩, ⟨(some 165), none, .mv (.t 164)⟩, ⟨(some 166), some (165, true), .mv (.t 24)⟩, ⟨(some 167), some (165, true), .bin .lss (.t 166) (.c (.int .i64 6))⟩, ⟨(some 168), none, .pick (.t 165) (.t 167) (.c (.bool false))⟩])
  (.cond (.t 168) .skip (.exit 0)))
  (.seq (.block 1 (.seq (.ops [⟨(some 172), none, .mv (.t 13)⟩, ⟨(some 173), none, .mv (.t 14)⟩, ⟨(some 174), none, .mv (.t 24)⟩, ⟨(some 175), none, .idxS 1 (.t 173) (.t 174)⟩, ⟨(some 176), none, .load false 1 (.t 175)⟩, ⟨(some 177), none, .call (.c (.fn (.func 9) [] [])) [(.t 172), (.t 176)]⟩, ⟨(some 171), none, .mv (.t 177)⟩, ⟨(some 178), none, .extr 0 (.t 171)⟩, ⟨(some 179), none, .extr 1 (.t 171)⟩, ⟨(some 25), none, .mv (.t 178)⟩, ⟨(some 26), none, .mv (.t 179)⟩])
  (.seq (.ops [⟨(some 180), none, .mv (.t 26)⟩, ⟨(some 181), none, .bin .neq (.t 180) (.c (.int .i64 0))⟩, ⟨(some 182), none, .mv (.t 181)⟩, ⟨(some 183), some (182, false), .mv (.t 25)⟩, ⟨(some 184), some (182, false), .not (.t 183)⟩, ⟨(some 185), none, .pick (.t 182) (.c (.bool true)) (.t 184)⟩])
  (.cond (.t 185) (.seq (.ops [⟨(some 2), none, .mv (.c (.bool false))⟩])
  .ret) .skip))))
  (.ops [⟨(some 169), none, .mv (.t 24)⟩, ⟨(some 170), none, .bin .add (.t 169) (.c (.int .i64 1))⟩, ⟨(some 24), none, .mv (.t 170)⟩])))
/- live [3, 4, 5, 27, 28] -/
def k3_b1 : KC := (.seq (.seq (.ops [⟨(some 205), none, .mv (.t 28)⟩, ⟨(some 206), none, .mv (.t 3)⟩, ⟨(some 207), none, .idxS 6 (.t 206) (.c (.int .i64 0))⟩, ⟨(some 208), none, .fieldA 0 (.t 207)⟩, ⟨(some 209), none, .load false 1 (.t 208)⟩, ⟨(some 210), none, .bin .lss (.t 205) (.t 209)⟩])
  (.cond (.t 210) .skip (.exit 4)))
  (.seq (.block 5 (.seq (.draw [⟨(some 213), none, .mv (.t 5)⟩, ⟨(some 214), none, .mv (.t 27)⟩, ⟨(some 215), none, .mv (.t 4)⟩, ⟨(some 216), none, .mv (.t 28)⟩, ⟨(some 217), none, .idxS 1 (.t 215) (.t 216)⟩, ⟨(some 218), none, .load false 1 (.t 217)⟩, ⟨(some 219), none, .idxS 6 (.t 213) (.t 214)⟩, ⟨(some 220), none, .fieldA 1 (.t 219)⟩, ⟨(some 221), none, .idxA 5 1 (.t 220) (.t 218)⟩, ⟨(some 222), none, .load false 1 (.t 221)⟩, ⟨(some 223), none, .mv (.t 4)⟩, ⟨(some 224), none, .mv (.t 3)⟩, ⟨(some 225), none, .mv (.t 27)⟩, ⟨(some 226), none, .mv (.t 28)⟩, ⟨(some 227), none, .idxS 6 (.t 224) (.t 225)⟩, ⟨(some 228), none, .fieldA 1 (.t 227)⟩, ⟨(some 229), none, .idxA 5 1 (.t 228) (.t 226)⟩, ⟨(some 230), none, .load false 1 (.t 229)⟩, ⟨(some 231), none, .idxS 1 (.t 223) (.t 230)⟩, ⟨(some 232), none, .load false 1 (.t 231)⟩, ⟨(some 233), none, .bin .neq (.t 222) (.t 232)⟩])
  (.cond (.t 233) (.seq (.ops [⟨(some 2), none, .mv (.c (.bool false))⟩])
  .ret) .skip)))
  (.ops [⟨(some 211), none, .mv (.t 28)⟩, ⟨(some 212), none, .bin .add (.t 211) (.c (.int .i64 1))⟩, ⟨(some 28), none, .mv (.t 212)⟩])))
/- live [3, 4, 5, 27] -/
def k3_b2 : KC := (.seq (.seq (.ops [⟨(some 199), none, .mv (.t 27)⟩, ⟨(some 200), none, .mv (.t 3)⟩, ⟨(some 201), none, .len false (.t 200)⟩, ⟨(some 202), none, .bin .lss (.t 199) (.t 201)⟩])
  (.cond (.t 202) .skip (.exit 2)))
  (.seq (.block 3 (.seq (.ops [⟨(some 28), none, .mv (.c (.int .i64 0))⟩])
  (.block 4 (.loop k3_b1))))
  (.ops [⟨(some 203), none, .mv (.t 27)⟩, ⟨(some 204), none, .bin .add (.t 203) (.c (.int .i64 1))⟩, ⟨(some 27), none, .mv (.t 204)⟩])))
def k3 : KC := (.seq (.ops [⟨(some 2), none, .mv (.c (.bool false))⟩])
  (.seq (.seq (.ops [⟨(some 29), none, .mv (.t 0)⟩, ⟨(some 30), none, .call (.c (.fn (.func 4) [] [])) [(.t 29)]⟩])
  (.cond (.t 30) (.seq (.ops [⟨(some 2), none, .mv (.c (.bool true))⟩])
  .ret) .skip))
  (.seq (.ops [⟨(some 32), none, .mv (.t 0)⟩, ⟨(some 33), none, .call (.c (.fn (.func 5) [] [])) [(.t 32)]⟩, ⟨(some 31), none, .mv (.t 33)⟩, ⟨(some 34), none, .extr 0 (.t 31)⟩, ⟨(some 35), none, .extr 1 (.t 31)⟩, ⟨(some 3), none, .mv (.t 34)⟩, ⟨(some 4), none, .mv (.t 35)⟩])
  (.seq (.ops [⟨(some 37), none, .mv (.t 3)⟩, ⟨(some 38), none, .mv (.t 4)⟩, ⟨(some 39), none, .call (.c (.fn (.func 6) [] [])) [(.t 37), (.t 38)]⟩, ⟨(some 36), none, .mv (.t 39)⟩, ⟨(some 40), none, .extr 0 (.t 36)⟩, ⟨(some 41), none, .extr 1 (.t 36)⟩, ⟨(some 5), none, .mv (.t 40)⟩, ⟨(some 6), none, .mv (.t 41)⟩])
  (.seq (.seq (.ops [⟨(some 43), none, .mv (.t 3)⟩, ⟨(some 44), none, .mv (.t 4)⟩, ⟨(some 45), none, .call (.c (.fn (.func 7) [] [])) [(.t 43), (.t 44)]⟩, ⟨(some 42), none, .mv (.t 45)⟩, ⟨(some 46), none, .extr 0 (.t 42)⟩, ⟨(some 47), none, .extr 1 (.t 42)⟩, ⟨(some 7), none, .mv (.t 46)⟩, ⟨(some 8), none, .mv (.t 47)⟩])
  (.seq (.ops [⟨(some 48), none, .mv (.t 6)⟩, ⟨(some 49), none, .mv (.t 8)⟩, ⟨(some 50), none, .bin .neq (.t 48) (.t 49)⟩, ⟨(some 51), none, .mv (.t 50)⟩, ⟨(some 52), some (51, false), .mv (.t 5)⟩, ⟨(some 53), some (51, false), .mv (.t 7)⟩, ⟨(some 54), some (51, false), .call (.c (.fn (.func 8) [] [])) [(.t 52), (.t 53)]⟩, ⟨(some 55), some (51, false), .not (.t 54)⟩, ⟨(some 56), none, .pick (.t 51) (.c (.bool true)) (.t 55)⟩])
  (.cond (.t 56) (.seq (.ops [⟨(some 2), none, .mv (.c (.bool false))⟩])
  .ret) .skip)))
  (.seq (.ops [⟨(some 58), none, .mv (.t 3)⟩, ⟨(some 59), none, .mv (.t 4)⟩, ⟨(some 60), none, .call (.c (.fn (.func 9) [] [])) [(.t 58), (.t 59)]⟩, ⟨(some 57), none, .mv (.t 60)⟩, ⟨(some 61), none, .extr 0 (.t 57)⟩, ⟨(some 62), none, .extr 1 (.t 57)⟩, ⟨(some 9), none, .mv (.t 61)⟩, ⟨(some 10), none, .mv (.t 62)⟩])
  (.seq (.seq (.ops [⟨(some 64), none, .mv (.t 3)⟩, ⟨(some 65), none, .mv (.t 4)⟩, ⟨(some 66), none, .call (.c (.fn (.func 10) [] [])) [(.t 64), (.t 65)]⟩, ⟨(some 63), none, .mv (.t 66)⟩, ⟨(some 67), none, .extr 0 (.t 63)⟩, ⟨(some 68), none, .extr 1 (.t 63)⟩, ⟨(some 11), none, .mv (.t 67)⟩, ⟨(some 12), none, .mv (.t 68)⟩])
  (.seq (.ops [⟨(some 69), none, .mv (.t 10)⟩, ⟨(some 70), none, .mv (.t 12)⟩, ⟨(some 71), none, .bin .neq (.t 69) (.t 70)⟩, ⟨(some 72), none, .mv (.t 71)⟩, ⟨(some 73), some (72, false), .mv (.t 9)⟩, ⟨(some 74), some (72, false), .mv (.t 11)⟩, ⟨(some 75), some (72, false), .beq true (.t 73) (.t 74)⟩, ⟨(some 76), none, .pick (.t 72) (.c (.bool true)) (.t 75)⟩])
  (.cond (.t 76) (.seq (.ops [⟨(some 2), none, .mv (.c (.bool false))⟩])
  .ret) .skip)))
  (.seq (.ops [⟨(some 77), none, .mv (.t 0)⟩, ⟨(some 78), none, .call (.c (.fn (.func 11) [] [])) [(.t 77)]⟩, ⟨(some 13), none, .mv (.t 78)⟩])
  (.seq (.ops [⟨(some 80), none, .mv (.t 13)⟩, ⟨(some 81), none, .call (.c (.fn (.func 12) [] [])) [(.t 80)]⟩, ⟨(some 79), none, .mv (.t 81)⟩, ⟨(some 82), none, .extr 0 (.t 79)⟩, ⟨(some 83), none, .extr 1 (.t 79)⟩, ⟨(some 14), none, .mv (.t 82)⟩, ⟨(some 15), none, .mv (.t 83)⟩])
  (.seq (.seq (.ops [⟨(some 85), none, .mv (.t 13)⟩, ⟨(some 86), none, .call (.c (.fn (.func 13) [] [])) [(.t 85)]⟩, ⟨(some 84), none, .mv (.t 86)⟩, ⟨(some 87), none, .extr 0 (.t 84)⟩, ⟨(some 88), none, .extr 1 (.t 84)⟩, ⟨(some 16), none, .mv (.t 87)⟩, ⟨(some 17), none, .mv (.t 88)⟩])
  (.seq (.ops [⟨(some 89), none, .mv (.t 15)⟩, ⟨(some 90), none, .mv (.t 17)⟩, ⟨(some 91), none, .bin .neq (.t 89) (.t 90)⟩, ⟨(some 92), none, .mv (.t 91)⟩, ⟨(some 93), some (92, false), .mv (.t 14)⟩, ⟨(some 94), some (92, false), .mv (.t 16)⟩, ⟨(some 95), some (92, false), .call (.c (.fn (.func 14) [] [])) [(.t 93), (.t 94)]⟩, ⟨(some 96), some (92, false), .not (.t 95)⟩, ⟨(some 97), none, .pick (.t 92) (.c (.bool true)) (.t 96)⟩])
  (.cond (.t 97) (.seq (.ops [⟨(some 2), none, .mv (.c (.bool false))⟩])
  .ret) .skip)))
  (.seq (.ops [⟨(some 99), none, .mv (.t 13)⟩, ⟨(some 100), none, .call (.c (.fn (.func 15) [] [])) [(.t 99)]⟩, ⟨(some 98), none, .mv (.t 100)⟩, ⟨(some 101), none, .extr 0 (.t 98)⟩, ⟨(some 102), none, .extr 1 (.t 98)⟩, ⟨(some 18), none, .mv (.t 101)⟩, ⟨(some 19), none, .mv (.t 102)⟩])
  (.seq (.seq (.ops [⟨(some 104), none, .mv (.t 13)⟩, ⟨(some 105), none, .call (.c (.fn (.func 16) [] [])) [(.t 104)]⟩, ⟨(some 103), none, .mv (.t 105)⟩, ⟨(some 106), none, .extr 0 (.t 103)⟩, ⟨(some 107), none, .extr 1 (.t 103)⟩, ⟨(some 20), none, .mv (.t 106)⟩, ⟨(some 21), none, .mv (.t 107)⟩])
  (.seq (.ops [⟨(some 108), none, .mv (.t 19)⟩, ⟨(some 109), none, .mv (.t 21)⟩, ⟨(some 110), none, .bin .neq (.t 108) (.t 109)⟩, ⟨(some 111), none, .mv (.t 110)⟩, ⟨(some 112), some (111, false), .mv (.t 18)⟩, ⟨(some 113), some (111, false), .mv (.t 20)⟩, ⟨(some 114), some (111, false), .beq true (.t 112) (.t 113)⟩, ⟨(some 115), none, .pick (.t 111) (.c (.bool true)) (.t 114)⟩])
  (.cond (.t 115) (.seq (.ops [⟨(some 2), none, .mv (.c (.bool false))⟩])
  .ret) .skip)))
  (.seq (.seq (.ops [⟨(some 116), none, .mv (.t 15)⟩, ⟨(some 117), none, .bin .eql (.t 116) (.c (.int .i64 0))⟩])
  (.cond (.t 117) (.seq (.ops [⟨(some 119), none, .mv (.t 13)⟩, ⟨(some 120), none, .call (.c (.fn (.func 17) [] [])) [(.t 119)]⟩, ⟨(some 118), none, .mv (.t 120)⟩, ⟨(some 121), none, .extr 0 (.t 118)⟩, ⟨(some 122), none, .extr 1 (.t 118)⟩, ⟨(some 22), none, .mv (.t 121)⟩, ⟨(some 23), none, .mv (.t 122)⟩])
  (.seq (.seq (.ops [⟨(some 123), none, .mv (.t 19)⟩, ⟨(some 124), none, .bin .neq (.t 123) (.c (.int .i64 0))⟩, ⟨(some 125), none, .mv (.t 124)⟩, ⟨(some 126), some (125, false), .mv (.t 23)⟩, ⟨(some 127), some (125, false), .bin .neq (.t 126) (.c (.int .i64 0))⟩, ⟨(some 128), none, .pick (.t 125) (.c (.bool true)) (.t 127)⟩, ⟨(some 129), none, .mv (.t 128)⟩, ⟨(some 130), some (129, false), .mv (.t 18)⟩, ⟨(some 131), some (129, false), .mv (.t 130)⟩, ⟨(some 132), some (131, true), .mv (.t 22)⟩, ⟨(some 133), some (131, true), .not (.t 132)⟩, ⟨(some 134), some (129, false), .pick (.t 131) (.t 133) (.c (.bool false))⟩, ⟨(some 135), none, .pick (.t 129) (.c (.bool true)) (.t 134)⟩, ⟨(some 136), none, .mv (.t 135)⟩, ⟨(some 137), some (136, false), .mv (.t 14)⟩, ⟨(some 138), some (136, false), .len false (.t 137)⟩, ⟨(some 139), some (136, false), .bin .eql (.t 138) (.c (.int .i64 0))⟩, ⟨(some 140), none, .pick (.t 136) (.c (.bool true)) (.t 139)⟩, ⟨(some 141), none, .mv (.t 140)⟩, ⟨(some 142), some (141, false), .mv (.t 18)⟩, ⟨(some 143), some (141, false), .mv (.t 142)⟩, ⟨(some 144), some (143, true), .mv (.t 14)⟩, ⟨(some 145), some (143, true), .len false (.t 144)⟩, ⟨(some 146), some (143, true), .bin .gtr (.t 145) (.c (.int .i64 2))⟩, ⟨(some 147), some (141, false), .pick (.t 143) (.t 146) (.c (.bool false))⟩, ⟨(some 148), none, .pick (.t 141) (.c (.bool true)) (.t 147)⟩, ⟨(some 149), none, .mv (.t 148)⟩, ⟨(some 150), some (149, false), .mv (.t 13)⟩, ⟨(some 151), some (149, false), .idxS 6 (.t 150) (.c (.int .i64 0))⟩, ⟨(some 152), some (149, false), .fieldA 0 (.t 151)⟩, ⟨(some 153), some (149, false), .load false 1 (.t 152)⟩, ⟨(some 154), some (149, false), .bin .gtr (.t 153) (.c (.int .i64 1))⟩, ⟨(some 155), some (149, false), .mv (.t 154)⟩, ⟨(some 156), some (155, true), .mv (.t 14)⟩, ⟨(some 157), some (155, true), .len false (.t 156)⟩, ⟨(some 158), some (155, true), .bin .lss (.t 157) (.c (.int .i64 2))⟩, ⟨(some 159), some (149, false), .pick (.t 155) (.t 158) (.c (.bool false))⟩, ⟨(some 160), none, .pick (.t 149) (.c (.bool true)) (.t 159)⟩])
  (.cond (.t 160) (.seq (.ops [⟨(some 2), none, .mv (.c (.bool false))⟩])
  .ret) .skip))
  (.seq (.ops [⟨(some 24), none, .mv (.c (.int .i64 0))⟩])
  (.block 0 (.loop k3_b0))))) .skip))
  (.seq (.seq (.ops [⟨(some 186), none, .mv (.t 10)⟩, ⟨(some 187), none, .bin .eql (.t 186) (.c (.int .i64 0))⟩, ⟨(some 188), none, .mv (.t 187)⟩, ⟨(some 189), some (188, true), .mv (.t 9)⟩, ⟨(some 190), some (188, true), .mv (.t 6)⟩, ⟨(some 191), some (188, true), .bin .eql (.t 190) (.c (.int .i64 0))⟩, ⟨(some 192), some (188, true), .beq true (.t 189) (.t 191)⟩, ⟨(some 193), none, .pick (.t 188) (.t 192) (.c (.bool false))⟩])
  (.cond (.t 193) (.seq (.ops [⟨(some 2), none, .mv (.c (.bool false))⟩])
  .ret) .skip))
  (.seq (.seq (.ops [⟨(some 194), none, .mv (.t 6)⟩, ⟨(some 195), none, .bin .neq (.t 194) (.c (.int .i64 0))⟩])
  (.cond (.t 195) (.seq (.ops [⟨(some 196), none, .mv (.t 5)⟩, ⟨(some 197), none, .len false (.t 196)⟩, ⟨(some 198), none, .bin .eql (.t 197) (.c (.int .i64 0))⟩, ⟨(some 2), none, .mv (.t 198)⟩])
  .ret) .skip))
  (.seq (.seq (.ops [⟨(some 27), none, .mv (.c (.int .i64 0))⟩])
  (.block 2 (.loop k3_b2)))
  (.seq (.ops [⟨(some 234), none, .mv (.t 5)⟩, ⟨(some 235), none, .len false (.t 234)⟩, ⟨(some 236), none, .mv (.t 3)⟩, ⟨(some 237), none, .len false (.t 236)⟩, ⟨(some 238), none, .bin .eql (.t 235) (.t 237)⟩, ⟨(some 2), none, .mv (.t 238)⟩])
  .ret)))))))))))))))))
theorem e3 {args : List PV} {σ : Heap} {K : PV → Heap → Prop} (hl : args.length ≤ 239) (h : Wf σ → (∀ a ∈ args, PV.upto σ.length a) → vc (mkCfg Tryz.prog mixed [] 239 σ.length) k3 (FinK σ.length [.t 2] K) (argEnv 0 args) σ) : ACall Tryz.prog 3 args σ K :=
  ACall_enter (C := mkCfg Tryz.prog mixed [] 239 σ.length) (c := Tryz.f3.body.getD .skip) Tryz.func3 (by kernel_rfl) (by kernel_rfl) (by kernel_rfl) rfl hl (by kernel_rfl) (by kernel_rfl) h
end Go.Proofs.YtodmbkceindakaaGreat
namespace Go.Proofs.YtodmbkceindakaaGreat
open Go.Kv
set_option linter.unusedVariables false
set_option linter.unusedSimpArgs false
attribute [local irreducible] ACall PCall KL
theorem classLoop {t : List (List Int)} {P : List Int} {C : List (List Int)} (ht7 : t.length ≤ 7) (ht6 : ∀ r ∈ t, r.length = 6) (hA : ActC t P C) {Q : Exit → Env → Heap → Prop} {env : Env}
    (hE : keep [3, 4, 5, 27] env = [(3, .list (aggs t)), (4, .list (ints P)), (5, .list (aggs C)), (27, .int .i64 0)])
    (hQ : ∀ env', keep [3, 5] env' = [(3, .list (aggs t)), (5, .list (aggs C))] → Q (.exit 2) env' []) : KL (mkCfg Tryz.prog mixed [] 239 0) k3_b2 Q env [] := by
  obtain ⟨n, h1, hn, hPn, hn5, hact⟩ := hA.n
  have hCl := hA.len
  have h06 : (t.getD 0 []).length = 6 := ht6 _ (getD_memG (by omega))
  refine KL_ind k3_b2.eq_1 (fun y : Nat => [(3, .list (aggs t)), (4, .list (ints P)), (5, .list (aggs C)), (27, .int .i64 y)]) (fun _ => []) (fun y => y ≤ t.length) (fun y => t.length - y) [3, 4, 5, 27] 0 hE rfl (Nat.zero_le _) fun i hi ih => ?_
  try simp only [OpK_eq, HKv, aggs_length, take6, List.drop_zero, Int.cast_ofNat_Int, go_sem, ↓reduceIte, Nat.reduceEqDiff, Nat.reduceAdd, Nat.reduceMul, Nat.reduceLeDiff, Nat.reduceLT, Int.reduceLE, Int.reduceLT, reduceCtorEq]
  refine ⟨fun g1 => ?_, fun g1 => hQ _ (by simp [keep])⟩
  have hil : i < t.length := by omega
  have hti : (t.getD i []).length = 6 := ht6 _ (getD_memG hil)
  have hci : (C.getD i []).length = 6 := hA.c6 _ (getD_memG (by omega))
  refine KL_ind k3_b1.eq_1 (fun y : Nat => [(3, .list (aggs t)), (4, .list (ints P)), (5, .list (aggs C)), (27, .int .i64 i), (28, .int .i64 y)]) (fun _ => []) (fun y => y ≤ n) (fun y => n - y) [3, 4, 5, 27, 28] 0 (by simp [keep]) rfl (Nat.zero_le _) fun p hp ihp => ?_
  try simp only [OpK_eq, HKv, aggs_length, h06, hn, take6, List.drop_zero, Int.cast_ofNat_Int, go_sem, ↓reduceIte, Nat.reduceEqDiff, Nat.reduceAdd, Nat.reduceMul, Nat.reduceLeDiff, Nat.reduceLT, Int.reduceLE, Int.reduceLT, reduceCtorEq]
  refine ⟨by omega, fun _ => ⟨fun g2 => ?_, fun g2 => ?_⟩⟩
  · have hpn : p < n := by omega
    obtain ⟨a1, a2, a3⟩ := hact i p hil hpn
    repeat' (first
      | omega
      | exact hci
      | exact hti
      | (with_reducible refine And.intro ?_ ?_)
      | (with_reducible intro _))
    · exact ihp (p + 1) (by omega) (by omega) _ _ (by simp [keep]) rfl
  · obtain rfl : p = n := by omega
    exact ⟨by omega, ih (i + 1) (by omega) (by omega) _ _ (by simp [keep]) rfl⟩
theorem allLoop {t : List (List Int)} {T : List (List Int)} (ht7 : t.length ≤ 7) (ht6 : ∀ r ∈ t, r.length = 6) (hT : T.length ≤ 1000) (hf : ∀ P ∈ T, P.length ≤ 5 ∧ ivp t P = (true, 0)) {v3 v4 v5 v6 v9 v10 : PV} {Q : Exit → Env → Heap → Prop} {env : Env}
    (hE : keep [3, 4, 5, 6, 9, 10, 13, 14, 24, 166, 167, 183, 184, 189, 190, 191, 192] env = (3, v3) :: (4, v4) :: (5, v5) :: (6, v6) :: (9, v9) :: (10, v10) :: (13, .list (aggs t)) :: (14, .list (rows T)) :: (24, .int .i64 0) :: List.zip [166, 167, 183, 184, 189, 190, 191, 192] (List.replicate 8 .undef))
    (hQ : ∀ env', keep [3, 4, 5, 6, 9, 10] env' = [(3, v3), (4, v4), (5, v5), (6, v6), (9, v9), (10, v10)] → Q (.exit 0) env' []) : KL (mkCfg Tryz.prog mixed [] 239 0) k3_b0 Q env [] := by
  refine KL_ind k3_b0.eq_1 (fun y : Nat × List PV => (3, v3) :: (4, v4) :: (5, v5) :: (6, v6) :: (9, v9) :: (10, v10) :: (13, .list (aggs t)) :: (14, .list (rows T)) :: (24, .int .i64 y.1) :: List.zip [166, 167, 183, 184, 189, 190, 191, 192] y.2) (fun _ => []) (fun y => y.1 ≤ T.length) (fun y => T.length - y.1) [3, 4, 5, 6, 9, 10, 13, 14, 24, 166, 167, 183, 184, 189, 190, 191, 192] (0, List.replicate 8 .undef) hE rfl (Nat.zero_le _) fun ⟨i, g⟩ hi ih => ?_
  simp only at hi
  try simp only [OpK_eq, HKv, take6, List.drop_zero, Int.cast_ofNat_Int, go_sem, ↓reduceIte, Nat.reduceEqDiff, Nat.reduceAdd, Nat.reduceMul, Nat.reduceLeDiff, Nat.reduceLT, Int.reduceLE, Int.reduceLT, reduceCtorEq]
  refine ⟨fun g1 => ⟨fun g2 => ⟨g1, fun hiT => ?_⟩, fun g2 => hQ _ (by simp [keep])⟩, fun g1 => hQ _ (by simp [keep])⟩
  obtain ⟨h5, hv⟩ := hf _ (getD_memG hiT)
  have hc := p9 t (T.getD i []) (by omega) ht6 (by omega)
  rw [hv] at hc
  refine hc.go ?_
  try simp only [OpK_eq, HKv, bne_self_eq_false, decide_true, Bool.not_true, beq_self_eq_true, Bool.not_false, take6, List.drop_zero, Int.cast_ofNat_Int, go_sem, ↓reduceIte, Nat.reduceEqDiff, Nat.reduceAdd, Nat.reduceMul, Nat.reduceLeDiff, Nat.reduceLT, Int.reduceLE, Int.reduceLT, reduceCtorEq]
  exact ⟨by omega, ih (i + 1, [_, _, _, _, _, _, _, _]) (by show i + 1 ≤ T.length; omega) (by show T.length - (i + 1) < T.length - i; omega) _ _ (by simp [keep]; exact ⟨rfl, rfl, rfl, rfl, rfl, rfl, rfl, rfl⟩) rfl⟩
set_option maxRecDepth 100000 in
theorem p3 (l : List Int) (hl : l.length ≤ 9223372036854775807) (hb : ∀ z ∈ l, 0 ≤ z ∧ z ≤ 255) : Pure Tryz.prog 3 [.list (u8s l)] (.bool true) := by
  refine e3 (by simp) fun _ _ => ?_
  simp only [k3, argEnv, take6, List.drop_zero, Int.cast_ofNat_Int, go_sem, ↓reduceIte, Nat.reduceEqDiff, Nat.reduceAdd, Nat.reduceMul, Nat.reduceLeDiff, Nat.reduceLT, Int.reduceLE, Int.reduceLT, reduceCtorEq]
  refine (p4 l hl).go ?_
  try simp only [OpK_eq, HKv, take6, List.drop_zero, Int.cast_ofNat_Int, go_sem, ↓reduceIte, Nat.reduceEqDiff, Nat.reduceAdd, Nat.reduceMul, Nat.reduceLeDiff, Nat.reduceLT, Int.reduceLE, Int.reduceLT, reduceCtorEq]
  refine ⟨fun h => Kv.Fin.still ⟨rfl, rfl⟩, fun hbig => ?_⟩
  have hB : Byt l := ⟨by omega, hb⟩
  refine p5 hB fun t P q1 q2 q3 => ?_
  obtain ⟨w, hw, hI, hS, hm, hA, hC⟩ := loc t P q1 q2 q3
  have hv := p9 t P (by omega) q2 (by omega)
  have hv' := p10 t P (by omega) q2 (by omega)
  have hlc : lcc t P = if (ivp t P).2 ≠ 0 then (ivp t P).2 else if (ivp t P).1 = false then 5 else 0 := rfl
  generalize lcc t P = r at *
  generalize (ivp t P).1 = b at *
  generalize (ivp t P).2 = k at *
  try simp only [OpK_eq, HKv, take6, List.drop_zero, Int.cast_ofNat_Int, go_sem, ↓reduceIte, Nat.reduceEqDiff, Nat.reduceAdd, Nat.reduceMul, Nat.reduceLeDiff, Nat.reduceLT, Int.reduceLE, Int.reduceLT, reduceCtorEq]
  refine hI.go ?_
  try simp only [OpK_eq, HKv, take6, List.drop_zero, Int.cast_ofNat_Int, go_sem, ↓reduceIte, Nat.reduceEqDiff, Nat.reduceAdd, Nat.reduceMul, Nat.reduceLeDiff, Nat.reduceLT, Int.reduceLE, Int.reduceLT, reduceCtorEq]
  refine hS.go ?_
  try simp only [OpK_eq, HKv, bne_self_eq_false, decide_true, Bool.not_true, take6, List.drop_zero, Int.cast_ofNat_Int, go_sem, ↓reduceIte, Nat.reduceEqDiff, Nat.reduceAdd, Nat.reduceMul, Nat.reduceLeDiff, Nat.reduceLT, Int.reduceLE, Int.reduceLT, reduceCtorEq]
  refine hm.go ?_
  try simp only [OpK_eq, HKv, bne_self_eq_false, decide_true, Bool.not_true, beq_self_eq_true, Bool.not_false, take6, List.drop_zero, Int.cast_ofNat_Int, go_sem, ↓reduceIte, Nat.reduceEqDiff, Nat.reduceAdd, Nat.reduceMul, Nat.reduceLeDiff, Nat.reduceLT, Int.reduceLE, Int.reduceLT, reduceCtorEq]
  refine hv.go ?_
  try simp only [OpK_eq, HKv, bne_self_eq_false, decide_true, Bool.not_true, beq_self_eq_true, Bool.not_false, take6, List.drop_zero, Int.cast_ofNat_Int, go_sem, ↓reduceIte, Nat.reduceEqDiff, Nat.reduceAdd, Nat.reduceMul, Nat.reduceLeDiff, Nat.reduceLT, Int.reduceLE, Int.reduceLT, reduceCtorEq]
  refine hv'.go ?_
  try simp only [OpK_eq, HKv, bne_self_eq_false, decide_true, Bool.not_true, beq_self_eq_true, Bool.not_false, take6, List.drop_zero, Int.cast_ofNat_Int, go_sem, ↓reduceIte, Nat.reduceEqDiff, Nat.reduceAdd, Nat.reduceMul, Nat.reduceLeDiff, Nat.reduceLT, Int.reduceLE, Int.reduceLT, reduceCtorEq]
  refine p11 hB fun t2 q4 q5 => ?_
  obtain ⟨w2, w3, hw2, hw3, hI2, hS2, hr2, hF⟩ := ipl t2 q4 q5
  have hP1 := p15 t2 (by omega) q5
  have hP2 := p16 t2 (by omega) q5
  have hT2 := p17 t2 (by omega) q5
  try simp only [OpK_eq, HKv, bne_self_eq_false, decide_true, Bool.not_true, beq_self_eq_true, Bool.not_false, take6, List.drop_zero, Int.cast_ofNat_Int, go_sem, ↓reduceIte, Nat.reduceEqDiff, Nat.reduceAdd, Nat.reduceMul, Nat.reduceLeDiff, Nat.reduceLT, Int.reduceLE, Int.reduceLT, reduceCtorEq]
  refine hI2.go ?_
  try simp only [OpK_eq, HKv, bne_self_eq_false, decide_true, Bool.not_true, beq_self_eq_true, Bool.not_false, take6, List.drop_zero, Int.cast_ofNat_Int, go_sem, ↓reduceIte, Nat.reduceEqDiff, Nat.reduceAdd, Nat.reduceMul, Nat.reduceLeDiff, Nat.reduceLT, Int.reduceLE, Int.reduceLT, reduceCtorEq]
  refine hS2.go ?_
  try simp only [OpK_eq, HKv, bne_self_eq_false, decide_true, Bool.not_true, beq_self_eq_true, Bool.not_false, take6, List.drop_zero, Int.cast_ofNat_Int, go_sem, ↓reduceIte, Nat.reduceEqDiff, Nat.reduceAdd, Nat.reduceMul, Nat.reduceLeDiff, Nat.reduceLT, Int.reduceLE, Int.reduceLT, reduceCtorEq]
  refine hr2.go ?_
  try simp only [OpK_eq, HKv, bne_self_eq_false, decide_true, Bool.not_true, beq_self_eq_true, Bool.not_false, take6, List.drop_zero, Int.cast_ofNat_Int, go_sem, ↓reduceIte, Nat.reduceEqDiff, Nat.reduceAdd, Nat.reduceMul, Nat.reduceLeDiff, Nat.reduceLT, Int.reduceLE, Int.reduceLT, reduceCtorEq]
  refine hP1.go ?_
  try simp only [OpK_eq, HKv, bne_self_eq_false, decide_true, Bool.not_true, beq_self_eq_true, Bool.not_false, take6, List.drop_zero, Int.cast_ofNat_Int, go_sem, ↓reduceIte, Nat.reduceEqDiff, Nat.reduceAdd, Nat.reduceMul, Nat.reduceLeDiff, Nat.reduceLT, Int.reduceLE, Int.reduceLT, reduceCtorEq]
  refine hP2.go ?_
  try simp only [OpK_eq, HKv, bne_self_eq_false, decide_true, Bool.not_true, beq_self_eq_true, Bool.not_false, take6, List.drop_zero, Int.cast_ofNat_Int, go_sem, ↓reduceIte, Nat.reduceEqDiff, Nat.reduceAdd, Nat.reduceMul, Nat.reduceLeDiff, Nat.reduceLT, Int.reduceLE, Int.reduceLT, reduceCtorEq]
  have hcase : (r = 0 ∧ k = 0 ∧ b = true ∧ ∃ C, w = .list (aggs C) ∧ ActC t P C) ∨ (r ≠ 0 ∧ w = .nils ∧ (k = 0 → b = false)) := by
    by_cases h0 : r = 0
    · obtain ⟨C, h1, h2⟩ := hC h0
      by_cases hk : k = 0
      · rw [if_neg (by simp [hk])] at hlc
        cases b with
        | true => exact .inl ⟨h0, hk, rfl, C, h1, h2⟩
        | false => simp at hlc; omega
      · rw [if_pos hk] at hlc; omega
    · refine .inr ⟨h0, hA h0, fun hk => ?_⟩
      rw [if_neg (by simp [hk])] at hlc
      cases b with
      | true => simp at hlc; omega
      | false => rfl
  clear hC hA hlc hI hS hm hv hv' hI2 hS2 hr2
  refine ⟨fun hc0 => ?_, fun _ => ?_⟩
  · obtain ⟨hw2e, f1, f2, f3, f4, f5, f6, f7⟩ := hF hc0
    subst hw2e
    rw [hc0] at hT2
    rw [hc0]
    refine hT2.go ?_
    obtain ⟨i1, i2, i3⟩ := ipc_rows q5 hc0
    have hloop := fun (v3 v4 v5 v6 v9 v10 : PV) => @allLoop t2 (ipc t2) q4 q5 (by omega) f5 v3 v4 v5 v6 v9 v10
    have hpt : (prm1 t2 = true ∧ trn t2 = true ∧ (ipc t2).length ≤ 2) ∨ prm1 t2 = false := by
      cases hp : prm1 t2 with
      | true => exact .inl ⟨rfl, f1 hp, f3 hp⟩
      | false => exact .inr rfl
    clear f1 f3 hT2 hP1 hP2 hF
    generalize prm1 t2 = pm at *
    generalize trn t2 = tr at *
    rcases hpt with ⟨rfl, rfl, hle⟩ | rfl
    all_goals try simp only [OpK_eq, HKv, bne_self_eq_false, decide_true, Bool.not_true, beq_self_eq_true, Bool.not_false, take6, List.drop_zero, Int.cast_ofNat_Int, go_sem, ↓reduceIte, Nat.reduceEqDiff, Nat.reduceAdd, Nat.reduceMul, Nat.reduceLeDiff, Nat.reduceLT, Int.reduceLE, Int.reduceLT, reduceCtorEq]
    all_goals (repeat' (first | omega | exact f7 | (with_reducible refine And.intro ?_ ?_) | (with_reducible intro _)))
    all_goals refine allLoop (v3 := .list (aggs t)) (v4 := .list (ints P)) (v5 := w) (v6 := .int .i64 r) (v9 := .bool b) (v10 := .int .i64 k) q4 q5 (by omega) f5 (by simp [keep]) fun env' hk => ?_
    all_goals obtain ⟨k3, k4, k5, k6, k9, k10⟩ : Kv.look env' 3 = PV.list (aggs t) ∧ Kv.look env' 4 = PV.list (ints P) ∧ Kv.look env' 5 = w ∧ Kv.look env' 6 = PV.int .i64 r ∧ Kv.look env' 9 = PV.bool b ∧ Kv.look env' 10 = PV.int .i64 k := by simpa [keep] using hk
    all_goals clear hk
    all_goals rcases hcase with ⟨h0, hk0, hb1, C, hwC, hAc⟩ | ⟨h0, hwn, hkb⟩
    all_goals first
      | (subst h0; subst hk0; subst hb1; subst hwC
         try simp only [OpK_eq, HKv, k3, k4, k5, k6, k9, k10, bne_self_eq_false, decide_true, Bool.not_true, beq_self_eq_true, Bool.not_false, take6, List.drop_zero, Int.cast_ofNat_Int, go_sem, ↓reduceIte, Nat.reduceEqDiff, Nat.reduceAdd, Nat.reduceMul, Nat.reduceLeDiff, Nat.reduceLT, Int.reduceLE, Int.reduceLT, reduceCtorEq]
         refine classLoop q1 q2 hAc (by simp [keep, k3, k4, k5]) fun env2 hk => ?_
         obtain ⟨j3, j5⟩ : Kv.look env2 3 = PV.list (aggs t) ∧ Kv.look env2 5 = PV.list (aggs C) := by simpa [keep] using hk
         have hlen := hAc.len
         try simp only [OpK_eq, HKv, j3, j5, aggs_length, hlen, decide_true, take6, List.drop_zero, Int.cast_ofNat_Int, go_sem, ↓reduceIte, Nat.reduceEqDiff, Nat.reduceAdd, Nat.reduceMul, Nat.reduceLeDiff, Nat.reduceLT, Int.reduceLE, Int.reduceLT, reduceCtorEq]
         exact Kv.Fin.still ⟨rfl, rfl⟩)
      | (subst hwn
         try simp only [OpK_eq, HKv, k3, k4, k5, k6, k9, k10, bne_self_eq_false, decide_true, Bool.not_true, beq_self_eq_true, Bool.not_false, take6, List.drop_zero, Int.cast_ofNat_Int, go_sem, ↓reduceIte, Nat.reduceEqDiff, Nat.reduceAdd, Nat.reduceMul, Nat.reduceLeDiff, Nat.reduceLT, Int.reduceLE, Int.reduceLT, reduceCtorEq]
         refine ⟨fun hk => ⟨fun hne => ?_, fun _ => ⟨fun _ => Kv.Fin.still ⟨rfl, rfl⟩, fun h => absurd h h0⟩⟩, fun _ => ⟨fun _ => Kv.Fin.still ⟨rfl, rfl⟩, fun h => absurd h h0⟩⟩
         rw [hkb hk, decide_eq_false h0] at hne
         simp at hne)
  · rcases hcase with ⟨h0, hk0, hb1, C, hwC, hAc⟩ | ⟨h0, hwn, hkb⟩
    · subst h0; subst hk0; subst hb1; subst hwC
      try simp only [OpK_eq, HKv, bne_self_eq_false, decide_true, Bool.not_true, beq_self_eq_true, Bool.not_false, take6, List.drop_zero, Int.cast_ofNat_Int, go_sem, ↓reduceIte, Nat.reduceEqDiff, Nat.reduceAdd, Nat.reduceMul, Nat.reduceLeDiff, Nat.reduceLT, Int.reduceLE, Int.reduceLT, reduceCtorEq]
      refine classLoop q1 q2 hAc (by simp [keep]) fun env' hk => ?_
      obtain ⟨k3, k5⟩ : Kv.look env' 3 = PV.list (aggs t) ∧ Kv.look env' 5 = PV.list (aggs C) := by simpa [keep] using hk
      have hlen := hAc.len
      try simp only [OpK_eq, HKv, k3, k5, aggs_length, hlen, decide_true, take6, List.drop_zero, Int.cast_ofNat_Int, go_sem, ↓reduceIte, Nat.reduceEqDiff, Nat.reduceAdd, Nat.reduceMul, Nat.reduceLeDiff, Nat.reduceLT, Int.reduceLE, Int.reduceLT, reduceCtorEq]
      exact Kv.Fin.still ⟨rfl, rfl⟩
    · subst hwn
      try simp only [OpK_eq, HKv, bne_self_eq_false, decide_true, Bool.not_true, beq_self_eq_true, Bool.not_false, take6, List.drop_zero, Int.cast_ofNat_Int, go_sem, ↓reduceIte, Nat.reduceEqDiff, Nat.reduceAdd, Nat.reduceMul, Nat.reduceLeDiff, Nat.reduceLT, Int.reduceLE, Int.reduceLT, reduceCtorEq]
      refine ⟨fun hk => ⟨fun hne => ?_, fun _ => ⟨fun _ => Kv.Fin.still ⟨rfl, rfl⟩, fun h => absurd h h0⟩⟩, fun _ => ⟨fun _ => Kv.Fin.still ⟨rfl, rfl⟩, fun h => absurd h h0⟩⟩
      rw [hkb hk, decide_eq_false h0] at hne
      simp at hne
end Go.Proofs.YtodmbkceindakaaGreat
