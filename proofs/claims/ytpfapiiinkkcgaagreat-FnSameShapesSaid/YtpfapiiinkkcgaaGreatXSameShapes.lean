/- The law of maps of the same shape, walked. -/
import Derived.Test.YtpfapiiinkkcgaaGreatCb
import Derived.Test.YtpfapiiinkkcgaaGreatSD
namespace Go.Proofs.YtpfapiiinkkcgaaGreat
open Go.Kv
set_option maxRecDepth 100000
/- laws.FnSameShapes -/
/- live [0, 21, 22, 23, 28, 32, 33, 232, 233, 234, 257, 258, 259, 284, 285, 288, 289, 292, 293, 294, 297, 298, 299, 346, 347, 348, 351, 352, 353, 356, 357, 358, 361, 362, 363, 366, 367, 368] -/
def k5_b0 : KC := (.seq (.seq (.ops [⟨(some 217), none, .mv (.t 33)⟩, ⟨(some 218), none, .fieldA 0 (.t 21)⟩, ⟨(some 219), none, .load false 1 (.t 218)⟩, ⟨(some 220), none, .bin .leq (.t 217) (.t 219)⟩])
  (.cond (.t 220) .skip (.exit 0)))
  (.seq (.block 1 (.ops [⟨(some 223), none, .mv (.t 32)⟩, ⟨(some 224), none, .mv (.t 33)⟩, ⟨(some 225), none, .bin .mul (.t 223) (.t 224)⟩, ⟨(some 32), none, .mv (.t 225)⟩]))
  (.ops [⟨(some 221), none, .mv (.t 33)⟩, ⟨(some 222), none, .bin .add (.t 221) (.c (.int .i64 1))⟩, ⟨(some 33), none, .mv (.t 222)⟩])))
def k5 : KC := (.seq (.ops [⟨(some 2), none, .mv (.c (.bool false))⟩])
  (.seq (.seq (.ops [⟨(some 62), none, .mv (.t 0)⟩, ⟨(some 63), none, .call (.c (.fn (.func 6) [] [])) [(.t 62)]⟩])
  (.cond (.t 63) (.seq (.ops [⟨(some 2), none, .mv (.c (.bool true))⟩])
  .ret) .skip))
  (.seq (.ops [⟨(some 65), none, .mv (.t 0)⟩, ⟨(some 66), none, .call (.c (.fn (.func 47) [] [])) [(.t 65)]⟩, ⟨(some 64), none, .mv (.t 66)⟩, ⟨(some 67), none, .extr 0 (.t 64)⟩, ⟨(some 68), none, .extr 1 (.t 64)⟩, ⟨(some 3), none, .alloc [.int .i64 0, .int .i64 0, .int .i64 0, .int .i64 0, .int .i64 0, .int .i64 0]⟩, ⟨(some 4), none, .alloc [.int .i64 0, .int .i64 0, .int .i64 0, .int .i64 0, .int .i64 0, .int .i64 0]⟩, ⟨none, none, .store 6 (.t 3) (.t 67)⟩, ⟨none, none, .store 6 (.t 4) (.t 68)⟩])
  (.seq (.ops [⟨(some 70), none, .load true 6 (.t 3)⟩, ⟨(some 71), none, .load true 6 (.t 4)⟩, ⟨(some 72), none, .call (.c (.fn (.func 48) [] [])) [(.t 70), (.t 71)]⟩, ⟨(some 69), none, .mv (.t 72)⟩, ⟨(some 73), none, .extr 0 (.t 69)⟩, ⟨(some 74), none, .extr 1 (.t 69)⟩, ⟨(some 5), none, .mv (.t 73)⟩, ⟨(some 6), none, .mv (.t 74)⟩])
  (.seq (.ops [⟨(some 76), none, .load true 6 (.t 3)⟩, ⟨(some 77), none, .load true 6 (.t 4)⟩, ⟨(some 78), none, .call (.c (.fn (.func 49) [] [])) [(.t 76), (.t 77)]⟩, ⟨(some 75), none, .mv (.t 78)⟩, ⟨(some 79), none, .extr 0 (.t 75)⟩, ⟨(some 80), none, .extr 1 (.t 75)⟩, ⟨(some 7), none, .mv (.t 79)⟩, ⟨(some 8), none, .mv (.t 80)⟩])
  (.seq (.seq (.ops [⟨(some 81), none, .mv (.t 6)⟩, ⟨(some 82), none, .mv (.t 8)⟩, ⟨(some 83), none, .bin .neq (.t 81) (.t 82)⟩, ⟨(some 84), none, .mv (.t 83)⟩, ⟨(some 85), some (84, false), .mv (.t 5)⟩, ⟨(some 86), some (84, false), .mv (.t 7)⟩, ⟨(some 87), some (84, false), .beq true (.t 85) (.t 86)⟩, ⟨(some 88), none, .pick (.t 84) (.c (.bool true)) (.t 87)⟩])
  (.cond (.t 88) (.seq (.ops [⟨(some 2), none, .mv (.c (.bool false))⟩])
  .ret) .skip))
  (.seq (.seq (.ops [⟨(some 89), none, .mv (.t 6)⟩, ⟨(some 90), none, .bin .eql (.t 89) (.c (.int .i64 0))⟩])
  (.cond (.t 90) (.seq (.ops [⟨(some 92), none, .load true 6 (.t 3)⟩, ⟨(some 93), none, .call (.c (.fn (.func 50) [] [])) [(.t 92)]⟩, ⟨(some 91), none, .mv (.t 93)⟩, ⟨(some 94), none, .extr 0 (.t 91)⟩, ⟨(some 95), none, .extr 1 (.t 91)⟩, ⟨(some 9), none, .alloc [.int .i64 0, .int .i64 0, .int .i64 0, .int .i64 0, .int .i64 0, .int .i64 0]⟩, ⟨none, none, .store 6 (.t 9) (.t 94)⟩, ⟨(some 10), none, .mv (.t 95)⟩])
  (.seq (.ops [⟨(some 97), none, .load true 6 (.t 4)⟩, ⟨(some 98), none, .call (.c (.fn (.func 50) [] [])) [(.t 97)]⟩, ⟨(some 96), none, .mv (.t 98)⟩, ⟨(some 99), none, .extr 0 (.t 96)⟩, ⟨(some 100), none, .extr 1 (.t 96)⟩, ⟨(some 11), none, .alloc [.int .i64 0, .int .i64 0, .int .i64 0, .int .i64 0, .int .i64 0, .int .i64 0]⟩, ⟨none, none, .store 6 (.t 11) (.t 99)⟩, ⟨(some 12), none, .mv (.t 100)⟩])
  (.seq (.ops [⟨(some 102), none, .load true 6 (.t 3)⟩, ⟨(some 103), none, .call (.c (.fn (.func 25) [] [])) [(.t 102)]⟩, ⟨(some 101), none, .mv (.t 103)⟩, ⟨(some 104), none, .extr 0 (.t 101)⟩, ⟨(some 105), none, .extr 1 (.t 101)⟩, ⟨(some 13), none, .mv (.t 104)⟩, ⟨(some 14), none, .mv (.t 105)⟩])
  (.seq (.ops [⟨(some 107), none, .load true 6 (.t 4)⟩, ⟨(some 108), none, .call (.c (.fn (.func 25) [] [])) [(.t 107)]⟩, ⟨(some 106), none, .mv (.t 108)⟩, ⟨(some 109), none, .extr 0 (.t 106)⟩, ⟨(some 110), none, .extr 1 (.t 106)⟩, ⟨(some 15), none, .mv (.t 109)⟩, ⟨(some 16), none, .mv (.t 110)⟩])
  (.seq (.seq (.ops [⟨(some 111), none, .mv (.t 10)⟩, ⟨(some 112), none, .bin .neq (.t 111) (.c (.int .i64 0))⟩, ⟨(some 113), none, .mv (.t 112)⟩, ⟨(some 114), some (113, false), .mv (.t 12)⟩, ⟨(some 115), some (113, false), .bin .neq (.t 114) (.c (.int .i64 0))⟩, ⟨(some 116), none, .pick (.t 113) (.c (.bool true)) (.t 115)⟩, ⟨(some 117), none, .mv (.t 116)⟩, ⟨(some 118), some (117, false), .mv (.t 14)⟩, ⟨(some 119), some (117, false), .bin .neq (.t 118) (.c (.int .i64 0))⟩, ⟨(some 120), none, .pick (.t 117) (.c (.bool true)) (.t 119)⟩, ⟨(some 121), none, .mv (.t 120)⟩, ⟨(some 122), some (121, false), .mv (.t 16)⟩, ⟨(some 123), some (121, false), .bin .neq (.t 122) (.c (.int .i64 0))⟩, ⟨(some 124), none, .pick (.t 121) (.c (.bool true)) (.t 123)⟩, ⟨(some 125), none, .mv (.t 124)⟩, ⟨(some 126), some (125, false), .mv (.t 5)⟩, ⟨(some 127), some (125, false), .load true 6 (.t 9)⟩, ⟨(some 128), some (125, false), .load true 6 (.t 11)⟩, ⟨(some 129), some (125, false), .aeq false 6 (.t 127) (.t 128)⟩, ⟨(some 130), some (125, false), .beq true (.t 126) (.t 129)⟩, ⟨(some 131), none, .pick (.t 125) (.c (.bool true)) (.t 130)⟩, ⟨(some 132), none, .mv (.t 131)⟩, ⟨(some 133), some (132, false), .mv (.t 5)⟩, ⟨(some 134), some (132, false), .mv (.t 133)⟩, ⟨(some 135), some (134, true), .mv (.t 13)⟩, ⟨(some 136), some (134, true), .mv (.t 15)⟩, ⟨(some 137), some (134, true), .call (.c (.fn (.func 14) [] [])) [(.t 135), (.t 136)]⟩, ⟨(some 138), some (134, true), .not (.t 137)⟩, ⟨(some 139), some (132, false), .pick (.t 134) (.t 138) (.c (.bool false))⟩, ⟨(some 140), none, .pick (.t 132) (.c (.bool true)) (.t 139)⟩])
  (.cond (.t 140) (.seq (.ops [⟨(some 2), none, .mv (.c (.bool false))⟩])
  .ret) .skip))
  (.seq (.ops [⟨(some 141), none, .mv (.t 5)⟩, ⟨(some 142), none, .mv (.t 141)⟩, ⟨(some 143), some (142, true), .fieldA 0 (.t 3)⟩, ⟨(some 144), some (142, true), .load false 1 (.t 143)⟩, ⟨(some 145), some (142, true), .bin .lss (.t 144) (.c (.int .i64 5))⟩, ⟨(some 146), none, .pick (.t 142) (.t 145) (.c (.bool false))⟩])
  (.cond (.t 146) (.seq (.ops [⟨(some 148), none, .load true 6 (.t 3)⟩, ⟨(some 149), none, .call (.c (.fn (.func 51) [] [])) [(.t 148), (.c (.int .i64 2))]⟩, ⟨(some 147), none, .mv (.t 149)⟩, ⟨(some 150), none, .extr 0 (.t 147)⟩, ⟨(some 151), none, .extr 1 (.t 147)⟩, ⟨(some 17), none, .mv (.t 150)⟩, ⟨(some 18), none, .mv (.t 151)⟩])
  (.seq (.ops [⟨(some 153), none, .load true 6 (.t 4)⟩, ⟨(some 154), none, .call (.c (.fn (.func 51) [] [])) [(.t 153), (.c (.int .i64 2))]⟩, ⟨(some 152), none, .mv (.t 154)⟩, ⟨(some 155), none, .extr 0 (.t 152)⟩, ⟨(some 156), none, .extr 1 (.t 152)⟩, ⟨(some 19), none, .mv (.t 155)⟩, ⟨(some 20), none, .mv (.t 156)⟩])
  (.seq (.ops [⟨(some 157), none, .mv (.t 18)⟩, ⟨(some 158), none, .bin .neq (.t 157) (.c (.int .i64 0))⟩, ⟨(some 159), none, .mv (.t 158)⟩, ⟨(some 160), some (159, false), .mv (.t 20)⟩, ⟨(some 161), some (159, false), .bin .neq (.t 160) (.c (.int .i64 0))⟩, ⟨(some 162), none, .pick (.t 159) (.c (.bool true)) (.t 161)⟩, ⟨(some 163), none, .mv (.t 162)⟩, ⟨(some 164), some (163, false), .mv (.t 17)⟩, ⟨(some 165), some (163, false), .mv (.t 19)⟩, ⟨(some 166), some (163, false), .bin .neq (.t 164) (.t 165)⟩, ⟨(some 167), none, .pick (.t 163) (.c (.bool true)) (.t 166)⟩])
  (.cond (.t 167) (.seq (.ops [⟨(some 2), none, .mv (.c (.bool false))⟩])
  .ret) .skip)))) .skip))))))) .skip))
  (.seq (.ops [⟨(some 168), none, .mv (.t 0)⟩, ⟨(some 169), none, .call (.c (.fn (.func 52) [] [])) [(.t 168)]⟩, ⟨(some 21), none, .alloc [.int .i64 0, .int .i64 0, .int .i64 0, .int .i64 0, .int .i64 0, .int .i64 0]⟩, ⟨none, none, .store 6 (.t 21) (.t 169)⟩])
  (.seq (.ops [⟨(some 171), none, .load true 6 (.t 21)⟩, ⟨(some 172), none, .call (.c (.fn (.func 53) [] [])) [(.t 171)]⟩, ⟨(some 170), none, .mv (.t 172)⟩, ⟨(some 173), none, .extr 0 (.t 170)⟩, ⟨(some 174), none, .extr 1 (.t 170)⟩, ⟨(some 175), none, .extr 2 (.t 170)⟩, ⟨(some 22), none, .mv (.t 173)⟩, ⟨(some 23), none, .mv (.t 174)⟩, ⟨(some 24), none, .mv (.t 175)⟩])
  (.seq (.ops [⟨(some 177), none, .load true 6 (.t 21)⟩, ⟨(some 178), none, .call (.c (.fn (.func 54) [] [])) [(.t 177)]⟩, ⟨(some 176), none, .mv (.t 178)⟩, ⟨(some 179), none, .extr 0 (.t 176)⟩, ⟨(some 180), none, .extr 1 (.t 176)⟩, ⟨(some 181), none, .extr 2 (.t 176)⟩, ⟨(some 25), none, .mv (.t 179)⟩, ⟨(some 26), none, .mv (.t 180)⟩, ⟨(some 27), none, .mv (.t 181)⟩])
  (.seq (.ops [⟨(some 183), none, .load true 6 (.t 21)⟩, ⟨(some 184), none, .call (.c (.fn (.func 55) [] [])) [(.t 183)]⟩, ⟨(some 182), none, .mv (.t 184)⟩, ⟨(some 185), none, .extr 0 (.t 182)⟩, ⟨(some 186), none, .extr 1 (.t 182)⟩, ⟨(some 28), none, .mv (.t 185)⟩, ⟨(some 29), none, .mv (.t 186)⟩])
  (.seq (.ops [⟨(some 188), none, .load true 6 (.t 21)⟩, ⟨(some 189), none, .call (.c (.fn (.func 56) [] [])) [(.t 188)]⟩, ⟨(some 187), none, .mv (.t 189)⟩, ⟨(some 190), none, .extr 0 (.t 187)⟩, ⟨(some 191), none, .extr 1 (.t 187)⟩, ⟨(some 30), none, .mv (.t 190)⟩, ⟨(some 31), none, .mv (.t 191)⟩])
  (.seq (.seq (.ops [⟨(some 192), none, .mv (.t 24)⟩, ⟨(some 193), none, .mv (.t 27)⟩, ⟨(some 194), none, .bin .neq (.t 192) (.t 193)⟩, ⟨(some 195), none, .mv (.t 194)⟩, ⟨(some 196), some (195, false), .mv (.t 22)⟩, ⟨(some 197), some (195, false), .mv (.t 25)⟩, ⟨(some 198), some (195, false), .bin .neq (.t 196) (.t 197)⟩, ⟨(some 199), none, .pick (.t 195) (.c (.bool true)) (.t 198)⟩, ⟨(some 200), none, .mv (.t 199)⟩, ⟨(some 201), some (200, false), .mv (.t 23)⟩, ⟨(some 202), some (200, false), .mv (.t 26)⟩, ⟨(some 203), some (200, false), .bin .neq (.t 201) (.t 202)⟩, ⟨(some 204), none, .pick (.t 200) (.c (.bool true)) (.t 203)⟩, ⟨(some 205), none, .mv (.t 204)⟩, ⟨(some 206), some (205, false), .mv (.t 29)⟩, ⟨(some 207), some (205, false), .mv (.t 31)⟩, ⟨(some 208), some (205, false), .bin .neq (.t 206) (.t 207)⟩, ⟨(some 209), none, .pick (.t 205) (.c (.bool true)) (.t 208)⟩, ⟨(some 210), none, .mv (.t 209)⟩, ⟨(some 211), some (210, false), .mv (.t 28)⟩, ⟨(some 212), some (210, false), .mv (.t 30)⟩, ⟨(some 213), some (210, false), .bin .neq (.t 211) (.t 212)⟩, ⟨(some 214), none, .pick (.t 210) (.c (.bool true)) (.t 213)⟩])
  (.cond (.t 214) (.seq (.ops [⟨(some 2), none, .mv (.c (.bool false))⟩])
  .ret) .skip))
  (.seq (.seq (.ops [⟨(some 215), none, .mv (.t 24)⟩, ⟨(some 216), none, .bin .eql (.t 215) (.c (.int .i64 0))⟩])
  (.cond (.t 216) (.seq (.ops [⟨(some 32), none, .mv (.c (.int .i64 1))⟩])
  (.seq (.seq (.ops [⟨(some 33), none, .mv (.c (.int .i64 2))⟩])
  (.block 0 (.loop k5_b0)))
  (.seq (.ops [⟨(some 226), none, .mv (.t 22)⟩, ⟨(some 227), none, .mv (.t 23)⟩, ⟨(some 228), none, .bin .mul (.t 226) (.t 227)⟩, ⟨(some 229), none, .mv (.t 32)⟩, ⟨(some 230), none, .bin .neq (.t 228) (.t 229)⟩, ⟨(some 231), none, .mv (.t 230)⟩, ⟨(some 232), some (231, false), .mv (.t 28)⟩, ⟨(some 233), some (231, false), .mv (.t 23)⟩, ⟨(some 234), some (231, false), .bin .lss (.t 232) (.t 233)⟩, ⟨(some 235), none, .pick (.t 231) (.c (.bool true)) (.t 234)⟩])
  (.cond (.t 235) (.seq (.ops [⟨(some 2), none, .mv (.c (.bool false))⟩])
  .ret) .skip)))) .skip))
  (.seq (.ops [⟨(some 237), none, .mv (.t 0)⟩, ⟨(some 238), none, .call (.c (.fn (.func 57) [] [])) [(.t 237)]⟩, ⟨(some 236), none, .mv (.t 238)⟩, ⟨(some 239), none, .extr 0 (.t 236)⟩, ⟨(some 240), none, .extr 1 (.t 236)⟩, ⟨(some 34), none, .alloc [.int .i64 0, .int .i64 0, .int .i64 0, .int .i64 0, .int .i64 0, .int .i64 0]⟩, ⟨none, none, .store 6 (.t 34) (.t 239)⟩, ⟨(some 35), none, .mv (.t 240)⟩])
  (.seq (.ops [⟨(some 242), none, .load true 6 (.t 34)⟩, ⟨(some 243), none, .mv (.t 35)⟩, ⟨(some 244), none, .call (.c (.fn (.func 58) [] [])) [(.t 242), (.t 243)]⟩, ⟨(some 241), none, .mv (.t 244)⟩, ⟨(some 245), none, .extr 0 (.t 241)⟩, ⟨(some 246), none, .extr 1 (.t 241)⟩, ⟨(some 36), none, .alloc [.int .i64 0, .int .i64 0, .int .i64 0, .int .i64 0, .int .i64 0, .int .i64 0]⟩, ⟨none, none, .store 6 (.t 36) (.t 245)⟩, ⟨(some 37), none, .mv (.t 246)⟩])
  (.seq (.ops [⟨(some 248), none, .load true 6 (.t 34)⟩, ⟨(some 249), none, .mv (.t 35)⟩, ⟨(some 250), none, .call (.c (.fn (.func 59) [] [])) [(.t 248), (.t 249)]⟩, ⟨(some 247), none, .mv (.t 250)⟩, ⟨(some 251), none, .extr 0 (.t 247)⟩, ⟨(some 252), none, .extr 1 (.t 247)⟩, ⟨(some 38), none, .alloc [.int .i64 0, .int .i64 0, .int .i64 0, .int .i64 0, .int .i64 0, .int .i64 0]⟩, ⟨none, none, .store 6 (.t 38) (.t 251)⟩, ⟨(some 39), none, .mv (.t 252)⟩])
  (.seq (.seq (.ops [⟨(some 253), none, .mv (.t 37)⟩, ⟨(some 254), none, .mv (.t 39)⟩, ⟨(some 255), none, .bin .neq (.t 253) (.t 254)⟩, ⟨(some 256), none, .mv (.t 255)⟩, ⟨(some 257), some (256, false), .load true 6 (.t 36)⟩, ⟨(some 258), some (256, false), .load true 6 (.t 38)⟩, ⟨(some 259), some (256, false), .aeq true 6 (.t 257) (.t 258)⟩, ⟨(some 260), none, .pick (.t 256) (.c (.bool true)) (.t 259)⟩])
  (.cond (.t 260) (.seq (.ops [⟨(some 2), none, .mv (.c (.bool false))⟩])
  .ret) .skip))
  (.seq (.seq (.ops [⟨(some 261), none, .mv (.t 37)⟩, ⟨(some 262), none, .bin .eql (.t 261) (.c (.int .i64 0))⟩])
  (.cond (.t 262) (.seq (.ops [⟨(some 264), none, .load true 6 (.t 36)⟩, ⟨(some 265), none, .mv (.t 35)⟩, ⟨(some 266), none, .call (.c (.fn (.func 60) [] [])) [(.t 264), (.t 265)]⟩, ⟨(some 263), none, .mv (.t 266)⟩, ⟨(some 267), none, .extr 0 (.t 263)⟩, ⟨(some 268), none, .extr 1 (.t 263)⟩, ⟨(some 40), none, .alloc [.int .i64 0, .int .i64 0, .int .i64 0, .int .i64 0, .int .i64 0, .int .i64 0]⟩, ⟨none, none, .store 6 (.t 40) (.t 267)⟩, ⟨(some 41), none, .mv (.t 268)⟩])
  (.seq (.ops [⟨(some 270), none, .load true 6 (.t 36)⟩, ⟨(some 271), none, .load true 6 (.t 34)⟩, ⟨(some 272), none, .call (.c (.fn (.func 45) [] [])) [(.t 270), (.t 271)]⟩, ⟨(some 269), none, .mv (.t 272)⟩, ⟨(some 273), none, .extr 0 (.t 269)⟩, ⟨(some 274), none, .extr 1 (.t 269)⟩, ⟨(some 42), none, .alloc [.int .i64 0, .int .i64 0, .int .i64 0, .int .i64 0, .int .i64 0, .int .i64 0]⟩, ⟨none, none, .store 6 (.t 42) (.t 273)⟩, ⟨(some 43), none, .mv (.t 274)⟩])
  (.seq (.ops [⟨(some 276), none, .load true 6 (.t 34)⟩, ⟨(some 277), none, .load true 6 (.t 36)⟩, ⟨(some 278), none, .call (.c (.fn (.func 45) [] [])) [(.t 276), (.t 277)]⟩, ⟨(some 275), none, .mv (.t 278)⟩, ⟨(some 279), none, .extr 0 (.t 275)⟩, ⟨(some 280), none, .extr 1 (.t 275)⟩, ⟨(some 44), none, .alloc [.int .i64 0, .int .i64 0, .int .i64 0, .int .i64 0, .int .i64 0, .int .i64 0]⟩, ⟨none, none, .store 6 (.t 44) (.t 279)⟩, ⟨(some 45), none, .mv (.t 280)⟩])
  (.seq (.ops [⟨(some 281), none, .mv (.t 41)⟩, ⟨(some 282), none, .bin .neq (.t 281) (.c (.int .i64 0))⟩, ⟨(some 283), none, .mv (.t 282)⟩, ⟨(some 284), some (283, false), .mv (.t 43)⟩, ⟨(some 285), some (283, false), .bin .neq (.t 284) (.c (.int .i64 0))⟩, ⟨(some 286), none, .pick (.t 283) (.c (.bool true)) (.t 285)⟩, ⟨(some 287), none, .mv (.t 286)⟩, ⟨(some 288), some (287, false), .mv (.t 45)⟩, ⟨(some 289), some (287, false), .bin .neq (.t 288) (.c (.int .i64 0))⟩, ⟨(some 290), none, .pick (.t 287) (.c (.bool true)) (.t 289)⟩, ⟨(some 291), none, .mv (.t 290)⟩, ⟨(some 292), some (291, false), .load true 6 (.t 40)⟩, ⟨(some 293), some (291, false), .load true 6 (.t 34)⟩, ⟨(some 294), some (291, false), .aeq true 6 (.t 292) (.t 293)⟩, ⟨(some 295), none, .pick (.t 291) (.c (.bool true)) (.t 294)⟩, ⟨(some 296), none, .mv (.t 295)⟩, ⟨(some 297), some (296, false), .load true 6 (.t 42)⟩, ⟨(some 298), some (296, false), .load true 6 (.t 44)⟩, ⟨(some 299), some (296, false), .aeq true 6 (.t 297) (.t 298)⟩, ⟨(some 300), none, .pick (.t 296) (.c (.bool true)) (.t 299)⟩])
  (.cond (.t 300) (.seq (.ops [⟨(some 2), none, .mv (.c (.bool false))⟩])
  .ret) .skip))))) .skip))
  (.seq (.ops [⟨(some 302), none, .mv (.t 0)⟩, ⟨(some 303), none, .call (.c (.fn (.func 61) [] [])) [(.t 302)]⟩, ⟨(some 301), none, .mv (.t 303)⟩, ⟨(some 304), none, .extr 0 (.t 301)⟩, ⟨(some 305), none, .extr 1 (.t 301)⟩, ⟨(some 46), none, .alloc [.int .i64 0, .int .i64 0, .int .i64 0, .int .i64 0, .int .i64 0, .int .i64 0]⟩, ⟨none, none, .store 6 (.t 46) (.t 304)⟩, ⟨(some 47), none, .mv (.t 305)⟩])
  (.seq (.ops [⟨(some 307), none, .load true 6 (.t 46)⟩, ⟨(some 308), none, .mv (.t 47)⟩, ⟨(some 309), none, .call (.c (.fn (.func 51) [] [])) [(.t 307), (.t 308)]⟩, ⟨(some 306), none, .mv (.t 309)⟩, ⟨(some 310), none, .extr 0 (.t 306)⟩, ⟨(some 311), none, .extr 1 (.t 306)⟩, ⟨(some 48), none, .mv (.t 310)⟩, ⟨(some 49), none, .mv (.t 311)⟩])
  (.seq (.ops [⟨(some 313), none, .load true 6 (.t 46)⟩, ⟨(some 314), none, .mv (.t 47)⟩, ⟨(some 315), none, .call (.c (.fn (.func 62) [] [])) [(.t 313), (.t 314)]⟩, ⟨(some 312), none, .mv (.t 315)⟩, ⟨(some 316), none, .extr 0 (.t 312)⟩, ⟨(some 317), none, .extr 1 (.t 312)⟩, ⟨(some 50), none, .mv (.t 316)⟩, ⟨(some 51), none, .mv (.t 317)⟩])
  (.seq (.ops [⟨(some 318), none, .mv (.t 0)⟩, ⟨(some 319), none, .call (.c (.fn (.func 63) [] [])) [(.t 318)]⟩, ⟨(some 52), none, .alloc [.int .i64 0, .int .i64 0, .int .i64 0, .int .i64 0, .int .i64 0, .int .i64 0]⟩, ⟨none, none, .store 6 (.t 52) (.t 319)⟩])
  (.seq (.ops [⟨(some 321), none, .load true 6 (.t 52)⟩, ⟨(some 322), none, .call (.c (.fn (.func 50) [] [])) [(.t 321)]⟩, ⟨(some 320), none, .mv (.t 322)⟩, ⟨(some 323), none, .extr 0 (.t 320)⟩, ⟨(some 324), none, .extr 1 (.t 320)⟩, ⟨(some 53), none, .alloc [.int .i64 0, .int .i64 0, .int .i64 0, .int .i64 0, .int .i64 0, .int .i64 0]⟩, ⟨none, none, .store 6 (.t 53) (.t 323)⟩, ⟨(some 54), none, .mv (.t 324)⟩])
  (.seq (.ops [⟨(some 326), none, .load true 6 (.t 52)⟩, ⟨(some 327), none, .call (.c (.fn (.func 64) [] [])) [(.t 326)]⟩, ⟨(some 325), none, .mv (.t 327)⟩, ⟨(some 328), none, .extr 0 (.t 325)⟩, ⟨(some 329), none, .extr 1 (.t 325)⟩, ⟨(some 55), none, .alloc [.int .i64 0, .int .i64 0, .int .i64 0, .int .i64 0, .int .i64 0, .int .i64 0]⟩, ⟨none, none, .store 6 (.t 55) (.t 328)⟩, ⟨(some 56), none, .mv (.t 329)⟩])
  (.seq (.ops [⟨(some 330), none, .mv (.t 0)⟩, ⟨(some 331), none, .call (.c (.fn (.func 65) [] [])) [(.t 330)]⟩, ⟨(some 57), none, .alloc [.int .i64 0, .int .i64 0, .int .i64 0, .int .i64 0, .int .i64 0, .int .i64 0]⟩, ⟨none, none, .store 6 (.t 57) (.t 331)⟩])
  (.seq (.ops [⟨(some 333), none, .load true 6 (.t 57)⟩, ⟨(some 334), none, .call (.c (.fn (.func 25) [] [])) [(.t 333)]⟩, ⟨(some 332), none, .mv (.t 334)⟩, ⟨(some 335), none, .extr 0 (.t 332)⟩, ⟨(some 336), none, .extr 1 (.t 332)⟩, ⟨(some 58), none, .mv (.t 335)⟩, ⟨(some 59), none, .mv (.t 336)⟩])
  (.seq (.ops [⟨(some 338), none, .load true 6 (.t 57)⟩, ⟨(some 339), none, .call (.c (.fn (.func 66) [] [])) [(.t 338)]⟩, ⟨(some 337), none, .mv (.t 339)⟩, ⟨(some 340), none, .extr 0 (.t 337)⟩, ⟨(some 341), none, .extr 1 (.t 337)⟩, ⟨(some 60), none, .mv (.t 340)⟩, ⟨(some 61), none, .mv (.t 341)⟩])
  (.seq (.ops [⟨(some 342), none, .mv (.t 49)⟩, ⟨(some 343), none, .mv (.t 51)⟩, ⟨(some 344), none, .bin .eql (.t 342) (.t 343)⟩, ⟨(some 345), none, .mv (.t 344)⟩, ⟨(some 346), some (345, true), .mv (.t 48)⟩, ⟨(some 347), some (345, true), .mv (.t 50)⟩, ⟨(some 348), some (345, true), .bin .eql (.t 346) (.t 347)⟩, ⟨(some 349), none, .pick (.t 345) (.t 348) (.c (.bool false))⟩, ⟨(some 350), none, .mv (.t 349)⟩, ⟨(some 351), some (350, true), .mv (.t 54)⟩, ⟨(some 352), some (350, true), .mv (.t 56)⟩, ⟨(some 353), some (350, true), .bin .eql (.t 351) (.t 352)⟩, ⟨(some 354), none, .pick (.t 350) (.t 353) (.c (.bool false))⟩, ⟨(some 355), none, .mv (.t 354)⟩, ⟨(some 356), some (355, true), .load true 6 (.t 53)⟩, ⟨(some 357), some (355, true), .load true 6 (.t 55)⟩, ⟨(some 358), some (355, true), .aeq false 6 (.t 356) (.t 357)⟩, ⟨(some 359), none, .pick (.t 355) (.t 358) (.c (.bool false))⟩, ⟨(some 360), none, .mv (.t 359)⟩, ⟨(some 361), some (360, true), .mv (.t 59)⟩, ⟨(some 362), some (360, true), .mv (.t 61)⟩, ⟨(some 363), some (360, true), .bin .eql (.t 361) (.t 362)⟩, ⟨(some 364), none, .pick (.t 360) (.t 363) (.c (.bool false))⟩, ⟨(some 365), none, .mv (.t 364)⟩, ⟨(some 366), some (365, true), .mv (.t 58)⟩, ⟨(some 367), some (365, true), .mv (.t 60)⟩, ⟨(some 368), some (365, true), .call (.c (.fn (.func 14) [] [])) [(.t 366), (.t 367)]⟩, ⟨(some 369), none, .pick (.t 365) (.t 368) (.c (.bool false))⟩, ⟨(some 2), none, .mv (.t 369)⟩])
  .ret)))))))))))))))))))))))))))))
theorem e5 {args : List PV} {σ : Heap} {K : PV → Heap → Prop} (hl : args.length ≤ 370) (h : Wf σ → (∀ a ∈ args, PV.upto σ.length a) → vc (mkCfg Tryz.prog mixed [] 370 σ.length) k5 (FinK σ.length [.t 2] K) (argEnv 0 args) σ) : ACall Tryz.prog 5 args σ K :=
  ACall_enter (C := mkCfg Tryz.prog mixed [] 370 σ.length) (c := Tryz.f5.body.getD .skip) Tryz.func5 (by kernel_rfl) (by kernel_rfl) (by kernel_rfl) rfl hl (by kernel_rfl) (by kernel_rfl) h
end Go.Proofs.YtpfapiiinkkcgaaGreat
namespace Go.Proofs.YtpfapiiinkkcgaaGreat
open Go.Kv
set_option linter.unusedVariables false
set_option linter.unusedSimpArgs false
attribute [local irreducible] ACall PCall KL
attribute [local go_sem] take6 List.drop_zero Int.cast_ofNat_Int OpK_eq HKv bne_self_eq_false decide_true Bool.not_true beq_self_eq_true Bool.not_false
theorem goD1 {f : FuncId} {args : List PV} [StillL args] {σ : Heap} {K : PV → Heap → Prop} (h : ∀ K : PV → Heap → Prop, (∀ m : List Int, m.length = 6 → K (.agg (ints m)) []) → ACall Tryz.prog f args [] K) (hK : ∀ m : List Int, m.length = 6 → K (.agg (ints m)) σ) : ACall Tryz.prog f args σ K := by
  refine ACall.go (h (fun v s => ∃ m : List Int, m.length = 6 ∧ v = .agg (ints m) ∧ s = []) fun m h6 => ⟨m, h6, rfl, rfl⟩) fun v s ⟨m, h6, hv, hs⟩ => ?_
  subst hv; subst hs
  have := hK m h6
  simpa only [ren_agg, ren_ints, List.map_nil, List.append_nil] using this
theorem goD2 {f : FuncId} {args : List PV} [StillL args] {σ : Heap} {K : PV → Heap → Prop} (h : ∀ K : PV → Heap → Prop, (∀ (m : List Int) (k : Int), m.length = 6 → K (.tup [.agg (ints m), .int .i64 k]) []) → ACall Tryz.prog f args [] K) (hK : ∀ (m : List Int) (k : Int), m.length = 6 → K (.tup [.agg (ints m), .int .i64 k]) σ) : ACall Tryz.prog f args σ K := by
  refine ACall.go (h (fun v s => ∃ (m : List Int) (k : Int), m.length = 6 ∧ v = .tup [.agg (ints m), .int .i64 k] ∧ s = []) fun m k h6 => ⟨m, k, h6, rfl, rfl⟩) fun v s ⟨m, k, h6, hv, hs⟩ => ?_
  subst hv; subst hs
  have := hK m k h6
  simpa only [ren_tup, ren_agg, ren_int, ren_ints, List.map_cons, List.map_nil, List.append_nil] using this
theorem facN_le : ∀ n, n < 7 → facN n ≤ 720 := by decide
theorem facLoop {l h : List Int} {n : Nat} (h6 : h.length = 6) (hn : h.getD 0 0 = n) (h1 : 1 ≤ n) (h5 : n ≤ 5) {σ : Heap} {id : Nat} (hid : σ[id]? = some (.box (ints h))) {v22 v23 v28 : PV} {Q : Exit → Env → Heap → Prop} {env : Env}
    (hE : keep [0, 21, 22, 23, 28, 32, 33] env = [(0, .list (u8s l)), (21, .ptr id 0), (22, v22), (23, v23), (28, v28), (32, .int .i64 1), (33, .int .i64 2)])
    (hQ : ∀ env', keep [0, 22, 23, 28, 32] env' = [(0, .list (u8s l)), (22, v22), (23, v23), (28, v28), (32, .int .i64 (facN n))] → Q (.exit 0) env' σ) : KL (mkCfg Tryz.prog mixed [] 370 0) k5_b0 Q env σ := by
  have hil : (ints h).length = 6 := by rw [ints_length, h6]
  refine KL_ind k5_b0.eq_1 (fun x : Nat => [(0, .list (u8s l)), (21, .ptr id 0), (22, v22), (23, v23), (28, v28), (32, .int .i64 (facN x)), (33, .int .i64 (x + 1 : Nat))]) (fun _ => σ) (fun x => 1 ≤ x ∧ x ≤ n) (fun x => n - x) [0, 21, 22, 23, 28, 32, 33] 1 hE rfl ⟨Nat.le_refl _, h1⟩ fun x ⟨hx1, hx⟩ ih => ?_
  try simp only [hid, hil, hn, h6, go_sem, ↓reduceIte, Nat.reduceEqDiff, Nat.reduceAdd, Nat.reduceMul, Nat.reduceLeDiff, Nat.reduceLT, Int.reduceLE, Int.reduceLT, reduceCtorEq]
  have hb := facN_le (x + 1) (by omega)
  have e : ((facN (x + 1) : Nat) : Int) = (facN x : Int) * ((x + 1 : Nat) : Int) := by rw [facN, Int.natCast_mul]
  rw [← e]
  refine ⟨fun g1 => ⟨by omega, by omega, ih (x + 1) ⟨by omega, by omega⟩ (by omega) _ _ (by simp [keep]) rfl⟩, fun g1 => ?_⟩
  obtain rfl : x = n := by omega
  exact hQ _ (by simp [keep])
theorem pow_comm {g : List Nat} {n j : Nat} (hg : Ok g n) : mul (itM g n j) g = mul g (itM g n j) := by
  have h1 := itM_mul hg j 1
  have h2 := itM_mul hg 1 j
  rw [itM_one hg] at h1 h2
  rw [h1, h2, Nat.add_comm]
theorem mp_bne {f g : List Nat} : decide (mp f = mp g) = decide (f = g) := decide_eq_decide.2 ⟨mp_inj, fun h => by rw [h]⟩
set_option maxRecDepth 100000 in
set_option maxHeartbeats 8000000 in
theorem p5 (l : List Int) (hl : l.length ≤ 9223372036854775807) (hb : ∀ z ∈ l, 0 ≤ z ∧ z ≤ 255) : Pure Tryz.prog 5 [.list (u8s l)] (.bool true) := by
  refine e5 (by simp) fun _ _ => ?_
  simp only [k5, argEnv, take6, List.drop_zero, Int.cast_ofNat_Int, go_sem, ↓reduceIte, Nat.reduceEqDiff, Nat.reduceAdd, Nat.reduceMul, Nat.reduceLeDiff, Nat.reduceLT, Int.reduceLE, Int.reduceLT, reduceCtorEq]
  refine (p6 l hl).go ?_
  try simp only [go_sem, ↓reduceIte, Nat.reduceEqDiff, Nat.reduceAdd, Nat.reduceMul, Nat.reduceLeDiff, Nat.reduceLT, Int.reduceLE, Int.reduceLT, reduceCtorEq]
  refine ⟨fun h => Kv.Fin.still ⟨rfl, rfl⟩, fun hbig => ?_⟩
  have hB : Byt l := ⟨by omega, hb⟩
  refine p47 hB fun m k h6 h6' => ?_
  obtain ⟨b, r, hi1, hs1, hc1⟩ := sm_loc m k h6 h6'
  have hilm : (ints m).length = 6 := by rw [ints_length, h6]
  have hilk : (ints k).length = 6 := by rw [ints_length, h6']
  try simp only [hilm, hilk, h6, h6', go_sem, ↓reduceIte, Nat.reduceEqDiff, Nat.reduceAdd, Nat.reduceMul, Nat.reduceLeDiff, Nat.reduceLT, Int.reduceLE, Int.reduceLT, reduceCtorEq]
  refine hi1.go ?_
  try simp only [hilm, hilk, h6, h6', go_sem, ↓reduceIte, Nat.reduceEqDiff, Nat.reduceAdd, Nat.reduceMul, Nat.reduceLeDiff, Nat.reduceLT, Int.reduceLE, Int.reduceLT, reduceCtorEq]
  refine hs1.go ?_
  try simp only [hilm, hilk, h6, h6', go_sem, ↓reduceIte, Nat.reduceEqDiff, Nat.reduceAdd, Nat.reduceMul, Nat.reduceLeDiff, Nat.reduceLT, Int.reduceLE, Int.reduceLT, reduceCtorEq]
  rcases hc1 with ⟨rfl, f, g, n, hf, hg, rfl, rfl, hbe⟩ | hr
  rotate_left
  refine ⟨fun h => absurd h hr, fun _ => ?_⟩
  rotate_left
  refine ⟨fun _ => ?_, fun h => absurd rfl h⟩
  have hLf := p50 f n hf
  have hLg := p50 g n hg
  have lf6 := (lsf_orb hf).1.mp_len
  have lg6 := (lsf_orb hg).1.mp_len
  have hilf : (ints (mp (lsf f (prm n)))).length = 6 := by rw [ints_length, lf6]
  have hilg : (ints (mp (lsf g (prm n)))).length = 6 := by rw [ints_length, lg6]
  have hpt : (mp f).getD 0 0 = (n : Int) := by rw [mp, hf.len]; rfl
  refine hLf.go ?_
  try simp only [hilm, hilk, h6, h6', hilf, hilg, lf6, lg6, go_sem, ↓reduceIte, Nat.reduceEqDiff, Nat.reduceAdd, Nat.reduceMul, Nat.reduceLeDiff, Nat.reduceLT, Int.reduceLE, Int.reduceLT, reduceCtorEq]
  refine hLg.go ?_
  try simp only [hilm, hilk, h6, h6', hilf, hilg, lf6, lg6, go_sem, ↓reduceIte, Nat.reduceEqDiff, Nat.reduceAdd, Nat.reduceMul, Nat.reduceLeDiff, Nat.reduceLT, Int.reduceLE, Int.reduceLT, reduceCtorEq]
  refine (NewIO.frozen (p25_in f n hf)).go ?_
  try simp only [hilm, hilk, h6, h6', hilf, hilg, lf6, lg6, go_sem, ↓reduceIte, Nat.reduceEqDiff, Nat.reduceAdd, Nat.reduceMul, Nat.reduceLeDiff, Nat.reduceLT, Int.reduceLE, Int.reduceLT, reduceCtorEq]
  refine (NewIO.frozen (p25_in g n hg)).go ?_
  try simp only [hilm, hilk, h6, h6', hilf, hilg, lf6, lg6, mp_bne, ← hbe, go_sem, ↓reduceIte, Nat.reduceEqDiff, Nat.reduceAdd, Nat.reduceMul, Nat.reduceLeDiff, Nat.reduceLT, Int.reduceLE, Int.reduceLT, reduceCtorEq]
  refine ⟨fun hbt => ?_, fun hbf => ?_⟩
  rotate_left
  subst hbf
  try simp only [hilm, hilk, h6, h6', hpt, go_sem, ↓reduceIte, Nat.reduceEqDiff, Nat.reduceAdd, Nat.reduceMul, Nat.reduceLeDiff, Nat.reduceLT, Int.reduceLE, Int.reduceLT, reduceCtorEq]
  rotate_left
  rotate_left
  have horb := lsf_same hf hg (of_decide_eq_true (hbe.symm.trans hbt))
  have hlen := lens_same hf hg horb
  have hrts := rts_same hf hg horb 2
  have hCf := p51 f n 2 hf (by omega) (by omega)
  have hCg := p51 g n 2 hg (by omega) (by omega)
  rw [hrts] at hCf
  have hLI := p14 (negs (srt (negs (lens g n n)))) (by have := lens_few hg; omega)
  subst hbt
  rw [hlen]
  refine hLI.go ?_
  try simp only [hilm, hilk, h6, h6', hpt, go_sem, ↓reduceIte, Nat.reduceEqDiff, Nat.reduceAdd, Nat.reduceMul, Nat.reduceLeDiff, Nat.reduceLT, Int.reduceLE, Int.reduceLT, reduceCtorEq]
  refine ⟨fun _ => ?_, fun _ => ?_⟩
  refine hCf.go ?_
  try simp only [hilm, hilk, h6, h6', hpt, go_sem, ↓reduceIte, Nat.reduceEqDiff, Nat.reduceAdd, Nat.reduceMul, Nat.reduceLeDiff, Nat.reduceLT, Int.reduceLE, Int.reduceLT, reduceCtorEq]
  refine hCg.go ?_
  try simp only [hilm, hilk, h6, h6', hpt, go_sem, ↓reduceIte, Nat.reduceEqDiff, Nat.reduceAdd, Nat.reduceMul, Nat.reduceLeDiff, Nat.reduceLT, Int.reduceLE, Int.reduceLT, reduceCtorEq]
  clear hLI hCf hCg hlen hrts
  all_goals refine goD1 (fun K hK => p52 hB hK) fun h hh6 => ?_
  all_goals obtain ⟨a1, a2, a3, r2, ci, cs, di, ds, hc2⟩ := cs_loc h hh6
  all_goals have hilh : (ints h).length = 6 := by rw [ints_length, hh6]
  all_goals try simp only [hilh, hh6, go_sem, ↓reduceIte, Nat.reduceEqDiff, Nat.reduceAdd, Nat.reduceMul, Nat.reduceLeDiff, Nat.reduceLT, Int.reduceLE, Int.reduceLT, reduceCtorEq]
  all_goals refine ci.go ?_
  all_goals try simp only [hilh, hh6, go_sem, ↓reduceIte, Nat.reduceEqDiff, Nat.reduceAdd, Nat.reduceMul, Nat.reduceLeDiff, Nat.reduceLT, Int.reduceLE, Int.reduceLT, reduceCtorEq]
  all_goals refine cs.go ?_
  all_goals try simp only [hilh, hh6, go_sem, ↓reduceIte, Nat.reduceEqDiff, Nat.reduceAdd, Nat.reduceMul, Nat.reduceLeDiff, Nat.reduceLT, Int.reduceLE, Int.reduceLT, reduceCtorEq]
  all_goals refine di.go ?_
  all_goals try simp only [hilh, hh6, go_sem, ↓reduceIte, Nat.reduceEqDiff, Nat.reduceAdd, Nat.reduceMul, Nat.reduceLeDiff, Nat.reduceLT, Int.reduceLE, Int.reduceLT, reduceCtorEq]
  all_goals refine ds.go ?_
  all_goals try simp only [hilh, hh6, go_sem, ↓reduceIte, Nat.reduceEqDiff, Nat.reduceAdd, Nat.reduceMul, Nat.reduceLeDiff, Nat.reduceLT, Int.reduceLE, Int.reduceLT, reduceCtorEq]
  all_goals refine ⟨fun hr2 => ?_, fun hr2 => ?_⟩
  rotate_left
  rotate_left
  all_goals try (rcases hc2 with ⟨_, n2, j1, j5, jn, jm, jc, j0⟩ | hne
                 rotate_left
                 exact absurd hr2 hne)
  all_goals try (first
                  | refine facLoop (l := l) (h := h) (id := 4) (v22 := .int .i64 a1) (v23 := .int .i64 a2) (v28 := .int .i64 a3) hh6 jn j1 j5 rfl (by simp [keep]) fun env' hk => ?_
                  | refine facLoop (l := l) (h := h) (id := 2) (v22 := .int .i64 a1) (v23 := .int .i64 a2) (v28 := .int .i64 a3) hh6 jn j1 j5 rfl (by simp [keep]) fun env' hk => ?_
                 obtain ⟨k0, k22, k23, k28, k32⟩ : Kv.look env' 0 = PV.list (u8s l) ∧ Kv.look env' 22 = PV.int .i64 a1 ∧ Kv.look env' 23 = PV.int .i64 a2 ∧ Kv.look env' 28 = PV.int .i64 a3 ∧ Kv.look env' 32 = PV.int .i64 (facN n2) := by simpa [keep] using hk
                 have hfb := facN_le n2 (by omega)
                 try simp only [k0, k22, k23, k28, k32, jm, go_sem, ↓reduceIte, Nat.reduceEqDiff, Nat.reduceAdd, Nat.reduceMul, Nat.reduceLeDiff, Nat.reduceLT, Int.reduceLE, Int.reduceLT, reduceCtorEq]
                 refine ⟨⟨by omega, by omega⟩, fun h => absurd h (by omega), fun _ => ?_⟩)
  all_goals try rw [k0]
  all_goals refine goD2 (fun K hK => p57 hB hK) fun u k5 u6 => ?_
  all_goals obtain ⟨w, r5, w6, fi, fs, hc5⟩ := fr_loc u k5 u6
  all_goals have hilu : (ints u).length = 6 := by rw [ints_length, u6]
  all_goals have hilw : (ints w).length = 6 := by rw [ints_length, w6]
  all_goals try simp only [hilu, u6, go_sem, ↓reduceIte, Nat.reduceEqDiff, Nat.reduceAdd, Nat.reduceMul, Nat.reduceLeDiff, Nat.reduceLT, Int.reduceLE, Int.reduceLT, reduceCtorEq]
  all_goals refine fi.go ?_
  all_goals try simp only [hilu, u6, hilw, w6, go_sem, ↓reduceIte, Nat.reduceEqDiff, Nat.reduceAdd, Nat.reduceMul, Nat.reduceLeDiff, Nat.reduceLT, Int.reduceLE, Int.reduceLT, reduceCtorEq]
  all_goals refine fs.go ?_
  all_goals try simp only [hilu, u6, hilw, w6, go_sem, ↓reduceIte, Nat.reduceEqDiff, Nat.reduceAdd, Nat.reduceMul, Nat.reduceLeDiff, Nat.reduceLT, Int.reduceLE, Int.reduceLT, reduceCtorEq]
  all_goals refine ⟨fun hr5 => ?_, fun hr5 => ?_⟩
  all_goals try (rcases hc5 with ⟨_, f', g', n', j, hf', hg', rfl, rfl, rfl, hj, hpw⟩ | hne
                 rotate_left
                 exact absurd hr5 hne
                 have hcm := pow_comm (j := j) hg'
                 rw [hpw] at hcm
                 have hPw := p60 g' n' j hg' (by omega)
                 rw [hpw] at hPw
                 have hPa := p45 g' f' n' hg' hf'
                 have hPb := p45 f' g' n' hf' hg'
                 rw [hcm] at hPb
                 have pr6 := (hg'.mul hf').mp_len
                 have hilp : (ints (mp (mul g' f'))).length = 6 := by rw [ints_length, pr6]
                 refine hPw.go ?_
                 try simp only [hilu, u6, hilw, w6, hilp, pr6, go_sem, ↓reduceIte, Nat.reduceEqDiff, Nat.reduceAdd, Nat.reduceMul, Nat.reduceLeDiff, Nat.reduceLT, Int.reduceLE, Int.reduceLT, reduceCtorEq]
                 refine hPa.go ?_
                 try simp only [hilu, u6, hilw, w6, hilp, pr6, go_sem, ↓reduceIte, Nat.reduceEqDiff, Nat.reduceAdd, Nat.reduceMul, Nat.reduceLeDiff, Nat.reduceLT, Int.reduceLE, Int.reduceLT, reduceCtorEq]
                 refine hPb.go ?_
                 try simp only [hilu, u6, hilw, w6, hilp, pr6, go_sem, ↓reduceIte, Nat.reduceEqDiff, Nat.reduceAdd, Nat.reduceMul, Nat.reduceLeDiff, Nat.reduceLT, Int.reduceLE, Int.reduceLT, reduceCtorEq]
                 clear hPw hPa hPb)
  all_goals try rw [k0]
  all_goals refine goD2 (fun K hK => p61 hB hK) fun v kv v6 => ?_
  all_goals obtain ⟨a7, r7, gi, gs⟩ := cr_loc v kv v6
  all_goals have hilv : (ints v).length = 6 := by rw [ints_length, v6]
  all_goals try simp only [hilv, v6, go_sem, ↓reduceIte, Nat.reduceEqDiff, Nat.reduceAdd, Nat.reduceMul, Nat.reduceLeDiff, Nat.reduceLT, Int.reduceLE, Int.reduceLT, reduceCtorEq]
  all_goals refine gi.go ?_
  all_goals try simp only [hilv, v6, go_sem, ↓reduceIte, Nat.reduceEqDiff, Nat.reduceAdd, Nat.reduceMul, Nat.reduceLeDiff, Nat.reduceLT, Int.reduceLE, Int.reduceLT, reduceCtorEq]
  all_goals refine gs.go ?_
  all_goals try simp only [hilv, v6, go_sem, ↓reduceIte, Nat.reduceEqDiff, Nat.reduceAdd, Nat.reduceMul, Nat.reduceLeDiff, Nat.reduceLT, Int.reduceLE, Int.reduceLT, reduceCtorEq]
  all_goals try rw [k0]
  all_goals refine goD1 (fun K hK => p63 hB hK) fun y y6 => ?_
  all_goals obtain ⟨w8, r8, w86, pi, ps⟩ := lf_loc y y6
  all_goals have hily : (ints y).length = 6 := by rw [ints_length, y6]
  all_goals have hilw8 : (ints w8).length = 6 := by rw [ints_length, w86]
  all_goals try simp only [hily, y6, go_sem, ↓reduceIte, Nat.reduceEqDiff, Nat.reduceAdd, Nat.reduceMul, Nat.reduceLeDiff, Nat.reduceLT, Int.reduceLE, Int.reduceLT, reduceCtorEq]
  all_goals refine pi.go ?_
  all_goals try simp only [hily, y6, hilw8, w86, go_sem, ↓reduceIte, Nat.reduceEqDiff, Nat.reduceAdd, Nat.reduceMul, Nat.reduceLeDiff, Nat.reduceLT, Int.reduceLE, Int.reduceLT, reduceCtorEq]
  all_goals refine ps.go ?_
  all_goals try simp only [hily, y6, hilw8, w86, go_sem, ↓reduceIte, Nat.reduceEqDiff, Nat.reduceAdd, Nat.reduceMul, Nat.reduceLeDiff, Nat.reduceLT, Int.reduceLE, Int.reduceLT, reduceCtorEq]
  all_goals try rw [k0]
  all_goals refine goD1 (fun K hK => p65 hB hK) fun x x6 => ?_
  all_goals obtain ⟨w9, r9, hw9, ti, ts, tl⟩ := ct_loc x x6
  all_goals have hilx : (ints x).length = 6 := by rw [ints_length, x6]
  all_goals try simp only [hilx, x6, go_sem, ↓reduceIte, Nat.reduceEqDiff, Nat.reduceAdd, Nat.reduceMul, Nat.reduceLeDiff, Nat.reduceLT, Int.reduceLE, Int.reduceLT, reduceCtorEq]
  all_goals refine ti.go ?_
  all_goals try simp only [hilx, x6, go_sem, ↓reduceIte, Nat.reduceEqDiff, Nat.reduceAdd, Nat.reduceMul, Nat.reduceLeDiff, Nat.reduceLT, Int.reduceLE, Int.reduceLT, reduceCtorEq]
  all_goals refine ts.go ?_
  all_goals try simp only [hilx, x6, hilw8, w86, go_sem, ↓reduceIte, Nat.reduceEqDiff, Nat.reduceAdd, Nat.reduceMul, Nat.reduceLeDiff, Nat.reduceLT, Int.reduceLE, Int.reduceLT, reduceCtorEq]
  all_goals refine tl.go ?_
  all_goals try simp only [hilx, x6, go_sem, ↓reduceIte, Nat.reduceEqDiff, Nat.reduceAdd, Nat.reduceMul, Nat.reduceLeDiff, Nat.reduceLT, Int.reduceLE, Int.reduceLT, reduceCtorEq]
  all_goals exact Kv.Fin.still ⟨rfl, rfl⟩
end Go.Proofs.YtpfapiiinkkcgaaGreat
