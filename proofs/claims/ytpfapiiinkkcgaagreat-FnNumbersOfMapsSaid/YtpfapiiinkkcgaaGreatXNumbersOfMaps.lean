/- The law of numbers of maps, walked. -/
import Derived.Test.YtpfapiiinkkcgaaGreatCb
import Derived.Test.YtpfapiiinkkcgaaGreatNW
namespace Go.Proofs.YtpfapiiinkkcgaaGreat
open Go.Kv
set_option maxRecDepth 100000
/- laws.FnNumbersOfMaps -/
/- live [0, 3, 4, 8, 16, 17, 120, 121, 122, 123, 126, 127, 128, 129, 132, 133, 134, 135, 136, 139, 140, 141, 142, 143, 183, 184, 185, 188, 189, 190, 193, 194, 195, 196, 199, 200, 201, 204, 205, 206, 207, 230, 231, 234, 235, 238, 239, 240, 241, 242, 266, 267, 268, 269, 270, 271, 272] -/
def k3_b0 : KC := (.seq (.seq (.ops [⟨(some 107), none, .mv (.t 17)⟩, ⟨(some 108), none, .mv (.t 3)⟩, ⟨(some 109), none, .bin .lss (.t 107) (.t 108)⟩])
  (.cond (.t 109) .skip (.exit 0)))
  (.seq (.block 1 (.ops [⟨(some 112), none, .mv (.t 16)⟩, ⟨(some 113), none, .mv (.t 3)⟩, ⟨(some 114), none, .bin .mul (.t 112) (.t 113)⟩, ⟨(some 16), none, .mv (.t 114)⟩]))
  (.ops [⟨(some 110), none, .mv (.t 17)⟩, ⟨(some 111), none, .bin .add (.t 110) (.c (.int .i64 1))⟩, ⟨(some 17), none, .mv (.t 111)⟩])))
/- live [24, 28, 32, 36, 39, 40, 266, 267, 268, 269, 270, 271, 272] -/
def k3_b1 : KC := (.seq (.seq (.ops [⟨(some 244), none, .mv (.t 40)⟩, ⟨(some 245), none, .mv (.t 28)⟩, ⟨(some 246), none, .len false (.t 245)⟩, ⟨(some 247), none, .bin .lss (.t 244) (.t 246)⟩])
  (.cond (.t 247) .skip (.exit 2)))
  (.seq (.block 3 (.seq (.ops [⟨(some 250), none, .mv (.t 39)⟩, ⟨(some 251), none, .mv (.t 28)⟩, ⟨(some 252), none, .mv (.t 40)⟩, ⟨(some 253), none, .idxS 1 (.t 251) (.t 252)⟩, ⟨(some 254), none, .load false 1 (.t 253)⟩, ⟨(some 255), none, .mnmx true (.t 250) [(.t 254)]⟩, ⟨(some 39), none, .mv (.t 255)⟩])
  (.seq (.draw [⟨(some 256), none, .mv (.t 28)⟩, ⟨(some 257), none, .mv (.t 40)⟩, ⟨(some 258), none, .idxS 1 (.t 256) (.t 257)⟩, ⟨(some 259), none, .load false 1 (.t 258)⟩, ⟨(some 260), none, .bin .eql (.t 259) (.c (.int .i64 0))⟩, ⟨(some 261), none, .mv (.t 32)⟩, ⟨(some 262), none, .mv (.t 40)⟩, ⟨(some 263), none, .pcall (.c (.fn (.func 27) [] [])) [(.t 261), (.t 262)]⟩, ⟨(some 264), none, .beq true (.t 260) (.t 263)⟩, ⟨(some 265), none, .mv (.t 264)⟩, ⟨(some 266), some (265, false), .mv (.t 32)⟩, ⟨(some 267), some (265, false), .mv (.t 24)⟩, ⟨(some 268), some (265, false), .mv (.t 40)⟩, ⟨(some 269), some (265, false), .idxS 1 (.t 267) (.t 268)⟩, ⟨(some 270), some (265, false), .load false 1 (.t 269)⟩, ⟨(some 271), some (265, false), .pcall (.c (.fn (.func 27) [] [])) [(.t 266), (.t 270)]⟩, ⟨(some 272), some (265, false), .not (.t 271)⟩, ⟨(some 273), none, .pick (.t 265) (.c (.bool true)) (.t 272)⟩])
  (.cond (.t 273) (.seq (.ops [⟨(some 2), none, .mv (.c (.bool false))⟩])
  .ret) .skip))))
  (.ops [⟨(some 248), none, .mv (.t 40)⟩, ⟨(some 249), none, .bin .add (.t 248) (.c (.int .i64 1))⟩, ⟨(some 40), none, .mv (.t 249)⟩])))
def k3 : KC := (.seq (.ops [⟨(some 2), none, .mv (.c (.bool false))⟩])
  (.seq (.seq (.ops [⟨(some 41), none, .mv (.t 0)⟩, ⟨(some 42), none, .call (.c (.fn (.func 6) [] [])) [(.t 41)]⟩])
  (.cond (.t 42) (.seq (.ops [⟨(some 2), none, .mv (.c (.bool true))⟩])
  .ret) .skip))
  (.seq (.ops [⟨(some 43), none, .mv (.t 0)⟩, ⟨(some 44), none, .call (.c (.fn (.func 7) [] [])) [(.t 43)]⟩, ⟨(some 3), none, .mv (.t 44)⟩])
  (.seq (.ops [⟨(some 46), none, .mv (.t 3)⟩, ⟨(some 47), none, .call (.c (.fn (.func 8) [] [])) [(.t 46)]⟩, ⟨(some 45), none, .mv (.t 47)⟩, ⟨(some 48), none, .extr 0 (.t 45)⟩, ⟨(some 49), none, .extr 1 (.t 45)⟩, ⟨(some 4), none, .mv (.t 48)⟩, ⟨(some 5), none, .mv (.t 49)⟩])
  (.seq (.ops [⟨(some 51), none, .mv (.t 3)⟩, ⟨(some 52), none, .call (.c (.fn (.func 9) [] [])) [(.t 51)]⟩, ⟨(some 50), none, .mv (.t 52)⟩, ⟨(some 53), none, .extr 0 (.t 50)⟩, ⟨(some 54), none, .extr 1 (.t 50)⟩, ⟨(some 6), none, .mv (.t 53)⟩, ⟨(some 7), none, .mv (.t 54)⟩])
  (.seq (.ops [⟨(some 56), none, .mv (.t 3)⟩, ⟨(some 57), none, .call (.c (.fn (.func 10) [] [])) [(.t 56)]⟩, ⟨(some 55), none, .mv (.t 57)⟩, ⟨(some 58), none, .extr 0 (.t 55)⟩, ⟨(some 59), none, .extr 1 (.t 55)⟩, ⟨(some 8), none, .mv (.t 58)⟩, ⟨(some 9), none, .mv (.t 59)⟩])
  (.seq (.ops [⟨(some 61), none, .mv (.t 3)⟩, ⟨(some 62), none, .call (.c (.fn (.func 11) [] [])) [(.t 61)]⟩, ⟨(some 60), none, .mv (.t 62)⟩, ⟨(some 63), none, .extr 0 (.t 60)⟩, ⟨(some 64), none, .extr 1 (.t 60)⟩, ⟨(some 10), none, .mv (.t 63)⟩, ⟨(some 11), none, .mv (.t 64)⟩])
  (.seq (.ops [⟨(some 66), none, .mv (.t 3)⟩, ⟨(some 67), none, .call (.c (.fn (.func 12) [] [])) [(.t 66)]⟩, ⟨(some 65), none, .mv (.t 67)⟩, ⟨(some 68), none, .extr 0 (.t 65)⟩, ⟨(some 69), none, .extr 1 (.t 65)⟩, ⟨(some 12), none, .mv (.t 68)⟩, ⟨(some 13), none, .mv (.t 69)⟩])
  (.seq (.ops [⟨(some 71), none, .mv (.t 3)⟩, ⟨(some 72), none, .call (.c (.fn (.func 13) [] [])) [(.t 71)]⟩, ⟨(some 70), none, .mv (.t 72)⟩, ⟨(some 73), none, .extr 0 (.t 70)⟩, ⟨(some 74), none, .extr 1 (.t 70)⟩, ⟨(some 14), none, .mv (.t 73)⟩, ⟨(some 15), none, .mv (.t 74)⟩])
  (.seq (.seq (.ops [⟨(some 75), none, .mv (.t 5)⟩, ⟨(some 76), none, .mv (.t 7)⟩, ⟨(some 77), none, .bin .neq (.t 75) (.t 76)⟩, ⟨(some 78), none, .mv (.t 77)⟩, ⟨(some 79), some (78, false), .mv (.t 4)⟩, ⟨(some 80), some (78, false), .mv (.t 6)⟩, ⟨(some 81), some (78, false), .call (.c (.fn (.func 14) [] [])) [(.t 79), (.t 80)]⟩, ⟨(some 82), some (78, false), .not (.t 81)⟩, ⟨(some 83), none, .pick (.t 78) (.c (.bool true)) (.t 82)⟩, ⟨(some 84), none, .mv (.t 83)⟩, ⟨(some 85), some (84, false), .mv (.t 9)⟩, ⟨(some 86), some (84, false), .mv (.t 11)⟩, ⟨(some 87), some (84, false), .bin .neq (.t 85) (.t 86)⟩, ⟨(some 88), none, .pick (.t 84) (.c (.bool true)) (.t 87)⟩, ⟨(some 89), none, .mv (.t 88)⟩, ⟨(some 90), some (89, false), .mv (.t 8)⟩, ⟨(some 91), some (89, false), .mv (.t 10)⟩, ⟨(some 92), some (89, false), .call (.c (.fn (.func 14) [] [])) [(.t 90), (.t 91)]⟩, ⟨(some 93), some (89, false), .not (.t 92)⟩, ⟨(some 94), none, .pick (.t 89) (.c (.bool true)) (.t 93)⟩, ⟨(some 95), none, .mv (.t 94)⟩, ⟨(some 96), some (95, false), .mv (.t 13)⟩, ⟨(some 97), some (95, false), .mv (.t 15)⟩, ⟨(some 98), some (95, false), .bin .neq (.t 96) (.t 97)⟩, ⟨(some 99), none, .pick (.t 95) (.c (.bool true)) (.t 98)⟩, ⟨(some 100), none, .mv (.t 99)⟩, ⟨(some 101), some (100, false), .mv (.t 12)⟩, ⟨(some 102), some (100, false), .mv (.t 14)⟩, ⟨(some 103), some (100, false), .bin .neq (.t 101) (.t 102)⟩, ⟨(some 104), none, .pick (.t 100) (.c (.bool true)) (.t 103)⟩])
  (.cond (.t 104) (.seq (.ops [⟨(some 2), none, .mv (.c (.bool false))⟩])
  .ret) .skip))
  (.seq (.seq (.ops [⟨(some 105), none, .mv (.t 5)⟩, ⟨(some 106), none, .bin .eql (.t 105) (.c (.int .i64 0))⟩])
  (.cond (.t 106) (.seq (.ops [⟨(some 16), none, .mv (.c (.int .i64 1))⟩])
  (.seq (.seq (.ops [⟨(some 17), none, .mv (.c (.int .i64 0))⟩])
  (.block 0 (.loop k3_b0)))
  (.seq (.ops [⟨(some 115), none, .mv (.t 4)⟩, ⟨(some 116), none, .call (.c (.fn (.func 15) [] [])) [(.t 115)]⟩, ⟨(some 117), none, .mv (.t 16)⟩, ⟨(some 118), none, .bin .neq (.t 116) (.t 117)⟩, ⟨(some 119), none, .mv (.t 118)⟩, ⟨(some 120), some (119, false), .mv (.t 8)⟩, ⟨(some 121), some (119, false), .call (.c (.fn (.func 15) [] [])) [(.t 120)]⟩, ⟨(some 122), some (119, false), .mv (.t 16)⟩, ⟨(some 123), some (119, false), .bin .neq (.t 121) (.t 122)⟩, ⟨(some 124), none, .pick (.t 119) (.c (.bool true)) (.t 123)⟩, ⟨(some 125), none, .mv (.t 124)⟩, ⟨(some 126), some (125, false), .mv (.t 4)⟩, ⟨(some 127), some (125, false), .len false (.t 126)⟩, ⟨(some 128), some (125, false), .mv (.t 3)⟩, ⟨(some 129), some (125, false), .bin .neq (.t 127) (.t 128)⟩, ⟨(some 130), none, .pick (.t 125) (.c (.bool true)) (.t 129)⟩, ⟨(some 131), none, .mv (.t 130)⟩, ⟨(some 132), some (131, false), .mv (.t 8)⟩, ⟨(some 133), some (131, false), .len false (.t 132)⟩, ⟨(some 134), some (131, false), .mv (.t 3)⟩, ⟨(some 135), some (131, false), .bin .add (.t 134) (.c (.int .i64 1))⟩, ⟨(some 136), some (131, false), .bin .neq (.t 133) (.t 135)⟩, ⟨(some 137), none, .pick (.t 131) (.c (.bool true)) (.t 136)⟩, ⟨(some 138), none, .mv (.t 137)⟩, ⟨(some 139), some (138, false), .mv (.t 4)⟩, ⟨(some 140), some (138, false), .idxS 1 (.t 139) (.c (.int .i64 0))⟩, ⟨(some 141), some (138, false), .load false 1 (.t 140)⟩, ⟨(some 142), some (138, false), .mv (.t 3)⟩, ⟨(some 143), some (138, false), .bin .neq (.t 141) (.t 142)⟩, ⟨(some 144), none, .pick (.t 138) (.c (.bool true)) (.t 143)⟩])
  (.cond (.t 144) (.seq (.ops [⟨(some 2), none, .mv (.c (.bool false))⟩])
  .ret) .skip)))) .skip))
  (.seq (.ops [⟨(some 145), none, .mv (.t 0)⟩, ⟨(some 146), none, .call (.c (.fn (.func 16) [] [])) [(.t 145)]⟩, ⟨(some 18), none, .mv (.t 146)⟩])
  (.seq (.ops [⟨(some 148), none, .mv (.t 18)⟩, ⟨(some 149), none, .call (.c (.fn (.func 17) [] [])) [(.t 148)]⟩, ⟨(some 147), none, .mv (.t 149)⟩, ⟨(some 150), none, .extr 0 (.t 147)⟩, ⟨(some 151), none, .extr 1 (.t 147)⟩, ⟨(some 19), none, .mv (.t 150)⟩, ⟨(some 20), none, .mv (.t 151)⟩])
  (.seq (.ops [⟨(some 153), none, .mv (.t 18)⟩, ⟨(some 154), none, .call (.c (.fn (.func 18) [] [])) [(.t 153)]⟩, ⟨(some 152), none, .mv (.t 154)⟩, ⟨(some 155), none, .extr 0 (.t 152)⟩, ⟨(some 156), none, .extr 1 (.t 152)⟩, ⟨(some 21), none, .mv (.t 155)⟩, ⟨(some 22), none, .mv (.t 156)⟩])
  (.seq (.ops [⟨(some 157), none, .mv (.t 0)⟩, ⟨(some 158), none, .call (.c (.fn (.func 19) [] [])) [(.t 157)]⟩, ⟨(some 23), none, .alloc [.int .i64 0, .int .i64 0, .int .i64 0, .int .i64 0, .int .i64 0, .int .i64 0]⟩, ⟨none, none, .store 6 (.t 23) (.t 158)⟩])
  (.seq (.ops [⟨(some 160), none, .load true 6 (.t 23)⟩, ⟨(some 161), none, .call (.c (.fn (.func 20) [] [])) [(.t 160)]⟩, ⟨(some 159), none, .mv (.t 161)⟩, ⟨(some 162), none, .extr 0 (.t 159)⟩, ⟨(some 163), none, .extr 1 (.t 159)⟩, ⟨(some 24), none, .mv (.t 162)⟩, ⟨(some 25), none, .mv (.t 163)⟩])
  (.seq (.ops [⟨(some 165), none, .load true 6 (.t 23)⟩, ⟨(some 166), none, .call (.c (.fn (.func 21) [] [])) [(.t 165)]⟩, ⟨(some 164), none, .mv (.t 166)⟩, ⟨(some 167), none, .extr 0 (.t 164)⟩, ⟨(some 168), none, .extr 1 (.t 164)⟩, ⟨(some 26), none, .mv (.t 167)⟩, ⟨(some 27), none, .mv (.t 168)⟩])
  (.seq (.ops [⟨(some 170), none, .load true 6 (.t 23)⟩, ⟨(some 171), none, .call (.c (.fn (.func 22) [] [])) [(.t 170)]⟩, ⟨(some 169), none, .mv (.t 171)⟩, ⟨(some 172), none, .extr 0 (.t 169)⟩, ⟨(some 173), none, .extr 1 (.t 169)⟩, ⟨(some 28), none, .mv (.t 172)⟩, ⟨(some 29), none, .mv (.t 173)⟩])
  (.seq (.ops [⟨(some 175), none, .load true 6 (.t 23)⟩, ⟨(some 176), none, .call (.c (.fn (.func 23) [] [])) [(.t 175)]⟩, ⟨(some 174), none, .mv (.t 176)⟩, ⟨(some 177), none, .extr 0 (.t 174)⟩, ⟨(some 178), none, .extr 1 (.t 174)⟩, ⟨(some 30), none, .mv (.t 177)⟩, ⟨(some 31), none, .mv (.t 178)⟩])
  (.seq (.seq (.ops [⟨(some 179), none, .mv (.t 20)⟩, ⟨(some 180), none, .mv (.t 22)⟩, ⟨(some 181), none, .bin .neq (.t 179) (.t 180)⟩, ⟨(some 182), none, .mv (.t 181)⟩, ⟨(some 183), some (182, false), .mv (.t 19)⟩, ⟨(some 184), some (182, false), .mv (.t 21)⟩, ⟨(some 185), some (182, false), .bin .neq (.t 183) (.t 184)⟩, ⟨(some 186), none, .pick (.t 182) (.c (.bool true)) (.t 185)⟩, ⟨(some 187), none, .mv (.t 186)⟩, ⟨(some 188), some (187, false), .mv (.t 25)⟩, ⟨(some 189), some (187, false), .mv (.t 27)⟩, ⟨(some 190), some (187, false), .bin .neq (.t 188) (.t 189)⟩, ⟨(some 191), none, .pick (.t 187) (.c (.bool true)) (.t 190)⟩, ⟨(some 192), none, .mv (.t 191)⟩, ⟨(some 193), some (192, false), .mv (.t 24)⟩, ⟨(some 194), some (192, false), .mv (.t 26)⟩, ⟨(some 195), some (192, false), .call (.c (.fn (.func 14) [] [])) [(.t 193), (.t 194)]⟩, ⟨(some 196), some (192, false), .not (.t 195)⟩, ⟨(some 197), none, .pick (.t 192) (.c (.bool true)) (.t 196)⟩, ⟨(some 198), none, .mv (.t 197)⟩, ⟨(some 199), some (198, false), .mv (.t 29)⟩, ⟨(some 200), some (198, false), .mv (.t 31)⟩, ⟨(some 201), some (198, false), .bin .neq (.t 199) (.t 200)⟩, ⟨(some 202), none, .pick (.t 198) (.c (.bool true)) (.t 201)⟩, ⟨(some 203), none, .mv (.t 202)⟩, ⟨(some 204), some (203, false), .mv (.t 28)⟩, ⟨(some 205), some (203, false), .mv (.t 30)⟩, ⟨(some 206), some (203, false), .call (.c (.fn (.func 14) [] [])) [(.t 204), (.t 205)]⟩, ⟨(some 207), some (203, false), .not (.t 206)⟩, ⟨(some 208), none, .pick (.t 203) (.c (.bool true)) (.t 207)⟩])
  (.cond (.t 208) (.seq (.ops [⟨(some 2), none, .mv (.c (.bool false))⟩])
  .ret) .skip))
  (.seq (.seq (.ops [⟨(some 209), none, .mv (.t 25)⟩, ⟨(some 210), none, .bin .eql (.t 209) (.c (.int .i64 0))⟩])
  (.cond (.t 210) (.seq (.ops [⟨(some 212), none, .load true 6 (.t 23)⟩, ⟨(some 213), none, .call (.c (.fn (.func 24) [] [])) [(.t 212)]⟩, ⟨(some 211), none, .mv (.t 213)⟩, ⟨(some 214), none, .extr 0 (.t 211)⟩, ⟨(some 215), none, .extr 1 (.t 211)⟩, ⟨(some 32), none, .mv (.t 214)⟩, ⟨(some 33), none, .mv (.t 215)⟩])
  (.seq (.ops [⟨(some 217), none, .load true 6 (.t 23)⟩, ⟨(some 218), none, .call (.c (.fn (.func 25) [] [])) [(.t 217)]⟩, ⟨(some 216), none, .mv (.t 218)⟩, ⟨(some 219), none, .extr 0 (.t 216)⟩, ⟨(some 220), none, .extr 1 (.t 216)⟩, ⟨(some 34), none, .mv (.t 219)⟩, ⟨(some 35), none, .mv (.t 220)⟩])
  (.seq (.ops [⟨(some 222), none, .load true 6 (.t 23)⟩, ⟨(some 223), none, .call (.c (.fn (.func 26) [] [])) [(.t 222)]⟩, ⟨(some 221), none, .mv (.t 223)⟩, ⟨(some 224), none, .extr 0 (.t 221)⟩, ⟨(some 225), none, .extr 1 (.t 221)⟩, ⟨(some 226), none, .extr 2 (.t 221)⟩, ⟨(some 36), none, .mv (.t 224)⟩, ⟨(some 37), none, .mv (.t 225)⟩, ⟨(some 38), none, .mv (.t 226)⟩])
  (.seq (.seq (.ops [⟨(some 227), none, .mv (.t 33)⟩, ⟨(some 228), none, .bin .neq (.t 227) (.c (.int .i64 0))⟩, ⟨(some 229), none, .mv (.t 228)⟩, ⟨(some 230), some (229, false), .mv (.t 35)⟩, ⟨(some 231), some (229, false), .bin .neq (.t 230) (.c (.int .i64 0))⟩, ⟨(some 232), none, .pick (.t 229) (.c (.bool true)) (.t 231)⟩, ⟨(some 233), none, .mv (.t 232)⟩, ⟨(some 234), some (233, false), .mv (.t 38)⟩, ⟨(some 235), some (233, false), .bin .neq (.t 234) (.c (.int .i64 0))⟩, ⟨(some 236), none, .pick (.t 233) (.c (.bool true)) (.t 235)⟩, ⟨(some 237), none, .mv (.t 236)⟩, ⟨(some 238), some (237, false), .mv (.t 34)⟩, ⟨(some 239), some (237, false), .call (.c (.fn (.func 15) [] [])) [(.t 238)]⟩, ⟨(some 240), some (237, false), .mv (.t 32)⟩, ⟨(some 241), some (237, false), .len false (.t 240)⟩, ⟨(some 242), some (237, false), .bin .neq (.t 239) (.t 241)⟩, ⟨(some 243), none, .pick (.t 237) (.c (.bool true)) (.t 242)⟩])
  (.cond (.t 243) (.seq (.ops [⟨(some 2), none, .mv (.c (.bool false))⟩])
  .ret) .skip))
  (.seq (.ops [⟨(some 39), none, .mv (.c (.int .i64 0))⟩])
  (.seq (.seq (.ops [⟨(some 40), none, .mv (.c (.int .i64 0))⟩])
  (.block 2 (.loop k3_b1)))
  (.seq (.ops [⟨(some 274), none, .mv (.t 39)⟩, ⟨(some 275), none, .mv (.t 36)⟩, ⟨(some 276), none, .bin .eql (.t 274) (.t 275)⟩, ⟨(some 2), none, .mv (.t 276)⟩])
  .ret))))))) .skip))
  (.seq (.ops [⟨(some 2), none, .mv (.c (.bool true))⟩])
  .ret))))))))))))))))))))))
theorem e3 {args : List PV} {σ : Heap} {K : PV → Heap → Prop} (hl : args.length ≤ 277) (h : Wf σ → (∀ a ∈ args, PV.upto σ.length a) → vc (mkCfg Tryz.prog mixed [] 277 σ.length) k3 (FinK σ.length [.t 2] K) (argEnv 0 args) σ) : ACall Tryz.prog 3 args σ K :=
  ACall_enter (C := mkCfg Tryz.prog mixed [] 277 σ.length) (c := Tryz.f3.body.getD .skip) Tryz.func3 (by kernel_rfl) (by kernel_rfl) (by kernel_rfl) rfl hl (by kernel_rfl) (by kernel_rfl) h
end Go.Proofs.YtpfapiiinkkcgaaGreat
namespace Go.Proofs.YtpfapiiinkkcgaaGreat
open Go.Kv
set_option linter.unusedVariables false
set_option linter.unusedSimpArgs false
attribute [local irreducible] ACall PCall KL
theorem sumT {f : List Nat} {n : Nat} (hf : Ok f n) : (negs (srt (negs (lens f n n)))).length ≤ 5 ∧ (negs (srt (negs (lens f n n)))).sum = (((List.range n).filter (cyc f n)).length : Int) ∧ ∀ x ∈ negs (srt (negs (lens f n n))), 0 ≤ x := by
  have h5 := hf.le
  refine ⟨?_, ?_, fun x hx => ?_⟩
  · have h1 : (lens f n n).length ≤ n := by
      unfold lens rts
      rw [List.length_map]
      exact Nat.le_trans (List.length_filter_le _ _) (by simp)
    simp; omega
  · rw [sum_negs, perm_sumI (srt_perm _), sum_negs, sum_lens hf]; omega
  · simp only [negs, List.mem_map] at hx
    obtain ⟨y, hy, rfl⟩ := hx
    have hy := (srt_perm _).mem_iff.1 hy
    simp only [List.mem_map] at hy
    obtain ⟨z, hz, rfl⟩ := hy
    unfold lens at hz
    obtain ⟨q, _, rfl⟩ := List.mem_map.1 hz
    omega
theorem sumP {f : List Nat} {n : Nat} (hf : Ok f n) : Pure Tryz.prog 15 [.list (ints (negs (srt (negs (lens f n n)))))] (.int .i64 (((List.range n).filter (cyc f n)).length : Int)) := by
  obtain ⟨t1, t2, t3⟩ := sumT hf
  have h5 := hf.le
  have hsT := p15 (negs (srt (negs (lens f n n)))) (by omega) fun j _ => by
    have := sum_take_le (negs (srt (negs (lens f n n)))) j t3
    have h9 := List.length_filter_le (cyc f n) (List.range n)
    simp at h9
    omega
  rwa [t2] at hsT
/-- The greatest height so far. -/
def mxH (f : List Nat) (n : Nat) : Nat → Nat
  | 0 => 0
  | x + 1 => max (mxH f n x) (hgt f n x)
theorem mxH_le {f : List Nat} {n a : Nat} (h : ∀ p, p < n → hgt f n p ≤ a) : ∀ x, x ≤ n → mxH f n x ≤ a
  | 0, _ => Nat.zero_le _
  | x + 1, hx => by
    have h1 := mxH_le h x (by omega)
    have h2 := h x (by omega)
    simp only [mxH]; omega
theorem mxH_ge {f : List Nat} {n p : Nat} : ∀ x, p < x → hgt f n p ≤ mxH f n x
  | x + 1, hx => by
    simp only [mxH]
    by_cases e : p = x
    · subst e; omega
    · have := mxH_ge (f := f) (n := n) (p := p) x (by omega)
      omega
theorem mxH_eq {f : List Nat} {n a L : Nat} (hf : Ok f n) (h : Rnd f n a L) : mxH f n n = a := by
  obtain ⟨h1, h2⟩ := h.max hf
  have h3 := mxH_le h1 n (Nat.le_refl _)
  rcases h2 with rfl | ⟨p, hp, e⟩
  · omega
  · have := mxH_ge (f := f) (n := n) n hp
    omega
theorem maxLoop {f : List Nat} {n a : Nat} (hf : Ok f n) {Q : Exit → Env → Heap → Prop} {env : Env} {σ : Heap}
    (hE : keep [24, 28, 32, 36, 39, 40] env = [(24, .list (ints (bsl f n n))), (28, .list (ints (htl f n n))), (32, .list (ints (((List.range n).filter (cyc f n)).map fun x : Nat => (x : Int)))), (36, .int .i64 a), (39, .int .i64 0), (40, .int .i64 0)])
    (hQ : ∀ env', keep [36, 39] env' = [(36, .int .i64 a), (39, .int .i64 (mxH f n n))] → Q (.exit 2) env' σ) : KL (mkCfg Tryz.prog mixed [] 277 0) k3_b1 Q env σ := by
  have h5 := hf.le
  refine KL_ind k3_b1.eq_1 (fun x : Nat => [(24, .list (ints (bsl f n n))), (28, .list (ints (htl f n n))), (32, .list (ints (((List.range n).filter (cyc f n)).map fun x : Nat => (x : Int)))), (36, .int .i64 a), (39, .int .i64 (mxH f n x)), (40, .int .i64 x)]) (fun _ => σ) (fun x => x ≤ n) (fun x => n - x) [24, 28, 32, 36, 39, 40] 0 hE rfl (Nat.zero_le _) fun x hx ih => ?_
  have hCl : (((List.range n).filter (cyc f n)).map fun x : Nat => (x : Int)).length ≤ 1000 := by
    rw [List.length_map]
    have := List.length_filter_le (cyc f n) (List.range n)
    simp at this; omega
  try simp only [OpK_eq, HKv, htl_length, bsl_length, take6, List.drop_zero, Int.cast_ofNat_Int, go_sem, ↓reduceIte, Nat.reduceEqDiff, Nat.reduceAdd, Nat.reduceMul, Nat.reduceLeDiff, Nat.reduceLT, Int.reduceLE, Int.reduceLT, reduceCtorEq]
  refine ⟨fun g1 => ?_, fun g1 => ?_⟩
  · have hxn : x < n := by omega
    have e1 : (htl f n n).getD x 0 = (hgt f n x : Int) := by simp [htl, List.getD_eq_getElem?_getD, hxn]
    have e2 := bsl_getD f n hxn
    have m1 : decide (((x : Nat) : Int) ∈ ((List.range n).filter (cyc f n)).map fun x : Nat => (x : Int)) = cyc f n x := by
      have : ((x : Nat) : Int) ∈ ((List.range n).filter (cyc f n)).map (fun x : Nat => (x : Int)) ↔ cyc f n x = true := by
        simp only [List.mem_map, List.mem_filter, List.mem_range]
        constructor
        · rintro ⟨y, ⟨_, hy⟩, e⟩
          obtain rfl : y = x := by omega
          exact hy
        · exact fun h => ⟨x, ⟨hxn, h⟩, rfl⟩
      cases hc : cyc f n x with
      | true => exact decide_eq_true (this.2 hc)
      | false => exact decide_eq_false fun h => by rw [this.1 h] at hc; cases hc
    have m2 : decide (((mino f (it f (hgt f n x) x) : Nat) : Int) ∈ ((List.range n).filter (cyc f n)).map fun x : Nat => (x : Int)) = true := by
      refine decide_eq_true (List.mem_map.2 ⟨_, List.mem_filter.2 ⟨List.mem_range.2 ?_, mino_cyc (hgt_spec hf hxn).2⟩, rfl⟩)
      obtain ⟨j, hj⟩ := mino_it f (it f (hgt f n x) x)
      rw [hj, ← it_add]; exact it_lt hf hxn _
    have h0 := hgt_zero hf hxn
    have hh := p27 _ hCl (x : Int)
    have hh2 := p27 _ hCl ((mino f (it f (hgt f n x) x) : Nat) : Int)
    rw [m1] at hh
    rw [m2] at hh2
    have hd : decide ((hgt f n x : Int) = 0) = cyc f n x := by
      cases hc : cyc f n x with
      | true => exact decide_eq_true (by have := h0.2 hc; omega)
      | false => exact decide_eq_false fun h => by rw [h0.1 (by omega)] at hc; cases hc
    try simp only [OpK_eq, HKv, htl_length, bsl_length, e1, e2, hd, take6, List.drop_zero, Int.cast_ofNat_Int, go_sem, ↓reduceIte, Nat.reduceEqDiff, Nat.reduceAdd, Nat.reduceMul, Nat.reduceLeDiff, Nat.reduceLT, Int.reduceLE, Int.reduceLT, reduceCtorEq]
    refine ⟨by omega, fun _ => ⟨by omega, fun _ => ?_⟩⟩
    refine hh.pgo ?_
    try simp only [OpK_eq, HKv, bne_self_eq_false, decide_true, Bool.not_true, beq_self_eq_true, Bool.not_false, hd, e1, e2, bsl_length, take6, List.drop_zero, Int.cast_ofNat_Int, go_sem, ↓reduceIte, Nat.reduceEqDiff, Nat.reduceAdd, Nat.reduceMul, Nat.reduceLeDiff, Nat.reduceLT, Int.reduceLE, Int.reduceLT, reduceCtorEq]
    refine ⟨by omega, fun _ => ?_⟩
    refine hh2.pgo ?_
    try simp only [OpK_eq, HKv, bne_self_eq_false, decide_true, Bool.not_true, beq_self_eq_true, Bool.not_false, take6, List.drop_zero, Int.cast_ofNat_Int, go_sem, ↓reduceIte, Nat.reduceEqDiff, Nat.reduceAdd, Nat.reduceMul, Nat.reduceLeDiff, Nat.reduceLT, Int.reduceLE, Int.reduceLT, reduceCtorEq]
    have hmx : max ((mxH f n x : Nat) : Int) ((hgt f n x : Nat) : Int) = ((mxH f n (x + 1) : Nat) : Int) := by
      show _ = ((max (mxH f n x) (hgt f n x) : Nat) : Int)
      omega
    rw [hmx]
    exact ⟨by omega, ih (x + 1) (by omega) (by omega) _ _ (by simp [keep]) rfl⟩
  · obtain rfl : x = n := by omega
    exact hQ _ (by simp [keep])
set_option maxRecDepth 100000 in
theorem p3 (l : List Int) (hl : l.length ≤ 9223372036854775807) (hb : ∀ z ∈ l, 0 ≤ z ∧ z ≤ 255) : Pure Tryz.prog 3 [.list (u8s l)] (.bool true) := by
  refine e3 (by simp) fun _ _ => ?_
  simp only [k3, argEnv, take6, List.drop_zero, Int.cast_ofNat_Int, go_sem, ↓reduceIte, Nat.reduceEqDiff, Nat.reduceAdd, Nat.reduceMul, Nat.reduceLeDiff, Nat.reduceLT, Int.reduceLE, Int.reduceLT, reduceCtorEq]
  refine (p6 l hl).go ?_
  try simp only [OpK_eq, HKv, take6, List.drop_zero, Int.cast_ofNat_Int, go_sem, ↓reduceIte, Nat.reduceEqDiff, Nat.reduceAdd, Nat.reduceMul, Nat.reduceLeDiff, Nat.reduceLT, Int.reduceLE, Int.reduceLT, reduceCtorEq]
  refine ⟨fun h => Kv.Fin.still ⟨rfl, rfl⟩, fun hbig => ?_⟩
  have hB : Byt l := ⟨by omega, hb⟩
  refine p7 hB fun n => ?_
  obtain ⟨w1, r1, hw1, hi1, hs1, hk1, hc1⟩ := rk_loc n
  obtain ⟨w2, r2, hw2, hi2, hs2, hk2, hc2⟩ := fx_loc n
  try simp only [OpK_eq, HKv, take6, List.drop_zero, Int.cast_ofNat_Int, go_sem, ↓reduceIte, Nat.reduceEqDiff, Nat.reduceAdd, Nat.reduceMul, Nat.reduceLeDiff, Nat.reduceLT, Int.reduceLE, Int.reduceLT, reduceCtorEq]
  refine hi1.go ?_
  try simp only [OpK_eq, HKv, take6, List.drop_zero, Int.cast_ofNat_Int, go_sem, ↓reduceIte, Nat.reduceEqDiff, Nat.reduceAdd, Nat.reduceMul, Nat.reduceLeDiff, Nat.reduceLT, Int.reduceLE, Int.reduceLT, reduceCtorEq]
  refine hs1.go ?_
  try simp only [OpK_eq, HKv, take6, List.drop_zero, Int.cast_ofNat_Int, go_sem, ↓reduceIte, Nat.reduceEqDiff, Nat.reduceAdd, Nat.reduceMul, Nat.reduceLeDiff, Nat.reduceLT, Int.reduceLE, Int.reduceLT, reduceCtorEq]
  refine hi2.go ?_
  try simp only [OpK_eq, HKv, take6, List.drop_zero, Int.cast_ofNat_Int, go_sem, ↓reduceIte, Nat.reduceEqDiff, Nat.reduceAdd, Nat.reduceMul, Nat.reduceLeDiff, Nat.reduceLT, Int.reduceLE, Int.reduceLT, reduceCtorEq]
  refine hs2.go ?_
  try simp only [OpK_eq, HKv, take6, List.drop_zero, Int.cast_ofNat_Int, go_sem, ↓reduceIte, Nat.reduceEqDiff, Nat.reduceAdd, Nat.reduceMul, Nat.reduceLeDiff, Nat.reduceLT, Int.reduceLE, Int.reduceLT, reduceCtorEq]
  refine (p12 n).go ?_
  try simp only [OpK_eq, HKv, take6, List.drop_zero, Int.cast_ofNat_Int, go_sem, ↓reduceIte, Nat.reduceEqDiff, Nat.reduceAdd, Nat.reduceMul, Nat.reduceLeDiff, Nat.reduceLT, Int.reduceLE, Int.reduceLT, reduceCtorEq]
  refine (p13 n).go ?_
  try simp only [OpK_eq, HKv, bne_self_eq_false, decide_true, Bool.not_true, beq_self_eq_true, Bool.not_false, take6, List.drop_zero, Int.cast_ofNat_Int, go_sem, ↓reduceIte, Nat.reduceEqDiff, Nat.reduceAdd, Nat.reduceMul, Nat.reduceLeDiff, Nat.reduceLT, Int.reduceLE, Int.reduceLT, reduceCtorEq]
  refine hk1.go ?_
  try simp only [OpK_eq, HKv, bne_self_eq_false, decide_true, Bool.not_true, beq_self_eq_true, Bool.not_false, take6, List.drop_zero, Int.cast_ofNat_Int, go_sem, ↓reduceIte, Nat.reduceEqDiff, Nat.reduceAdd, Nat.reduceMul, Nat.reduceLeDiff, Nat.reduceLT, Int.reduceLE, Int.reduceLT, reduceCtorEq]
  refine hk2.go ?_
  try simp only [OpK_eq, HKv, bne_self_eq_false, decide_true, Bool.not_true, beq_self_eq_true, Bool.not_false, take6, List.drop_zero, Int.cast_ofNat_Int, go_sem, ↓reduceIte, Nat.reduceEqDiff, Nat.reduceAdd, Nat.reduceMul, Nat.reduceLeDiff, Nat.reduceLT, Int.reduceLE, Int.reduceLT, reduceCtorEq]
  rcases hc1 with ⟨rfl, k, rfl, h1, h12, rfl⟩ | ⟨rfl, rfl, hno⟩
  rotate_left
  refine ⟨fun h => absurd h (by decide), fun _ => ?_⟩
  rotate_left
  obtain rfl := hc2 k rfl h1 h12
  obtain ⟨a1, a2, a3, a4⟩ := cbr_all k (by omega) h1
  obtain ⟨b1, b2, b3⟩ := cbf_all k (by omega) h1
  have hpb := pow_nn k (by omega)
  refine ⟨fun _ => ?_, fun h => absurd rfl h⟩
  refine KL_ind k3_b0.eq_1 (fun x : Nat => [(0, .list (u8s l)), (3, .int .i64 k), (4, .list (ints (cbr k))), (8, .list (ints (cbf k (k + 1)))), (16, .int .i64 ((k : Int) ^ x)), (17, .int .i64 x)]) (fun _ => []) (fun x => x ≤ k) (fun x => k - x) [0, 3, 4, 8, 16, 17] 0 (by simp [keep]) rfl (Nat.zero_le _) fun x hx ih => ?_
  try simp only [OpK_eq, HKv, take6, List.drop_zero, Int.cast_ofNat_Int, go_sem, ↓reduceIte, Nat.reduceEqDiff, Nat.reduceAdd, Nat.reduceMul, Nat.reduceLeDiff, Nat.reduceLT, Int.reduceLE, Int.reduceLT, reduceCtorEq]
  refine ⟨fun g1 => (by
    have hpx := hpb (x + 1) (by omega)
    rw [Int.pow_succ] at hpx
    exact ⟨⟨by omega, by omega⟩, by omega, ih (x + 1) (by omega) (by omega) _ _ (by simp [keep, Int.pow_succ]) rfl⟩), fun g1 => ?_⟩
  obtain rfl : x = k := by omega
  have hpk := hpb x (by omega)
  have hs1 := p15 (cbr x) (by omega) fun j _ => by have := sum_take_le (cbr x) j a4; omega
  have hs2 := p15 (cbf x (x + 1)) (by omega) fun j _ => by have := sum_take_le (cbf x (x + 1)) j b3; omega
  rw [a1] at hs1
  rw [b1] at hs2
  have hlb : ((cbf x (x + 1)).length : Int) = (x : Int) + 1 := by rw [b2]; omega
  refine hs1.go ?_
  try simp only [OpK_eq, HKv, bne_self_eq_false, decide_true, Bool.not_true, beq_self_eq_true, Bool.not_false, take6, List.drop_zero, Int.cast_ofNat_Int, go_sem, ↓reduceIte, Nat.reduceEqDiff, Nat.reduceAdd, Nat.reduceMul, Nat.reduceLeDiff, Nat.reduceLT, Int.reduceLE, Int.reduceLT, reduceCtorEq]
  refine hs2.go ?_
  try simp only [OpK_eq, HKv, bne_self_eq_false, decide_true, Bool.not_true, beq_self_eq_true, Bool.not_false, a2, a3, hlb, take6, List.drop_zero, Int.cast_ofNat_Int, go_sem, ↓reduceIte, Nat.reduceEqDiff, Nat.reduceAdd, Nat.reduceMul, Nat.reduceLeDiff, Nat.reduceLT, Int.reduceLE, Int.reduceLT, reduceCtorEq]
  refine ⟨by omega, by omega, fun _ => ?_⟩
  clear hpb ih a1 a2 a3 a4 b1 b2 b3 hs1 hs2
  all_goals refine p16 hB fun k2 => ?_
  all_goals obtain ⟨a5, r5, hci, hcs⟩ := sh_loc k2
  all_goals try simp only [OpK_eq, HKv, bne_self_eq_false, decide_true, Bool.not_true, beq_self_eq_true, Bool.not_false, take6, List.drop_zero, Int.cast_ofNat_Int, go_sem, ↓reduceIte, Nat.reduceEqDiff, Nat.reduceAdd, Nat.reduceMul, Nat.reduceLeDiff, Nat.reduceLT, Int.reduceLE, Int.reduceLT, reduceCtorEq]
  all_goals refine hci.go ?_
  all_goals try simp only [OpK_eq, HKv, bne_self_eq_false, decide_true, Bool.not_true, beq_self_eq_true, Bool.not_false, take6, List.drop_zero, Int.cast_ofNat_Int, go_sem, ↓reduceIte, Nat.reduceEqDiff, Nat.reduceAdd, Nat.reduceMul, Nat.reduceLeDiff, Nat.reduceLT, Int.reduceLE, Int.reduceLT, reduceCtorEq]
  all_goals refine hcs.go ?_
  all_goals try simp only [OpK_eq, HKv, bne_self_eq_false, decide_true, Bool.not_true, beq_self_eq_true, Bool.not_false, take6, List.drop_zero, Int.cast_ofNat_Int, go_sem, ↓reduceIte, Nat.reduceEqDiff, Nat.reduceAdd, Nat.reduceMul, Nat.reduceLeDiff, Nat.reduceLT, Int.reduceLE, Int.reduceLT, reduceCtorEq]
  all_goals refine p19 hB fun m h6 => ?_
  all_goals obtain ⟨w, v, r3, hw, hv, i1, s1, k1, i2, s2, k3, hc⟩ := hb_loc m h6
  all_goals try simp only [OpK_eq, HKv, bne_self_eq_false, decide_true, Bool.not_true, beq_self_eq_true, Bool.not_false, h6, take6, List.drop_zero, Int.cast_ofNat_Int, go_sem, ↓reduceIte, Nat.reduceEqDiff, Nat.reduceAdd, Nat.reduceMul, Nat.reduceLeDiff, Nat.reduceLT, Int.reduceLE, Int.reduceLT, reduceCtorEq]
  all_goals refine i1.go ?_
  all_goals try simp only [OpK_eq, HKv, bne_self_eq_false, decide_true, Bool.not_true, beq_self_eq_true, Bool.not_false, h6, take6, List.drop_zero, Int.cast_ofNat_Int, go_sem, ↓reduceIte, Nat.reduceEqDiff, Nat.reduceAdd, Nat.reduceMul, Nat.reduceLeDiff, Nat.reduceLT, Int.reduceLE, Int.reduceLT, reduceCtorEq]
  all_goals refine s1.go ?_
  all_goals try simp only [OpK_eq, HKv, bne_self_eq_false, decide_true, Bool.not_true, beq_self_eq_true, Bool.not_false, h6, take6, List.drop_zero, Int.cast_ofNat_Int, go_sem, ↓reduceIte, Nat.reduceEqDiff, Nat.reduceAdd, Nat.reduceMul, Nat.reduceLeDiff, Nat.reduceLT, Int.reduceLE, Int.reduceLT, reduceCtorEq]
  all_goals refine i2.go ?_
  all_goals try simp only [OpK_eq, HKv, bne_self_eq_false, decide_true, Bool.not_true, beq_self_eq_true, Bool.not_false, h6, take6, List.drop_zero, Int.cast_ofNat_Int, go_sem, ↓reduceIte, Nat.reduceEqDiff, Nat.reduceAdd, Nat.reduceMul, Nat.reduceLeDiff, Nat.reduceLT, Int.reduceLE, Int.reduceLT, reduceCtorEq]
  all_goals refine s2.go ?_
  all_goals try simp only [OpK_eq, HKv, bne_self_eq_false, decide_true, Bool.not_true, beq_self_eq_true, Bool.not_false, h6, take6, List.drop_zero, Int.cast_ofNat_Int, go_sem, ↓reduceIte, Nat.reduceEqDiff, Nat.reduceAdd, Nat.reduceMul, Nat.reduceLeDiff, Nat.reduceLT, Int.reduceLE, Int.reduceLT, reduceCtorEq]
  all_goals refine k1.go ?_
  all_goals try simp only [OpK_eq, HKv, bne_self_eq_false, decide_true, Bool.not_true, beq_self_eq_true, Bool.not_false, h6, take6, List.drop_zero, Int.cast_ofNat_Int, go_sem, ↓reduceIte, Nat.reduceEqDiff, Nat.reduceAdd, Nat.reduceMul, Nat.reduceLeDiff, Nat.reduceLT, Int.reduceLE, Int.reduceLT, reduceCtorEq]
  all_goals refine k3.go ?_
  all_goals try simp only [OpK_eq, HKv, bne_self_eq_false, decide_true, Bool.not_true, beq_self_eq_true, Bool.not_false, h6, take6, List.drop_zero, Int.cast_ofNat_Int, go_sem, ↓reduceIte, Nat.reduceEqDiff, Nat.reduceAdd, Nat.reduceMul, Nat.reduceLeDiff, Nat.reduceLT, Int.reduceLE, Int.reduceLT, reduceCtorEq]
  all_goals refine ⟨fun h => ?_, fun _ => Kv.Fin.still ⟨rfl, rfl⟩⟩
  all_goals subst h
  all_goals obtain ⟨f, n', hf, rfl, rfl, rfl⟩ := hc.elim (fun h => h.2) (fun h => absurd h (by decide))
  all_goals have hsT := sumP hf
  all_goals refine (p24_in f n' hf).go ?_
  all_goals try simp only [OpK_eq, HKv, bne_self_eq_false, decide_true, Bool.not_true, beq_self_eq_true, Bool.not_false, h6, take6, List.drop_zero, Int.cast_ofNat_Int, go_sem, ↓reduceIte, Nat.reduceEqDiff, Nat.reduceAdd, Nat.reduceMul, Nat.reduceLeDiff, Nat.reduceLT, Int.reduceLE, Int.reduceLT, reduceCtorEq]
  all_goals refine (NewIO.frozen (p25_in f n' hf)).go ?_
  all_goals try simp only [OpK_eq, HKv, bne_self_eq_false, decide_true, Bool.not_true, beq_self_eq_true, Bool.not_false, h6, take6, List.drop_zero, Int.cast_ofNat_Int, go_sem, ↓reduceIte, Nat.reduceEqDiff, Nat.reduceAdd, Nat.reduceMul, Nat.reduceLeDiff, Nat.reduceLT, Int.reduceLE, Int.reduceLT, reduceCtorEq]
  all_goals refine p26G f n' hf fun a L hR hL => ?_
  all_goals try simp only [OpK_eq, HKv, bne_self_eq_false, decide_true, Bool.not_true, beq_self_eq_true, Bool.not_false, h6, take6, List.drop_zero, Int.cast_ofNat_Int, go_sem, ↓reduceIte, Nat.reduceEqDiff, Nat.reduceAdd, Nat.reduceMul, Nat.reduceLeDiff, Nat.reduceLT, Int.reduceLE, Int.reduceLT, reduceCtorEq]
  all_goals refine hsT.go ?_
  all_goals try simp only [OpK_eq, HKv, bne_self_eq_false, decide_true, Bool.not_true, beq_self_eq_true, Bool.not_false, h6, List.length_map, take6, List.drop_zero, Int.cast_ofNat_Int, go_sem, ↓reduceIte, Nat.reduceEqDiff, Nat.reduceAdd, Nat.reduceMul, Nat.reduceLeDiff, Nat.reduceLT, Int.reduceLE, Int.reduceLT, reduceCtorEq]
  all_goals refine maxLoop (a := a) hf (by simp [keep]) fun env' hk => ?_
  all_goals obtain ⟨k36, k39⟩ : Kv.look env' 36 = PV.int .i64 a ∧ Kv.look env' 39 = PV.int .i64 (mxH f n' n') := by simpa [keep] using hk
  all_goals rw [mxH_eq hf hR] at k39
  all_goals try simp only [OpK_eq, HKv, bne_self_eq_false, decide_true, Bool.not_true, beq_self_eq_true, Bool.not_false, k36, k39, take6, List.drop_zero, Int.cast_ofNat_Int, go_sem, ↓reduceIte, Nat.reduceEqDiff, Nat.reduceAdd, Nat.reduceMul, Nat.reduceLeDiff, Nat.reduceLT, Int.reduceLE, Int.reduceLT, reduceCtorEq]
  all_goals exact Kv.Fin.still ⟨rfl, rfl⟩
end Go.Proofs.YtpfapiiinkkcgaaGreat
