/- The code of DpollNames, as the abstract machine takes it: printed by a program. -/
import Derived.Test.YtjkijoiogdojnaaGreatPrim
set_option maxRecDepth 100000
namespace Am.DpollNames
open Am Go
def c3_0 : AC :=
  .seq (.region 0 [.mk4 0 (some 194) (.mv (.c (.bool true))) none,
    .mk4 1 (some 195) (.call 18 [(.c (.i 1))]) (some (194, true)),
    .mk4 2 (some 196) (.pick (.t 194) (.t 195) (.c (.bool false))) none,
    .mk4 3 (some 197) (.mv (.t 196)) none,
    .mk4 4 (some 198) (.call 18 [(.c (.i 2))]) (some (197, true)),
    .mk4 5 (some 199) (.pick (.t 197) (.t 198) (.c (.bool false))) none,
    .mk4 6 (some 200) (.mv (.t 199)) none,
    .mk4 7 (some 201) (.mv (.t 17)) (some (200, true)),
    .mk4 8 (some 202) (.pick (.t 200) (.t 201) (.c (.bool false))) none,
    .mk4 9 (some 203) (.mv (.t 202)) none,
    .mk4 10 (some 204) (.mv (.t 27)) (some (203, true)),
    .mk4 11 (some 205) (.pick (.t 203) (.t 204) (.c (.bool false))) none,
    .mk4 12 (some 206) (.mv (.t 205)) none,
    .mk4 13 (some 207) (.mv (.t 30)) (some (206, true)),
    .mk4 14 (some 208) (.bin .eql (.t 207) (.c (.i 0))) (some (206, true)),
    .mk4 15 (some 209) (.pick (.t 206) (.t 208) (.c (.bool false))) none,
    .mk4 16 (some 210) (.mv (.t 209)) none,
    .mk4 17 (some 211) (.mv (.t 31)) (some (210, true)),
    .mk4 18 (some 212) (.bin .eql (.t 211) (.c (.i 110))) (some (210, true)),
    .mk4 19 (some 213) (.pick (.t 210) (.t 212) (.c (.bool false))) none,
    .mk4 20 (some 214) (.mv (.t 213)) none,
    .mk4 21 (some 215) (.mv (.t 33)) (some (214, true)),
    .mk4 22 (some 216) (.bin .eql (.t 215) (.c (.i 2))) (some (214, true)),
    .mk4 23 (some 217) (.pick (.t 214) (.t 216) (.c (.bool false))) none,
    .mk4 24 (some 218) (.mv (.t 217)) none,
    .mk4 25 (some 219) (.mv (.t 35)) (some (218, true)),
    .mk4 26 (some 220) (.bin .eql (.t 219) (.c (.i 1))) (some (218, true)),
    .mk4 27 (some 221) (.pick (.t 218) (.t 220) (.c (.bool false))) none,
    .mk4 28 (some 222) (.mv (.t 221)) none,
    .mk4 29 (some 223) (.mv (.t 36)) (some (222, true)),
    .mk4 30 (some 224) (.call 9 [(.t 223), (.c (.i 0)), (.c (.i 2))]) (some (222, true)),
    .mk4 31 (some 225) (.bin .eql (.t 224) (.c (.i 1))) (some (222, true)),
    .mk4 32 (some 226) (.pick (.t 222) (.t 225) (.c (.bool false))) none,
    .mk4 33 (some 227) (.mv (.t 226)) none,
    .mk4 34 (some 228) (.mv (.t 36)) (some (227, true)),
    .mk4 35 (some 229) (.call 10 [(.t 228), (.c (.i 0))]) (some (227, true)),
    .mk4 36 (some 230) (.bin .eql (.t 229) (.c (.i 0))) (some (227, true)),
    .mk4 37 (some 231) (.pick (.t 227) (.t 230) (.c (.bool false))) none,
    .mk4 38 (some 232) (.mv (.t 231)) none,
    .mk4 39 (some 233) (.mv (.t 36)) (some (232, true)),
    .mk4 40 (some 234) (.call 15 [(.t 233), (.c (.i 0))]) (some (232, true)),
    .mk4 41 (some 235) (.bin .eql (.t 234) (.c (.i 1))) (some (232, true)),
    .mk4 42 (some 236) (.pick (.t 232) (.t 235) (.c (.bool false))) none,
    .mk4 43 (some 0) (.mv (.t 236)) none] [0]) (.ret)
def c3_1 : AC :=
  .seq (.region 0 [.mk4 0 (some 191) (.call 8 [(.c (.ptr none)), (.c (.i 2))]) none,
    .mk4 1 (some 190) (.mv (.t 191)) none,
    .mk4 2 (some 192) (.extract (.t 190) 0) none,
    .mk4 3 (some 193) (.extract (.t 190) 1) none,
    .mk4 4 (some 34) (.mv (.t 192)) none,
    .mk4 5 (some 35) (.mv (.t 193)) none] [17, 27, 30, 31, 33, 35]) (.seq (.region 0 [.mk4 0 (some 36) (.mv (.c (.ptr none))) none] [17, 27, 30, 31, 33, 35, 36]) (c3_0))
def c3_2 : AC :=
  .seq (.region 0 [.mk4 0 (some 186) (.mv (.t 1)) none,
    .mk4 1 (some 187) (.call 8 [(.t 186), (.c (.i 3))]) none,
    .mk4 2 (some 185) (.mv (.t 187)) none,
    .mk4 3 (some 188) (.extract (.t 185) 0) none,
    .mk4 4 (some 189) (.extract (.t 185) 1) none,
    .mk4 5 (some 32) (.mv (.t 188)) none,
    .mk4 6 (some 33) (.mv (.t 189)) none] [17, 27, 30, 31, 33]) (c3_1)
def c3_3 : AC :=
  .seq (.region 0 [.mk4 0 (some 179) (.mv (.t 2)) none,
    .mk4 1 (some 180) (.call 11 [(.t 179), (.c (.ptr none)), (.c (.int .u64 5)), (.c (.bool false))]) none,
    .mk4 2 (some 178) (.mv (.t 180)) none,
    .mk4 3 (some 181) (.extract (.t 178) 0) none,
    .mk4 4 (some 182) (.extract (.t 178) 1) none,
    .mk4 5 (some 183) (.extract (.t 178) 2) none,
    .mk4 6 (some 184) (.extract (.t 178) 3) none,
    .mk4 7 (some 28) (.mv (.t 181)) none,
    .mk4 8 (some 29) (.mv (.t 182)) none,
    .mk4 9 (some 30) (.mv (.t 183)) none,
    .mk4 10 (some 31) (.mv (.t 184)) none] [1, 17, 27, 30, 31]) (c3_2)
def c3_4 : AC :=
  .seq (.region 0 [.mk4 0 (some 147) (.mv (.t 20)) none,
    .mk4 1 (some 148) (.bin .eql (.t 147) (.c (.i 4))) none,
    .mk4 2 (some 149) (.mv (.t 148)) none,
    .mk4 3 (some 150) (.mv (.t 22)) (some (149, true)),
    .mk4 4 (some 151) (.bin .eql (.t 150) (.c (.i 0))) (some (149, true)),
    .mk4 5 (some 152) (.pick (.t 149) (.t 151) (.c (.bool false))) none,
    .mk4 6 (some 153) (.mv (.t 152)) none,
    .mk4 7 (some 154) (.mv (.t 26)) (some (153, true)),
    .mk4 8 (some 155) (.bin .eql (.t 154) (.c (.i 0))) (some (153, true)),
    .mk4 9 (some 156) (.pick (.t 153) (.t 155) (.c (.bool false))) none,
    .mk4 10 (some 157) (.mv (.t 156)) none,
    .mk4 11 (some 158) (.mv (.t 23)) (some (157, true)),
    .mk4 12 (some 159) (.lenL (.t 158)) (some (157, true)),
    .mk4 13 (some 160) (.bin .eql (.t 159) (.c (.i 0))) (some (157, true)),
    .mk4 14 (some 161) (.pick (.t 157) (.t 160) (.c (.bool false))) none,
    .mk4 15 (some 162) (.mv (.t 161)) none,
    .mk4 16 (some 163) (.mv (.t 24)) (some (162, true)),
    .mk4 17 (some 164) (.lenL (.t 163)) (some (162, true)),
    .mk4 18 (some 165) (.bin .eql (.t 164) (.c (.i 1))) (some (162, true)),
    .mk4 19 (some 166) (.pick (.t 162) (.t 165) (.c (.bool false))) none,
    .mk4 20 (some 167) (.mv (.t 166)) none,
    .mk4 21 (some 168) (.mv (.t 24)) (some (167, true)),
    .mk4 22 (some 169) (.ixaS 2 (.t 168) (.c (.i 0))) (some (167, true)),
    .mk4 23 (some 170) (.loadN 2 (.t 169)) (some (167, true)),
    .mk4 24 (some 171) (.build [.i 0, .i 0] [(0, 1, (.c (.i 3))), (1, 1, (.c (.i 1)))]) (some (167, true)),
    .mk4 25 (some 172) (.eq (.agg [.int .i64, .int .i64]) false (.t 170) (.t 171)) (some (167, true)),
    .mk4 26 (some 173) (.pick (.t 167) (.t 172) (.c (.bool false))) none,
    .mk4 27 (some 27) (.mv (.t 173)) none] [1, 2, 17, 27]) (.seq (.region 0 [.mk4 0 (some 174) (.mv (.t 2)) none,
    .mk4 1 (some 175) (.call 9 [(.t 174), (.c (.i 2)), (.c (.i 2))]) none] [1, 2, 17, 27]) (.seq (.region 0 [.mk4 0 (some 176) (.mv (.t 1)) none,
    .mk4 1 (some 177) (.call 17 [(.t 176), (.c (.i 2))]) none] [1, 2, 17, 27]) (c3_3)))
def c3_5 : AC :=
  .seq (.region 0 [.mk4 0 (some 141) (.mv (.t 2)) none,
    .mk4 1 (some 142) (.call 11 [(.t 141), (.c (.ptr none)), (.c (.int .u64 5)), (.c (.bool false))]) none,
    .mk4 2 (some 140) (.mv (.t 142)) none,
    .mk4 3 (some 143) (.extract (.t 140) 0) none,
    .mk4 4 (some 144) (.extract (.t 140) 1) none,
    .mk4 5 (some 145) (.extract (.t 140) 2) none,
    .mk4 6 (some 146) (.extract (.t 140) 3) none,
    .mk4 7 (some 23) (.mv (.t 143)) none,
    .mk4 8 (some 24) (.mv (.t 144)) none,
    .mk4 9 (some 25) (.mv (.t 145)) none,
    .mk4 10 (some 26) (.mv (.t 146)) none] [1, 2, 17, 20, 22, 23, 24, 26]) (c3_4)
def c3_6 : AC :=
  .seq (.region 0 [.mk4 0 (some 136) (.mv (.t 2)) none,
    .mk4 1 (some 137) (.call 15 [(.t 136), (.c (.i 1))]) none,
    .mk4 2 (some 22) (.mv (.t 137)) none] [1, 2, 17, 20, 22]) (.seq (.region 0 [.mk4 0 (some 138) (.mv (.t 1)) none,
    .mk4 1 (some 139) (.call 16 [(.t 138), (.c (.i 3))]) none] [1, 2, 17, 20, 22]) (c3_5))
def c3_7 : AC :=
  .seq (.region 0 [.mk4 0 (some 132) (.mv (.t 1)) none,
    .mk4 1 (some 133) (.call 13 [(.t 132), (.c (.i 1)), (.c (.i 2))]) none] [1, 2, 17, 20]) (.seq (.region 0 [.mk4 0 (some 134) (.mv (.t 1)) none,
    .mk4 1 (some 135) (.call 14 [(.t 134), (.c (.i 3)), (.c (.bool true))]) none] [1, 2, 17, 20]) (c3_6))
def c3_8 : AC :=
  .seq (.region 0 [.mk4 0 (some 126) (.mv (.t 2)) none,
    .mk4 1 (some 127) (.call 11 [(.t 126), (.c (.ptr none)), (.c (.int .u64 5)), (.c (.bool true))]) none,
    .mk4 2 (some 125) (.mv (.t 127)) none,
    .mk4 3 (some 128) (.extract (.t 125) 0) none,
    .mk4 4 (some 129) (.extract (.t 125) 1) none,
    .mk4 5 (some 130) (.extract (.t 125) 2) none,
    .mk4 6 (some 131) (.extract (.t 125) 3) none,
    .mk4 7 (some 18) (.mv (.t 128)) none,
    .mk4 8 (some 19) (.mv (.t 129)) none,
    .mk4 9 (some 20) (.mv (.t 130)) none,
    .mk4 10 (some 21) (.mv (.t 131)) none] [1, 2, 17, 20]) (c3_7)
def c3_9 : AC :=
  .seq (.region 0 [.mk4 0 (some 77) (.mv (.t 4)) none,
    .mk4 1 (some 78) (.bin .eql (.t 77) (.c (.i 0))) none,
    .mk4 2 (some 79) (.mv (.t 78)) none,
    .mk4 3 (some 80) (.mv (.t 5)) (some (79, true)),
    .mk4 4 (some 81) (.bin .eql (.t 80) (.c (.i 191))) (some (79, true)),
    .mk4 5 (some 82) (.pick (.t 79) (.t 81) (.c (.bool false))) none,
    .mk4 6 (some 83) (.mv (.t 82)) none,
    .mk4 7 (some 84) (.mv (.t 6)) (some (83, true)),
    .mk4 8 (some 85) (.bin .eql (.t 84) (.c (.i 110))) (some (83, true)),
    .mk4 9 (some 86) (.pick (.t 83) (.t 85) (.c (.bool false))) none,
    .mk4 10 (some 87) (.mv (.t 86)) none,
    .mk4 11 (some 88) (.mv (.t 7)) (some (87, true)),
    .mk4 12 (some 89) (.bin .eql (.t 88) (.c (.i 2))) (some (87, true)),
    .mk4 13 (some 90) (.pick (.t 87) (.t 89) (.c (.bool false))) none,
    .mk4 14 (some 91) (.mv (.t 90)) none,
    .mk4 15 (some 92) (.mv (.t 8)) (some (91, true)),
    .mk4 16 (some 93) (.bin .eql (.t 92) (.c (.i 2))) (some (91, true)),
    .mk4 17 (some 94) (.pick (.t 91) (.t 93) (.c (.bool false))) none,
    .mk4 18 (some 95) (.mv (.t 94)) none,
    .mk4 19 (some 96) (.mv (.t 12)) (some (95, true)),
    .mk4 20 (some 97) (.bin .eql (.t 96) (.c (.i 0))) (some (95, true)),
    .mk4 21 (some 98) (.pick (.t 95) (.t 97) (.c (.bool false))) none,
    .mk4 22 (some 99) (.mv (.t 98)) none,
    .mk4 23 (some 100) (.mv (.t 9)) (some (99, true)),
    .mk4 24 (some 101) (.lenL (.t 100)) (some (99, true)),
    .mk4 25 (some 102) (.bin .eql (.t 101) (.c (.i 1))) (some (99, true)),
    .mk4 26 (some 103) (.pick (.t 99) (.t 102) (.c (.bool false))) none,
    .mk4 27 (some 104) (.mv (.t 103)) none,
    .mk4 28 (some 105) (.mv (.t 9)) (some (104, true)),
    .mk4 29 (some 106) (.ixaS 2 (.t 105) (.c (.i 0))) (some (104, true)),
    .mk4 30 (some 107) (.faddr 1 (.t 106)) (some (104, true)),
    .mk4 31 (some 108) (.load1 (.t 107)) (some (104, true)),
    .mk4 32 (some 109) (.bin .eql (.t 108) (.c (.i 6))) (some (104, true)),
    .mk4 33 (some 110) (.pick (.t 104) (.t 109) (.c (.bool false))) none,
    .mk4 34 (some 111) (.mv (.t 110)) none,
    .mk4 35 (some 112) (.mv (.t 11)) (some (111, true)),
    .mk4 36 (some 113) (.bin .eql (.t 112) (.c (.i 1))) (some (111, true)),
    .mk4 37 (some 114) (.pick (.t 111) (.t 113) (.c (.bool false))) none,
    .mk4 38 (some 115) (.mv (.t 114)) none,
    .mk4 39 (some 116) (.mv (.t 15)) (some (115, true)),
    .mk4 40 (some 117) (.bin .eql (.t 116) (.c (.i 1))) (some (115, true)),
    .mk4 41 (some 118) (.pick (.t 115) (.t 117) (.c (.bool false))) none,
    .mk4 42 (some 119) (.mv (.t 118)) none,
    .mk4 43 (some 120) (.mv (.t 16)) (some (119, true)),
    .mk4 44 (some 121) (.bin .eql (.t 120) (.c (.i 0))) (some (119, true)),
    .mk4 45 (some 122) (.pick (.t 119) (.t 121) (.c (.bool false))) none,
    .mk4 46 (some 17) (.mv (.t 122)) none] [1, 2, 17]) (.seq (.region 0 [.mk4 0 (some 123) (.mv (.t 2)) none,
    .mk4 1 (some 124) (.call 12 [(.t 123), (.c (.i 0))]) none] [1, 2, 17]) (c3_8))
def c3_10 : AC :=
  .seq (.region 0 [.mk4 0 (some 71) (.mv (.t 2)) none,
    .mk4 1 (some 72) (.call 11 [(.t 71), (.c (.ptr none)), (.c (.int .u64 0)), (.c (.bool true))]) none,
    .mk4 2 (some 70) (.mv (.t 72)) none,
    .mk4 3 (some 73) (.extract (.t 70) 0) none,
    .mk4 4 (some 74) (.extract (.t 70) 1) none,
    .mk4 5 (some 75) (.extract (.t 70) 2) none,
    .mk4 6 (some 76) (.extract (.t 70) 3) none,
    .mk4 7 (some 13) (.mv (.t 73)) none,
    .mk4 8 (some 14) (.mv (.t 74)) none,
    .mk4 9 (some 15) (.mv (.t 75)) none,
    .mk4 10 (some 16) (.mv (.t 76)) none] [1, 2, 4, 5, 6, 7, 8, 9, 11, 12, 15, 16]) (c3_9)
def c3_11 : AC :=
  .seq (.region 0 [.mk4 0 (some 64) (.mv (.t 2)) none,
    .mk4 1 (some 65) (.call 11 [(.t 64), (.c (.ptr none)), (.c (.int .u64 0)), (.c (.bool false))]) none,
    .mk4 2 (some 63) (.mv (.t 65)) none,
    .mk4 3 (some 66) (.extract (.t 63) 0) none,
    .mk4 4 (some 67) (.extract (.t 63) 1) none,
    .mk4 5 (some 68) (.extract (.t 63) 2) none,
    .mk4 6 (some 69) (.extract (.t 63) 3) none,
    .mk4 7 (some 9) (.mv (.t 66)) none,
    .mk4 8 (some 10) (.mv (.t 67)) none,
    .mk4 9 (some 11) (.mv (.t 68)) none,
    .mk4 10 (some 12) (.mv (.t 69)) none] [1, 2, 4, 5, 6, 7, 8, 9, 11, 12]) (c3_10)
def c3_12 : AC :=
  .seq (.region 0 [.mk4 0 (some 59) (.mv (.t 2)) none,
    .mk4 1 (some 60) (.call 10 [(.t 59), (.c (.i 0))]) none,
    .mk4 2 (some 8) (.mv (.t 60)) none] [1, 2, 4, 5, 6, 7, 8]) (.seq (.region 0 [.mk4 0 (some 61) (.mv (.t 2)) none,
    .mk4 1 (some 62) (.call 9 [(.t 61), (.c (.i 0)), (.c (.i 6))]) none] [1, 2, 4, 5, 6, 7, 8]) (c3_11))
def c3_13 : AC :=
  .seq (.region 0 [.mk4 0 (some 55) (.mv (.t 2)) none,
    .mk4 1 (some 56) (.call 9 [(.t 55), (.c (.i 5)), (.c (.i 2))]) none,
    .mk4 2 (some 6) (.mv (.t 56)) none] [1, 2, 4, 5, 6]) (.seq (.region 0 [.mk4 0 (some 57) (.mv (.t 2)) none,
    .mk4 1 (some 58) (.call 9 [(.t 57), (.c (.i 0)), (.c (.i 32))]) none,
    .mk4 2 (some 7) (.mv (.t 58)) none] [1, 2, 4, 5, 6, 7]) (c3_12))
def c3_14 : AC :=
  .seq (.region 0 [.mk4 0 (some 51) (.mv (.t 2)) none,
    .mk4 1 (some 52) (.call 9 [(.t 51), (.c (.i 0)), (.c (.i 2))]) none,
    .mk4 2 (some 4) (.mv (.t 52)) none] [1, 2, 4]) (.seq (.region 0 [.mk4 0 (some 53) (.mv (.t 2)) none,
    .mk4 1 (some 54) (.call 9 [(.t 53), (.c (.i 0)), (.c (.i 34))]) none,
    .mk4 2 (some 5) (.mv (.t 54)) none] [1, 2, 4, 5]) (c3_13))
def c3_15 : AC :=
  .seq (.region 0 [.mk4 0 (some 47) (.mv (.t 1)) none,
    .mk4 1 (some 48) (.call 8 [(.t 47), (.c (.i 2))]) none,
    .mk4 2 (some 46) (.mv (.t 48)) none,
    .mk4 3 (some 49) (.extract (.t 46) 0) none,
    .mk4 4 (some 50) (.extract (.t 46) 1) none,
    .mk4 5 (some 2) (.mv (.t 49)) none,
    .mk4 6 (some 3) (.mv (.t 50)) none] [1, 2]) (c3_14)
def c3_16 : AC :=
  .seq (.region 0 [.mk4 0 (some 40) (.mv (.t 1)) none,
    .mk4 1 (some 41) (.call 6 [(.t 40), (.c (.i 8))]) none] [1]) (.seq (.region 0 [.mk4 0 (some 42) (.mv (.t 1)) none,
    .mk4 1 (some 43) (.bslice 1 1 [.int .u8 0] [(0, (.c (.int .u8 97)))]) none,
    .mk4 2 (some 44) (.mark (.t 43)) none,
    .mk4 3 (some 45) (.call 7 [(.t 42), (.c (.i 0)), (.t 44)]) none] [1]) (c3_15))
def c3 : AFn := ⟨0, 237, [.tmp 0],
  (.seq (.region 0 [.mk4 0 (some 0) (.mv (.c (.bool false))) none] []) (.seq (.region 0 [.mk4 0 (some 37) (.call 4 []) none,
    .mk4 1 (some 1) (.mv (.t 37)) none] [1]) (.seq (.region 0 [.mk4 0 (some 38) (.mv (.t 1)) none,
    .mk4 1 (some 39) (.call 5 [(.t 38), (.c (.i 4))]) none] [1]) (c3_16))))⟩
def c4_0 : AC :=
  .seq (.region 0 [.mk4 0 (some 1) (.call 19 []) none,
    .mk4 1 (some 2) (.build ((List.replicate 96 ([.bool false, .i 0, .i 0] : List V)).flatten ++ [.nils, .ptr none, .int .u64 0, .bool false, .i 0, .i 0]) [(289, 1, (.t 1))]) none,
    .mk4 2 (some 3) (.box 294 (.t 2)) none,
    .mk4 3 (some 0) (.mv (.t 3)) none] [0]) (.ret)
def c4 : AFn := ⟨0, 4, [.tmp 0],
  (.seq (.region 0 [.mk4 0 (some 0) (.mv (.c (.ptr none))) none] []) (c4_0))⟩
def c5_0 : AC :=
  .seq (.region 0 [.mk4 0 (some 26) (.mv (.t 8)) none,
    .mk4 1 (some 27) (.ixaS 1 (.t 26) (.c (.i 0))) none,
    .mk4 2 (some 28) (.load1 (.t 27)) none,
    .mk4 3 (some 29) (.mv (.t 0)) none,
    .mk4 4 (some 30) (.nilck (.t 29)) none,
    .mk4 5 (some 31) (.faddr 288 (.t 30)) none,
    .mk4 6 (some 32) (.load1 (.t 31)) none,
    .mk4 7 (some 33) (.lenL (.t 32)) none,
    .mk4 8 (some 34) (.bin .sub (.t 33) (.c (.i 1))) none,
    .mk4 9 (some 4) (.mv (.t 28)) none,
    .mk4 10 (some 5) (.mv (.t 34)) none,
    .mk4 11 (some 6) (.mv (.c (.i 0))) none] [4, 5, 6]) (.ret)
def c5_1 : AC :=
  .seq (.seq (.region 0 [.mk4 0 (some 23) (.mv (.t 6)) none,
    .mk4 1 (some 24) (.bin .neq (.t 23) (.c (.i 0))) none] [0, 6, 8, 24]) (.cond (.t 24) (.seq (.region 0 [.mk4 0 (some 25) (.mv (.t 6)) none,
    .mk4 1 (some 4) (.mv (.c (.i 0))) none,
    .mk4 2 (some 5) (.mv (.c (.i 0))) none,
    .mk4 3 (some 6) (.mv (.t 25)) none] [4, 5, 6]) (.ret)) (.skip))) (c5_0)
def c5_2 : AC :=
  .seq (.region 0 [.mk4 0 (some 17) (.mv (.t 0)) none,
    .mk4 1 (some 18) (.mv (.t 1)) none,
    .mk4 2 (some 19) (.mv (.t 7)) none,
    .mk4 3 (some 20) (.call 21 [(.t 17), (.t 18), (.c (.i 1)), (.t 19)]) none,
    .mk4 4 (some 16) (.mv (.t 20)) none,
    .mk4 5 (some 21) (.extract (.t 16) 0) none,
    .mk4 6 (some 22) (.extract (.t 16) 1) none,
    .mk4 7 (some 8) (.mv (.t 21)) none,
    .mk4 8 (some 6) (.mv (.t 22)) none] [0, 6, 8]) (c5_1)
def c5_3 : AC :=
  .seq (.region 0 [.mk4 0 (some 11) (.mv (.t 7)) none,
    .mk4 1 (some 12) (.nilck (.t 11)) none,
    .mk4 2 (some 13) (.faddr 0 (.t 12)) none,
    .mk4 3 (some 14) (.ixaA 2 7 (.t 13) (.c (.i 1))) none,
    .mk4 4 (some 15) (.faddr 0 (.t 14)) none,
    .mk4 5 none (.store 1 (.t 15) (.c (.i 2))) none] [0, 1, 7]) (c5_2)
def c5_4 : AC :=
  .seq (.region 0 [.mk4 0 (some 4) (.mv (.c (.i 0))) none,
    .mk4 1 (some 5) (.mv (.c (.i 0))) none,
    .mk4 2 (some 6) (.mv (.c (.i 0))) none] [0, 1]) (.seq (.region 0 [.mk4 0 (some 9) (.mv (.t 1)) none,
    .mk4 1 (some 10) (.call 20 [(.t 9)]) none,
    .mk4 2 (some 7) (.mv (.t 10)) none] [0, 1, 7]) (c5_3))
def c5 : AFn := ⟨2, 35, [.tmp 4, .tmp 5, .tmp 6],
  (c5_4)⟩
def c6_0 : AC :=
  .seq (.region 0 [.mk4 0 (some 19) (.mv (.t 7)) none,
    .mk4 1 (some 20) (.ixaS 1 (.t 19) (.c (.i 0))) none,
    .mk4 2 (some 21) (.load1 (.t 20)) none,
    .mk4 3 (some 22) (.mv (.t 7)) none,
    .mk4 4 (some 23) (.ixaS 1 (.t 22) (.c (.i 1))) none,
    .mk4 5 (some 24) (.load1 (.t 23)) none,
    .mk4 6 (some 4) (.mv (.t 21)) none,
    .mk4 7 (some 5) (.mv (.t 24)) none,
    .mk4 8 (some 6) (.mv (.c (.i 0))) none] [4, 5, 6]) (.ret)
def c6_1 : AC :=
  .seq (.seq (.region 0 [.mk4 0 (some 16) (.mv (.t 6)) none,
    .mk4 1 (some 17) (.bin .neq (.t 16) (.c (.i 0))) none] [6, 7, 17]) (.cond (.t 17) (.seq (.region 0 [.mk4 0 (some 18) (.mv (.t 6)) none,
    .mk4 1 (some 4) (.mv (.c (.i 0))) none,
    .mk4 2 (some 5) (.mv (.c (.i 0))) none,
    .mk4 3 (some 6) (.mv (.t 18)) none] [4, 5, 6]) (.ret)) (.skip))) (c6_0)
def c6_2 : AC :=
  .seq (.region 0 [.mk4 0 (some 9) (.mv (.t 0)) none,
    .mk4 1 (some 10) (.mv (.t 1)) none,
    .mk4 2 (some 11) (.mv (.t 1)) none,
    .mk4 3 (some 12) (.call 20 [(.t 11)]) none,
    .mk4 4 (some 13) (.call 21 [(.t 9), (.t 10), (.c (.i 2)), (.t 12)]) none,
    .mk4 5 (some 8) (.mv (.t 13)) none,
    .mk4 6 (some 14) (.extract (.t 8) 0) none,
    .mk4 7 (some 15) (.extract (.t 8) 1) none,
    .mk4 8 (some 7) (.mv (.t 14)) none,
    .mk4 9 (some 6) (.mv (.t 15)) none] [6, 7]) (c6_1)
def c6 : AFn := ⟨2, 25, [.tmp 4, .tmp 5, .tmp 6],
  (.seq (.region 0 [.mk4 0 (some 4) (.mv (.c (.i 0))) none,
    .mk4 1 (some 5) (.mv (.c (.i 0))) none,
    .mk4 2 (some 6) (.mv (.c (.i 0))) none] [0, 1]) (c6_2))⟩
def c7_0 : AC :=
  .seq (.region 0 [.mk4 0 (some 26) (.mv (.t 8)) none,
    .mk4 1 (some 27) (.nilck (.t 26)) none,
    .mk4 2 (some 28) (.faddr 0 (.t 27)) none,
    .mk4 3 (some 29) (.ixaA 2 7 (.t 28) (.c (.i 1))) none,
    .mk4 4 (some 30) (.faddr 4 (.t 29)) none,
    .mk4 5 (some 31) (.load1 (.t 30)) none,
    .mk4 6 (some 32) (.mv (.t 31)) none,
    .mk4 7 (some 33) (.mv (.t 8)) (some (32, false)),
    .mk4 8 (some 34) (.nilck (.t 33)) (some (32, false)),
    .mk4 9 (some 35) (.faddr 0 (.t 34)) (some (32, false)),
    .mk4 10 (some 36) (.ixaA 2 7 (.t 35) (.c (.i 0))) (some (32, false)),
    .mk4 11 (some 37) (.faddr 0 (.t 36)) (some (32, false)),
    .mk4 12 (some 38) (.load1 (.t 37)) (some (32, false)),
    .mk4 13 (some 39) (.bin .eql (.t 38) (.c (.i 3))) (some (32, false)),
    .mk4 14 (some 40) (.pick (.t 32) (.c (.bool true)) (.t 39)) none,
    .mk4 15 (some 25) (.mv (.t 40)) none] [2, 8, 25]) (.cond (.t 25) (.seq (.region 0 [.mk4 0 (some 6) (.mv (.c (.i 0))) none,
    .mk4 1 (some 7) (.mv (.c (.i 114))) none] [6, 7]) (.ret)) (.skip))
def c7_1 : AC :=
  .seq (.region 0 [.mk4 0 (some 21) (.mv (.t 8)) none,
    .mk4 1 (some 22) (.nilck (.t 21)) none,
    .mk4 2 (some 23) (.faddr 14 (.t 22)) none,
    .mk4 3 (some 24) (.load1 (.t 23)) none,
    .mk4 4 (some 20) (.mv (.t 24)) none] [2, 8, 20]) (.cond (.t 20) (.seq (.region 0 [.mk4 0 (some 6) (.mv (.c (.i 0))) none,
    .mk4 1 (some 7) (.mv (.c (.i 115))) none] [6, 7]) (.ret)) (c7_0))
def c7_2 : AC :=
  .seq (.region 0 [.mk4 0 (some 17) (.mv (.t 9)) none,
    .mk4 1 (some 18) (.bin .neq (.t 17) (.c (.i 0))) none,
    .mk4 2 (some 16) (.mv (.t 18)) none] [2, 8, 9, 16]) (.cond (.t 16) (.seq (.region 0 [.mk4 0 (some 19) (.mv (.t 9)) none,
    .mk4 1 (some 6) (.mv (.c (.i 0))) none,
    .mk4 2 (some 7) (.mv (.t 19)) none] [6, 7]) (.ret)) (c7_1))
def c7_3 : AC :=
  .seq (.region 0 [.mk4 0 (some 11) (.mv (.t 0)) none,
    .mk4 1 (some 12) (.mv (.t 1)) none,
    .mk4 2 (some 13) (.call 22 [(.t 11), (.t 12)]) none,
    .mk4 3 (some 10) (.mv (.t 13)) none,
    .mk4 4 (some 14) (.extract (.t 10) 0) none,
    .mk4 5 (some 15) (.extract (.t 10) 1) none,
    .mk4 6 (some 8) (.mv (.t 14)) none,
    .mk4 7 (some 9) (.mv (.t 15)) none] [2, 8, 9]) (.seq (.block 0 (c7_2)) (.seq (.region 0 [.mk4 0 (some 41) (.mv (.t 8)) none,
    .mk4 1 (some 42) (.mv (.t 2)) none,
    .mk4 2 (some 43) (.call 23 [(.t 41), (.c (.i 1)), (.t 42)]) none,
    .mk4 3 (some 6) (.mv (.t 43)) none,
    .mk4 4 (some 7) (.mv (.c (.i 0))) none] [6, 7]) (.ret)))
def c7 : AFn := ⟨3, 44, [.tmp 6, .tmp 7],
  (.seq (.region 0 [.mk4 0 (some 6) (.mv (.c (.i 0))) none,
    .mk4 1 (some 7) (.mv (.c (.i 0))) none] [0, 1, 2]) (c7_3))⟩
def c8_0 : AC :=
  .seq (.region 0 [.mk4 0 (some 10) (.mv (.t 1)) none,
    .mk4 1 (some 11) (.bin .neq (.t 10) (.c (.i 1))) none,
    .mk4 2 (some 12) (.mv (.t 11)) none,
    .mk4 3 (some 13) (.mv (.t 1)) (some (12, true)),
    .mk4 4 (some 14) (.bin .neq (.t 13) (.c (.i 2))) (some (12, true)),
    .mk4 5 (some 15) (.pick (.t 12) (.t 14) (.c (.bool false))) none,
    .mk4 6 (some 9) (.mv (.t 15)) none] [0, 1, 9]) (.cond (.t 9) (.seq (.region 0 [.mk4 0 (some 4) (.mv (.c (.ptr none))) none,
    .mk4 1 (some 5) (.mv (.c (.i 2))) none] [4, 5]) (.ret)) (.skip))
def c8_1 : AC :=
  .seq (.region 0 [.mk4 0 (some 7) (.mv (.t 0)) none,
    .mk4 1 (some 8) (.eq .ptr false (.t 7) (.c (.ptr none))) none,
    .mk4 2 (some 6) (.mv (.t 8)) none] [0, 1, 6]) (.cond (.t 6) (.seq (.region 0 [.mk4 0 (some 4) (.mv (.c (.ptr none))) none,
    .mk4 1 (some 5) (.mv (.c (.i 1))) none] [4, 5]) (.ret)) (c8_0))
def c8_2 : AC :=
  .seq (.region 0 [.mk4 0 (some 16) (.mv (.t 0)) none,
    .mk4 1 (some 17) (.mv (.t 1)) none,
    .mk4 2 (some 18) (.build ([.ptr none] ++ List.replicate 98 (.i 0 : V)) [(0, 1, (.t 16)), (1, 1, (.t 17))]) none,
    .mk4 3 (some 19) (.box 99 (.t 18)) none,
    .mk4 4 (some 4) (.mv (.t 19)) none,
    .mk4 5 (some 5) (.mv (.c (.i 0))) none] [4, 5]) (.ret)
def c8 : AFn := ⟨2, 20, [.tmp 4, .tmp 5],
  (.seq (.region 0 [.mk4 0 (some 4) (.mv (.c (.ptr none))) none,
    .mk4 1 (some 5) (.mv (.c (.i 0))) none] [0, 1]) (.seq (.block 0 (c8_1)) (c8_2)))⟩
def c9_0 : AC :=
  .seq (.region 0 [.mk4 0 (some 48) (.mv (.t 0)) none,
    .mk4 1 (some 49) (.mv (.t 1)) none,
    .mk4 2 (some 50) (.mv (.t 2)) none,
    .mk4 3 (some 51) (.nilck (.t 48)) none,
    .mk4 4 (some 52) (.faddr 2 (.t 51)) none,
    .mk4 5 (some 53) (.ixaA 96 1 (.t 52) (.t 49)) none,
    .mk4 6 none (.store 1 (.t 53) (.t 50)) none] []) (.seq (.region 0 [.mk4 0 (some 6) (.mv (.c (.i 0))) none] [6]) (.ret))
def c9_1 : AC :=
  .seq (.region 0 [.mk4 0 (some 34) (.mv (.t 2)) none,
    .mk4 1 (some 35) (.bin .eql (.t 34) (.c (.i 0))) none,
    .mk4 2 (some 33) (.mv (.t 35)) none] [0, 1, 2, 33]) (.cond (.t 33) (.seq (.region 0 [.mk4 0 (some 36) (.mv (.t 0)) none,
    .mk4 1 (some 37) (.mv (.t 1)) none,
    .mk4 2 (some 38) (.call 12 [(.t 36), (.t 37)]) none] []) (.seq (.region 0 [.mk4 0 (some 6) (.mv (.c (.i 0))) none] [6]) (.ret))) (.skip))
def c9_2 : AC :=
  .region 0 [.mk4 0 (some 22) (.mv (.t 2)) none,
    .mk4 1 (some 23) (.bin .neq (.t 22) (.c (.i 0))) none,
    .mk4 2 (some 24) (.mv (.t 23)) none,
    .mk4 3 (some 25) (.mv (.t 1)) (some (24, true)),
    .mk4 4 (some 26) (.bin .add (.t 25) (.c (.i 1))) (some (24, true)),
    .mk4 5 (some 27) (.mv (.t 0)) (some (24, true)),
    .mk4 6 (some 28) (.nilck (.t 27)) (some (24, true)),
    .mk4 7 (some 29) (.faddr 98 (.t 28)) (some (24, true)),
    .mk4 8 (some 30) (.load1 (.t 29)) (some (24, true)),
    .mk4 9 (some 31) (.bin .eql (.t 26) (.t 30)) (some (24, true)),
    .mk4 10 (some 32) (.pick (.t 24) (.t 31) (.c (.bool false))) none,
    .mk4 11 (some 11) (.mv (.t 32)) none] [0, 1, 2, 11]
def c9_3 : AC :=
  .seq (.region 0 [.mk4 0 (some 15) (.mv (.t 2)) none,
    .mk4 1 (some 16) (.bin .andNot (.t 15) (.c (.i 38))) none,
    .mk4 2 (some 17) (.bin .neq (.t 16) (.c (.i 0))) none,
    .mk4 3 (some 18) (.mv (.t 17)) none,
    .mk4 4 (some 19) (.mv (.t 2)) (some (18, false)),
    .mk4 5 (some 20) (.bin .eql (.t 19) (.c (.i 32))) (some (18, false)),
    .mk4 6 (some 21) (.pick (.t 18) (.c (.bool true)) (.t 20)) none,
    .mk4 7 (some 11) (.mv (.t 21)) none] [0, 1, 2, 11]) (.cond (.t 11) (.skip) (c9_2))
def c9_4 : AC :=
  .seq (.seq (.region 0 [.mk4 0 (some 12) (.mv (.t 1)) none,
    .mk4 1 (some 13) (.call 25 [(.t 12)]) none,
    .mk4 2 (some 14) (.un .not (.t 13)) none,
    .mk4 3 (some 11) (.mv (.t 14)) none] [0, 1, 2, 11]) (.cond (.t 11) (.skip) (c9_3))) (.cond (.t 11) (.seq (.region 0 [.mk4 0 (some 6) (.mv (.c (.i 2))) none] [6]) (.ret)) (c9_1))
def c9_5 : AC :=
  .seq (.seq (.region 0 [.mk4 0 (some 39) (.mv (.t 0)) none,
    .mk4 1 (some 40) (.mv (.t 1)) none,
    .mk4 2 (some 41) (.call 26 [(.t 39), (.t 40)]) none,
    .mk4 3 (some 7) (.mv (.t 41)) none] [0, 1, 2, 7]) (.seq (.region 0 [.mk4 0 (some 42) (.mv (.t 7)) none,
    .mk4 1 (some 43) (.bin .neq (.t 42) (.c (.i 0))) none] [0, 1, 2, 7, 43]) (.cond (.t 43) (.seq (.region 0 [.mk4 0 (some 44) (.mv (.t 7)) none,
    .mk4 1 (some 6) (.mv (.t 44)) none] [6]) (.ret)) (.skip)))) (.seq (.seq (.region 0 [.mk4 0 (some 45) (.mv (.t 2)) none,
    .mk4 1 (some 46) (.bin .and (.t 45) (.c (.i 32))) none,
    .mk4 2 (some 47) (.bin .neq (.t 46) (.c (.i 0))) none] [0, 1, 2, 47]) (.cond (.t 47) (.seq (.region 0 [.mk4 0 (some 6) (.mv (.c (.i 191))) none] [6]) (.ret)) (.skip))) (c9_0))
def c9_6 : AC :=
  .seq (.region 0 [.mk4 0 (some 6) (.mv (.c (.i 0))) none] [0, 1, 2]) (.seq (.block 0 (.seq (.region 0 [.mk4 0 (some 9) (.mv (.t 0)) none,
    .mk4 1 (some 10) (.call 24 [(.t 9)]) none,
    .mk4 2 (some 8) (.mv (.t 10)) none] [0, 1, 2, 8]) (.cond (.t 8) (.seq (.region 0 [.mk4 0 (some 6) (.mv (.c (.i 1))) none] [6]) (.ret)) (c9_4)))) (c9_5))
def c9 : AFn := ⟨3, 54, [.tmp 6],
  (c9_6)⟩
def c10_0 : AC :=
  .seq (.region 0 [.mk4 0 (some 12) (.mv (.t 0)) none,
    .mk4 1 (some 13) (.mv (.t 1)) none,
    .mk4 2 (some 14) (.nilck (.t 12)) none,
    .mk4 3 (some 15) (.faddr 2 (.t 14)) none,
    .mk4 4 (some 16) (.ixaA 96 1 (.t 15) (.t 13)) none,
    .mk4 5 (some 17) (.load1 (.t 16)) none,
    .mk4 6 (some 4) (.mv (.t 17)) none] [4]) (.ret)
def c10_1 : AC :=
  .seq (.seq (.region 0 [.mk4 0 (some 5) (.mv (.t 0)) none,
    .mk4 1 (some 6) (.call 24 [(.t 5)]) none,
    .mk4 2 (some 7) (.mv (.t 6)) none,
    .mk4 3 (some 8) (.mv (.t 1)) (some (7, false)),
    .mk4 4 (some 9) (.call 25 [(.t 8)]) (some (7, false)),
    .mk4 5 (some 10) (.un .not (.t 9)) (some (7, false)),
    .mk4 6 (some 11) (.pick (.t 7) (.c (.bool true)) (.t 10)) none] [0, 1, 11]) (.cond (.t 11) (.seq (.region 0 [.mk4 0 (some 4) (.mv (.c (.i 0))) none] [4]) (.ret)) (.skip))) (c10_0)
def c10 : AFn := ⟨2, 18, [.tmp 4],
  (.seq (.region 0 [.mk4 0 (some 4) (.mv (.c (.i 0))) none] [0, 1]) (c10_1))⟩
def c11_0 : AC :=
  .cond (.t 94) (.region 0 [.mk4 0 (some 95) (.load1 (.t 4)) none,
    .mk4 1 (some 96) (.nilck (.t 95)) none,
    .mk4 2 (some 97) (.faddr 0 (.t 96)) none,
    .mk4 3 (some 98) (.load1 (.t 97)) none,
    .mk4 4 (some 99) (.call 32 [(.t 98)]) none,
    .mk4 5 (some 9) (.mv (.t 99)) none] [8, 9, 10]) (.skip)
def c11_1 : AC :=
  .seq (.region 0 [.mk4 0 (some 100) (.load1 (.t 8)) none,
    .mk4 1 (some 101) (.mv (.t 9)) none,
    .mk4 2 (some 102) (.mv (.t 10)) none,
    .mk4 3 none (.store 1 (.t 8) (.t 100)) none,
    .mk4 4 (some 9) (.mv (.t 101)) none,
    .mk4 5 (some 10) (.mv (.t 102)) none,
    .mk4 6 (some 11) (.mv (.c (.i 0))) none] [8, 9, 10, 11]) (.ret)
def c11_2 : AC :=
  .region 0 [.mk4 0 (some 73) (.load1 (.t 8)) none,
    .mk4 1 (some 74) (.mv (.t 14)) none,
    .mk4 2 (some 75) (.mv (.t 15)) none,
    .mk4 3 (some 76) (.build [.i 0, .i 0] [(0, 1, (.t 74)), (1, 1, (.t 75))]) none,
    .mk4 4 (some 77) (.bslice 2 1 [.i 0, .i 0] [(0, (.t 76))]) none,
    .mk4 5 (some 78) (.append 2 16 (.t 73) (.t 77)) none,
    .mk4 6 none (.store 1 (.t 8) (.t 78)) none] []
def c11_3 : AC :=
  .seq (.region 0 [.mk4 0 (some 61) (.load1 (.t 13)) none,
    .mk4 1 (some 62) (.mv (.t 14)) none,
    .mk4 2 (some 63) (.lookup (.leaf (.int .i64)) (.i 0) false (.t 61) (.t 62)) none,
    .mk4 3 (some 64) (.load1 (.t 4)) none,
    .mk4 4 (some 65) (.mv (.t 14)) none,
    .mk4 5 (some 66) (.nilck (.t 64)) none,
    .mk4 6 (some 67) (.faddr 2 (.t 66)) none,
    .mk4 7 (some 68) (.ixaA 96 1 (.t 67) (.t 65)) none,
    .mk4 8 (some 69) (.load1 (.t 68)) none,
    .mk4 9 (some 70) (.bin .and (.t 63) (.t 69)) none,
    .mk4 10 (some 15) (.mv (.t 70)) none] [8, 14, 15]) (.seq (.region 0 [.mk4 0 (some 71) (.mv (.t 15)) none,
    .mk4 1 (some 72) (.bin .neq (.t 71) (.c (.i 0))) none] [8, 14, 15, 72]) (.cond (.t 72) (c11_2) (.skip)))
def c11_4 : AC :=
  .seq (.seq (.region 0 [.mk4 0 (some 79) (.load1 (.t 4)) none,
    .mk4 1 (some 80) (.nilck (.t 79)) none,
    .mk4 2 (some 81) (.faddr 98 (.t 80)) none,
    .mk4 3 (some 82) (.load1 (.t 81)) none,
    .mk4 4 (some 83) (.bin .gtr (.t 82) (.c (.i 0))) none,
    .mk4 5 (some 84) (.mv (.t 83)) none,
    .mk4 6 (some 85) (.load1 (.t 13)) (some (84, true)),
    .mk4 7 (some 86) (.load1 (.t 4)) (some (84, true)),
    .mk4 8 (some 87) (.nilck (.t 86)) (some (84, true)),
    .mk4 9 (some 88) (.faddr 98 (.t 87)) (some (84, true)),
    .mk4 10 (some 89) (.load1 (.t 88)) (some (84, true)),
    .mk4 11 (some 90) (.bin .sub (.t 89) (.c (.i 1))) (some (84, true)),
    .mk4 12 (some 91) (.lookup (.leaf (.int .i64)) (.i 0) false (.t 85) (.t 90)) (some (84, true)),
    .mk4 13 (some 92) (.bin .and (.t 91) (.c (.i 2))) (some (84, true)),
    .mk4 14 (some 93) (.bin .neq (.t 92) (.c (.i 0))) (some (84, true)),
    .mk4 15 (some 94) (.pick (.t 84) (.t 93) (.c (.bool false))) none] [4, 8, 9, 10, 94]) (c11_0)) (c11_1)
def c11_5 : AC :=
  .seq (.seq (.region 0 [.mk4 0 (some 54) (.mv (.t 11)) none,
    .mk4 1 (some 55) (.bin .neq (.t 54) (.c (.i 0))) none] [4, 8, 9, 10, 11, 13, 55]) (.cond (.t 55) (.seq (.region 0 [.mk4 0 (some 56) (.mv (.t 11)) none,
    .mk4 1 none (.store 1 (.t 8) (.c (.nils))) none,
    .mk4 2 (some 9) (.mv (.c (.nils))) none,
    .mk4 3 (some 10) (.mv (.c (.i 0))) none,
    .mk4 4 (some 11) (.mv (.t 56)) none] [8, 9, 10, 11]) (.ret)) (.skip))) (.seq (.seq (.region 0 [.mk4 0 (some 57) (.load1 (.t 4)) none,
    .mk4 1 (some 58) (.call 31 [(.t 57)]) none] [4, 8, 9, 10, 13, 58]) (.block 0 (.rangeFunc (.t 58) [59, 60] [4, 8, 13] (.region 0 [.mk4 0 (some 14) (.mv (.t 59)) none] [4, 8, 13, 14]) (.block 1 (c11_3))))) (c11_4))
def c11_6 : AC :=
  .seq (.region 1 [.mk4 0 (some 43) (.load1 (.t 12)) none,
    .mk4 1 (some 44) (.load1 (.t 4)) none,
    .mk4 2 (some 45) (.nilck (.t 44)) none,
    .mk4 3 (some 46) (.faddr 0 (.t 45)) none,
    .mk4 4 (some 47) (.load1 (.t 46)) none,
    .mk4 5 (some 48) (.mkBm "roundhouse/dpoll.told" (.t 43)) none,
    .mk4 6 (some 49) (.nilckB "roundhouse/dpoll.told" [(120, 129), (122, 149)] (.t 48)) none,
    .mk4 7 (some 50) (.mv (.t 43)) none,
    .mk4 8 (some 51) (.invoke [(120, 129), (122, 149)] (.t 50) [(.t 47)]) none,
    .mk4 9 (some 42) (.mv (.t 51)) none,
    .mk4 10 (some 52) (.extract (.t 42) 0) none,
    .mk4 11 (some 53) (.extract (.t 42) 1) none,
    ⟨12, (some 13), .alloc 1 [.map none], none, some 0, []⟩,
    .mk4 13 none (.store 1 (.t 13) (.t 52)) none,
    .mk4 14 (some 11) (.mv (.t 53)) none] [4, 8, 9, 10, 11, 13]) (c11_5)
def c11_7 : AC :=
  .seq (.seq (.region 0 [.mk4 0 (some 35) (.mv (.t 10)) none,
    .mk4 1 (some 36) (.bin .eql (.t 35) (.c (.i 3))) none,
    .mk4 2 (some 37) (.mv (.t 36)) none,
    .mk4 3 (some 38) (.mv (.t 10)) (some (37, false)),
    .mk4 4 (some 39) (.bin .eql (.t 38) (.c (.i 4))) (some (37, false)),
    .mk4 5 (some 40) (.pick (.t 37) (.c (.bool true)) (.t 39)) none] [4, 8, 9, 10, 12, 40]) (.cond (.t 40) (.seq (.region 0 [.mk4 0 (some 41) (.mv (.t 10)) none,
    .mk4 1 none (.store 1 (.t 8) (.c (.nils))) none,
    .mk4 2 (some 9) (.mv (.c (.nils))) none,
    .mk4 3 (some 10) (.mv (.t 41)) none,
    .mk4 4 (some 11) (.mv (.c (.i 0))) none] [8, 9, 10, 11]) (.ret)) (.skip))) (c11_6)
def c11_8 : AC :=
  .seq (.region 0 [.mk4 0 (some 26) (.mv (.t 1)) none,
    .mk4 1 (some 27) (.load1 (.t 4)) none,
    .mk4 2 (some 28) (.nilck (.t 27)) none,
    .mk4 3 (some 29) (.faddr 0 (.t 28)) none,
    .mk4 4 (some 30) (.load1 (.t 29)) none,
    .mk4 5 (some 31) (.mv (.t 2)) none,
    .mk4 6 (some 32) (.mv (.t 3)) none,
    .mk4 7 (some 33) (.mkClo 30 [(.t 12), (.t 4)]) none,
    .mk4 8 (some 34) (.call 29 [(.t 26), (.t 30), (.t 31), (.t 32), (.t 33)]) none,
    .mk4 9 (some 10) (.mv (.t 34)) none] [4, 8, 9, 10, 12]) (c11_7)
def c11_9 : AC :=
  .seq (.seq (.region 0 [.mk4 0 (some 18) (.mv (.t 1)) none,
    .mk4 1 (some 19) (.eq .ptr false (.t 18) (.c (.ptr none))) none] [1, 2, 3, 4, 8, 9, 19]) (.cond (.t 19) (.region 0 [.mk4 0 (some 21) (.call 27 [(.c (.nils))]) none,
    .mk4 1 (some 20) (.mv (.t 21)) none,
    .mk4 2 (some 22) (.extract (.t 20) 0) none,
    .mk4 3 (some 23) (.extract (.t 20) 1) none,
    .mk4 4 (some 1) (.mv (.t 22)) none] [1, 2, 3, 4, 8, 9]) (.skip))) (.seq (.region 0 [.mk4 0 (some 24) (.load1 (.t 4)) none,
    .mk4 1 (some 25) (.call 28 [(.t 24)]) none,
    .mk4 2 (some 12) (.alloc 1 [.nili]) none,
    .mk4 3 none (.store 1 (.t 12) (.t 25)) none] [1, 2, 3, 4, 8, 9, 12]) (c11_8))
def c11_10 : AC :=
  .seq (.seq (.region 0 [.mk4 0 (some 16) (.load1 (.t 4)) none,
    .mk4 1 (some 17) (.call 24 [(.t 16)]) none] [1, 2, 3, 4, 8, 9, 17]) (.cond (.t 17) (.seq (.region 0 [.mk4 0 none (.store 1 (.t 8) (.c (.nils))) none,
    .mk4 1 (some 9) (.mv (.c (.nils))) none,
    .mk4 2 (some 10) (.mv (.c (.i 0))) none,
    .mk4 3 (some 11) (.mv (.c (.i 1))) none] [8, 9, 10, 11]) (.ret)) (.skip))) (c11_9)
def c11 : AFn := ⟨4, 103, [.cell1 8, .tmp 9, .tmp 10, .tmp 11],
  (.seq (.region 0 [.mk4 0 (some 4) (.box 1 (.t 0)) none,
    .mk4 1 (some 8) (.alloc 1 [.nils]) none,
    .mk4 2 (some 9) (.mv (.c (.nils))) none,
    .mk4 3 (some 10) (.mv (.c (.i 0))) none,
    .mk4 4 (some 11) (.mv (.c (.i 0))) none] [1, 2, 3, 4, 8, 9]) (c11_10))⟩
def c12_0 : AC :=
  .cond (.t 10) (.region 0 [.mk4 0 (some 11) (.mv (.t 0)) none,
    .mk4 1 (some 12) (.mv (.t 1)) none,
    .mk4 2 (some 13) (.nilck (.t 11)) none,
    .mk4 3 (some 14) (.faddr 2 (.t 13)) none,
    .mk4 4 (some 15) (.ixaA 96 1 (.t 14) (.t 12)) none,
    .mk4 5 none (.store 1 (.t 15) (.c (.i 0))) none] []) (.skip)
def c12_1 : AC :=
  .seq (.region 0 [.mk4 0 (some 4) (.mv (.t 0)) none,
    .mk4 1 (some 5) (.call 24 [(.t 4)]) none,
    .mk4 2 (some 6) (.un .not (.t 5)) none,
    .mk4 3 (some 7) (.mv (.t 6)) none,
    .mk4 4 (some 8) (.mv (.t 1)) (some (7, true)),
    .mk4 5 (some 9) (.call 25 [(.t 8)]) (some (7, true)),
    .mk4 6 (some 10) (.pick (.t 7) (.t 9) (.c (.bool false))) none] [0, 1, 10]) (c12_0)
def c12 : AFn := ⟨2, 16, [],
  (c12_1)⟩
def c13_0 : AC :=
  .seq (.region 0 [.mk4 0 (some 36) (.faddr 1 (.t 7)) none,
    .mk4 1 (some 37) (.load1 (.t 36)) none,
    .mk4 2 (some 38) (.faddr 1 (.t 10)) none,
    .mk4 3 (some 39) (.load1 (.t 38)) none,
    .mk4 4 (some 40) (.bin .neq (.t 37) (.t 39)) none,
    .mk4 5 (some 41) (.mv (.t 40)) none,
    .mk4 6 (some 42) (.faddr 2 (.t 7)) (some (41, false)),
    .mk4 7 (some 43) (.load1 (.t 42)) (some (41, false)),
    .mk4 8 (some 44) (.faddr 2 (.t 10)) (some (41, false)),
    .mk4 9 (some 45) (.load1 (.t 44)) (some (41, false)),
    .mk4 10 (some 46) (.bin .eql (.t 43) (.t 45)) (some (41, false)),
    .mk4 11 (some 47) (.pick (.t 41) (.c (.bool true)) (.t 46)) none,
    .mk4 12 (some 48) (.mv (.t 47)) none,
    .mk4 13 (some 49) (.mv (.t 8)) (some (48, false)),
    .mk4 14 (some 50) (.nilck (.t 49)) (some (48, false)),
    .mk4 15 (some 51) (.faddr 0 (.t 50)) (some (48, false)),
    .mk4 16 (some 52) (.ixaA 2 7 (.t 51) (.c (.i 0))) (some (48, false)),
    .mk4 17 (some 53) (.faddr 2 (.t 52)) (some (48, false)),
    .mk4 18 (some 54) (.load1 (.t 53)) (some (48, false)),
    .mk4 19 (some 55) (.eq .ptr false (.t 54) (.c (.ptr none))) (some (48, false)),
    .mk4 20 (some 56) (.pick (.t 48) (.c (.bool true)) (.t 55)) none,
    .mk4 21 (some 57) (.mv (.t 56)) none,
    .mk4 22 (some 58) (.mv (.t 8)) (some (57, false)),
    .mk4 23 (some 59) (.nilck (.t 58)) (some (57, false)),
    .mk4 24 (some 60) (.faddr 0 (.t 59)) (some (57, false)),
    .mk4 25 (some 61) (.ixaA 2 7 (.t 60) (.c (.i 1))) (some (57, false)),
    .mk4 26 (some 62) (.faddr 2 (.t 61)) (some (57, false)),
    .mk4 27 (some 63) (.load1 (.t 62)) (some (57, false)),
    .mk4 28 (some 64) (.eq .ptr false (.t 63) (.c (.ptr none))) (some (57, false)),
    .mk4 29 (some 65) (.pick (.t 57) (.c (.bool true)) (.t 64)) none,
    .mk4 30 (some 35) (.mv (.t 65)) none] [0, 7, 35]) (.cond (.t 35) (.seq (.region 0 [.mk4 0 (some 6) (.mv (.c (.i 111))) none] [6]) (.ret)) (.skip))
def c13_1 : AC :=
  .seq (.region 0 [.mk4 0 (some 32) (.mv (.t 12)) none,
    .mk4 1 (some 33) (.bin .neq (.t 32) (.c (.i 0))) none,
    .mk4 2 (some 31) (.mv (.t 33)) none] [0, 7, 8, 10, 12, 31]) (.cond (.t 31) (.seq (.region 0 [.mk4 0 (some 34) (.mv (.t 12)) none,
    .mk4 1 (some 6) (.mv (.t 34)) none] [6]) (.ret)) (c13_0))
def c13_2 : AC :=
  .seq (.region 0 [.mk4 0 (some 28) (.mv (.t 9)) none,
    .mk4 1 (some 29) (.bin .neq (.t 28) (.c (.i 0))) none,
    .mk4 2 (some 27) (.mv (.t 29)) none] [0, 7, 8, 9, 10, 12, 27]) (.cond (.t 27) (.seq (.region 0 [.mk4 0 (some 30) (.mv (.t 9)) none,
    .mk4 1 (some 6) (.mv (.t 30)) none] [6]) (.ret)) (c13_1))
def c13_3 : AC :=
  .seq (.region 0 [.mk4 0 (some 66) (.mv (.t 0)) none,
    .mk4 1 (some 67) (.loadN 3 (.t 7)) none,
    .mk4 2 (some 68) (.nilck (.t 66)) none,
    .mk4 3 (some 69) (.faddr 291 (.t 68)) none,
    .mk4 4 none (.store 3 (.t 69) (.t 67)) none] [0]) (.seq (.region 0 [.mk4 0 (some 70) (.mv (.t 0)) none,
    .mk4 1 (some 71) (.call 34 [(.t 70)]) none] []) (.seq (.region 0 [.mk4 0 (some 6) (.mv (.c (.i 0))) none] [6]) (.ret)))
def c13_4 : AC :=
  .seq (.region 0 [.mk4 0 (some 21) (.mv (.t 0)) none,
    .mk4 1 (some 22) (.mv (.t 2)) none,
    .mk4 2 (some 23) (.call 33 [(.t 21), (.t 22)]) none,
    .mk4 3 (some 20) (.mv (.t 23)) none,
    .mk4 4 (some 24) (.extract (.t 20) 0) none,
    .mk4 5 (some 25) (.extract (.t 20) 1) none,
    .mk4 6 (some 26) (.extract (.t 20) 2) none,
    .mk4 7 (some 10) (.alloc 3 [.bool false, .i 0, .i 0]) none,
    .mk4 8 none (.store 3 (.t 10) (.t 24)) none,
    .mk4 9 (some 11) (.mv (.t 25)) none,
    .mk4 10 (some 12) (.mv (.t 26)) none] [0, 7, 8, 9, 10, 12]) (.seq (.block 0 (c13_2)) (c13_3))
def c13_5 : AC :=
  .seq (.region 0 [.mk4 0 (some 14) (.mv (.t 0)) none,
    .mk4 1 (some 15) (.mv (.t 1)) none,
    .mk4 2 (some 16) (.call 33 [(.t 14), (.t 15)]) none,
    .mk4 3 (some 13) (.mv (.t 16)) none,
    .mk4 4 (some 17) (.extract (.t 13) 0) none,
    .mk4 5 (some 18) (.extract (.t 13) 1) none,
    .mk4 6 (some 19) (.extract (.t 13) 2) none,
    .mk4 7 (some 7) (.alloc 3 [.bool false, .i 0, .i 0]) none,
    .mk4 8 none (.store 3 (.t 7) (.t 17)) none,
    .mk4 9 (some 8) (.mv (.t 18)) none,
    .mk4 10 (some 9) (.mv (.t 19)) none] [0, 2, 7, 8, 9]) (c13_4)
def c13 : AFn := ⟨3, 72, [.tmp 6],
  (.seq (.region 0 [.mk4 0 (some 6) (.mv (.c (.i 0))) none] [0, 1, 2]) (c13_5))⟩
def c14_0 : AC :=
  .seq (.region 0 [.mk4 0 (some 10) (.mv (.t 0)) none,
    .mk4 1 (some 11) (.nilck (.t 10)) none,
    .mk4 2 (some 12) (.faddr 289 (.t 11)) none,
    .mk4 3 (some 13) (.load1 (.t 12)) none,
    .mk4 4 (some 14) (.mv (.t 1)) none,
    .mk4 5 (some 15) (.mv (.t 2)) none,
    .mk4 6 (some 16) (.call 36 [(.t 13), (.t 14), (.t 15)]) none,
    .mk4 7 (some 7) (.mv (.t 16)) none] [0, 7]) (.seq (.region 0 [.mk4 0 (some 17) (.mv (.t 0)) none,
    .mk4 1 (some 18) (.call 34 [(.t 17)]) none] [7]) (.seq (.region 0 [.mk4 0 (some 19) (.mv (.t 7)) none,
    .mk4 1 (some 6) (.mv (.t 19)) none] [6]) (.ret)))
def c14 : AFn := ⟨3, 20, [.tmp 6],
  (.seq (.region 0 [.mk4 0 (some 6) (.mv (.c (.i 0))) none] [0, 1, 2]) (.seq (.seq (.region 0 [.mk4 0 (some 8) (.mv (.t 0)) none,
    .mk4 1 (some 9) (.call 35 [(.t 8)]) none] [0, 1, 2, 9]) (.cond (.t 9) (.seq (.region 0 [.mk4 0 (some 6) (.mv (.c (.i 1))) none] [6]) (.ret)) (.skip))) (c14_0)))⟩
def c15_0 : AC :=
  .seq (.region 0 [.mk4 0 (some 16) (.mv (.t 0)) none,
    .mk4 1 (some 17) (.mv (.t 1)) none,
    .mk4 2 (some 18) (.nilck (.t 16)) none,
    .mk4 3 (some 19) (.faddr 2 (.t 18)) none,
    .mk4 4 (some 20) (.ixaA 96 1 (.t 19) (.t 17)) none,
    .mk4 5 (some 21) (.load1 (.t 20)) none,
    .mk4 6 (some 22) (.bin .neq (.t 21) (.c (.i 0))) none] [0, 1, 22]) (.cond (.t 22) (.seq (.region 0 [.mk4 0 (some 4) (.mv (.c (.i 2))) none] [4]) (.ret)) (.skip))
def c15_1 : AC :=
  .seq (.seq (.region 0 [.mk4 0 (some 10) (.mv (.t 0)) none,
    .mk4 1 (some 11) (.mv (.t 1)) none,
    .mk4 2 (some 12) (.call 26 [(.t 10), (.t 11)]) none,
    .mk4 3 (some 5) (.mv (.t 12)) none] [0, 1, 5]) (.seq (.region 0 [.mk4 0 (some 13) (.mv (.t 5)) none,
    .mk4 1 (some 14) (.bin .neq (.t 13) (.c (.i 0))) none] [0, 1, 5, 14]) (.cond (.t 14) (.seq (.region 0 [.mk4 0 (some 15) (.mv (.t 5)) none,
    .mk4 1 (some 4) (.mv (.t 15)) none] [4]) (.ret)) (.skip)))) (c15_0)
def c15_2 : AC :=
  .seq (.region 0 [.mk4 0 (some 23) (.mv (.t 0)) none,
    .mk4 1 (some 24) (.mv (.t 1)) none,
    .mk4 2 (some 25) (.bin .add (.t 24) (.c (.i 1))) none,
    .mk4 3 (some 26) (.nilck (.t 23)) none,
    .mk4 4 (some 27) (.faddr 98 (.t 26)) none,
    .mk4 5 none (.store 1 (.t 27) (.t 25)) none] []) (.seq (.region 0 [.mk4 0 (some 4) (.mv (.c (.i 0))) none] [4]) (.ret))
def c15_3 : AC :=
  .seq (.seq (.region 0 [.mk4 0 (some 6) (.mv (.t 0)) none,
    .mk4 1 (some 7) (.call 24 [(.t 6)]) none] [0, 1, 7]) (.cond (.t 7) (.seq (.region 0 [.mk4 0 (some 4) (.mv (.c (.i 1))) none] [4]) (.ret)) (.skip))) (.seq (.seq (.region 0 [.mk4 0 (some 8) (.mv (.t 1)) none,
    .mk4 1 (some 9) (.bin .neq (.t 8) (.c (.i (-1)))) none] [0, 1, 9]) (.cond (.t 9) (c15_1) (.skip))) (c15_2))
def c15 : AFn := ⟨2, 28, [.tmp 4],
  (.seq (.region 0 [.mk4 0 (some 4) (.mv (.c (.i 0))) none] [0, 1]) (c15_3))⟩
def c16_0 : AC :=
  .seq (.region 0 [.mk4 0 (some 8) (.mv (.t 0)) none,
    .mk4 1 (some 9) (.nilck (.t 8)) none,
    .mk4 2 (some 10) (.faddr 289 (.t 9)) none,
    .mk4 3 (some 11) (.load1 (.t 10)) none,
    .mk4 4 (some 12) (.mv (.t 1)) none,
    .mk4 5 (some 13) (.call 37 [(.t 11), (.t 12)]) none,
    .mk4 6 (some 5) (.mv (.t 13)) none] [0, 5]) (.seq (.region 0 [.mk4 0 (some 14) (.mv (.t 0)) none,
    .mk4 1 (some 15) (.call 34 [(.t 14)]) none] [5]) (.seq (.region 0 [.mk4 0 (some 16) (.mv (.t 5)) none,
    .mk4 1 (some 4) (.mv (.t 16)) none] [4]) (.ret)))
def c16 : AFn := ⟨2, 17, [.tmp 4],
  (.seq (.region 0 [.mk4 0 (some 4) (.mv (.c (.i 0))) none] [0, 1]) (.seq (.seq (.region 0 [.mk4 0 (some 6) (.mv (.t 0)) none,
    .mk4 1 (some 7) (.call 35 [(.t 6)]) none] [0, 1, 7]) (.cond (.t 7) (.seq (.region 0 [.mk4 0 (some 4) (.mv (.c (.i 1))) none] [4]) (.ret)) (.skip))) (c16_0)))⟩
def c17_0 : AC :=
  .region 0 [.mk4 0 (some 39) (.mv (.t 0)) none,
    .mk4 1 (some 40) (.nilck (.t 39)) none,
    .mk4 2 (some 41) (.faddr 288 (.t 40)) none,
    .mk4 3 (some 42) (.load1 (.t 41)) none,
    .mk4 4 (some 43) (.mv (.t 9)) none,
    .mk4 5 (some 44) (.ixaS 1 (.t 42) (.t 43)) none,
    .mk4 6 (some 45) (.load1 (.t 44)) none,
    .mk4 7 (some 46) (.call 38 [(.t 45), (.c (.i 0))]) none] [0, 6, 33, 34, 35]
def c17_1 : AC :=
  .seq (.block 1 (.seq (.region 0 [.mk4 0 (some 37) (.ixaS 1 (.t 33) (.t 35)) none,
    .mk4 1 (some 38) (.load1 (.t 37)) none,
    .mk4 2 (some 9) (.mv (.t 38)) none] [0, 6, 9, 33, 34, 35]) (c17_0))) (.region 0 [.mk4 0 (some 47) (.bin .add (.t 35) (.c (.i 1))) none,
    .mk4 1 (some 35) (.mv (.t 47)) none] [0, 6, 33, 34, 35])
def c17_2 : AC :=
  .seq (.seq (.region 0 [.mk4 0 (some 30) (.mv (.t 6)) none,
    .mk4 1 (some 31) (.nilck (.t 30)) none,
    .mk4 2 (some 32) (.faddr 16 (.t 31)) none,
    .mk4 3 (some 33) (.load1 (.t 32)) none,
    .mk4 4 (some 34) (.lenL (.t 33)) none,
    .mk4 5 (some 35) (.mv (.c (.i 0))) none] [0, 6, 33, 34, 35]) (.block 0 (.loop [0, 6, 33, 34, 35] (.seq (.region 0 [.mk4 0 (some 36) (.bin .lss (.t 35) (.t 34)) none] [0, 6, 33, 34, 35, 36]) (.seq (.cond (.t 36) (.skip) (.exit 0)) (c17_1)))))) (.seq (.region 0 [.mk4 0 (some 48) (.mv (.t 6)) none,
    .mk4 1 (some 49) (.nilck (.t 48)) none,
    .mk4 2 (some 50) (.faddr 16 (.t 49)) none,
    .mk4 3 none (.store 1 (.t 50) (.c (.nils))) none] []) (.seq (.region 0 [.mk4 0 (some 4) (.mv (.c (.i 0))) none] [4]) (.ret)))
def c17_3 : AC :=
  .seq (.region 0 [.mk4 0 (some 20) (.mv (.t 0)) none,
    .mk4 1 (some 21) (.mv (.t 1)) none,
    .mk4 2 (some 22) (.build [.bool false, .i 0, .i 0] []) none,
    .mk4 3 (some 23) (.nilck (.t 20)) none,
    .mk4 4 (some 24) (.faddr 0 (.t 23)) none,
    .mk4 5 (some 25) (.ixaA 96 3 (.t 24) (.t 21)) none,
    .mk4 6 none (.store 3 (.t 25) (.t 22)) none] [0, 5, 6]) (.seq (.region 0 [.mk4 0 (some 26) (.mv (.t 6)) none,
    .mk4 1 (some 27) (.faddr 2 (.t 5)) none,
    .mk4 2 (some 28) (.load1 (.t 27)) none,
    .mk4 3 (some 29) (.call 38 [(.t 26), (.t 28)]) none] [0, 6]) (c17_2))
def c17_4 : AC :=
  .seq (.region 0 [.mk4 0 (some 11) (.mv (.t 0)) none,
    .mk4 1 (some 12) (.mv (.t 1)) none,
    .mk4 2 (some 13) (.call 33 [(.t 11), (.t 12)]) none,
    .mk4 3 (some 10) (.mv (.t 13)) none,
    .mk4 4 (some 14) (.extract (.t 10) 0) none,
    .mk4 5 (some 15) (.extract (.t 10) 1) none,
    .mk4 6 (some 16) (.extract (.t 10) 2) none,
    .mk4 7 (some 5) (.alloc 3 [.bool false, .i 0, .i 0]) none,
    .mk4 8 none (.store 3 (.t 5) (.t 14)) none,
    .mk4 9 (some 6) (.mv (.t 15)) none,
    .mk4 10 (some 7) (.mv (.t 16)) none] [0, 1, 5, 6, 7]) (.seq (.seq (.region 0 [.mk4 0 (some 17) (.mv (.t 7)) none,
    .mk4 1 (some 18) (.bin .neq (.t 17) (.c (.i 0))) none] [0, 1, 5, 6, 7, 18]) (.cond (.t 18) (.seq (.region 0 [.mk4 0 (some 19) (.mv (.t 7)) none,
    .mk4 1 (some 4) (.mv (.t 19)) none] [4]) (.ret)) (.skip))) (c17_3))
def c17 : AFn := ⟨2, 51, [.tmp 4],
  (.seq (.region 0 [.mk4 0 (some 4) (.mv (.c (.i 0))) none] [0, 1]) (c17_4))⟩
def c18_0 : AC :=
  .seq (.region 0 [.mk4 0 (some 42) (.mv (.t 5)) none,
    .mk4 1 (some 43) (.bin .eql (.t 42) (.c (.i 0))) none,
    .mk4 2 (some 44) (.mv (.t 43)) none,
    .mk4 3 (some 45) (.mv (.t 6)) (some (44, true)),
    .mk4 4 (some 46) (.bin .eql (.t 45) (.c (.i 0))) (some (44, true)),
    .mk4 5 (some 47) (.pick (.t 44) (.t 46) (.c (.bool false))) none,
    .mk4 6 (some 48) (.mv (.t 47)) none,
    .mk4 7 (some 49) (.mv (.t 12)) (some (48, true)),
    .mk4 8 (some 50) (.bin .eql (.t 49) (.c (.i 0))) (some (48, true)),
    .mk4 9 (some 51) (.pick (.t 48) (.t 50) (.c (.bool false))) none,
    .mk4 10 (some 52) (.mv (.t 51)) none,
    .mk4 11 (some 53) (.mv (.t 9)) (some (52, true)),
    .mk4 12 (some 54) (.lenL (.t 53)) (some (52, true)),
    .mk4 13 (some 55) (.bin .eql (.t 54) (.c (.i 1))) (some (52, true)),
    .mk4 14 (some 56) (.pick (.t 52) (.t 55) (.c (.bool false))) none,
    .mk4 15 (some 57) (.mv (.t 56)) none,
    .mk4 16 (some 58) (.mv (.t 9)) (some (57, true)),
    .mk4 17 (some 59) (.ixaS 2 (.t 58) (.c (.i 0))) (some (57, true)),
    .mk4 18 (some 60) (.loadN 2 (.t 59)) (some (57, true)),
    .mk4 19 (some 61) (.build [.i 0, .i 0] [(0, 1, (.c (.i 0))), (1, 1, (.c (.i 2)))]) (some (57, true)),
    .mk4 20 (some 62) (.eq (.agg [.int .i64, .int .i64]) false (.t 60) (.t 61)) (some (57, true)),
    .mk4 21 (some 63) (.pick (.t 57) (.t 62) (.c (.bool false))) none,
    .mk4 22 (some 64) (.mv (.t 63)) none,
    .mk4 23 (some 65) (.mv (.t 10)) (some (64, true)),
    .mk4 24 (some 66) (.lenL (.t 65)) (some (64, true)),
    .mk4 25 (some 67) (.bin .eql (.t 66) (.c (.i 0))) (some (64, true)),
    .mk4 26 (some 68) (.pick (.t 64) (.t 67) (.c (.bool false))) none,
    .mk4 27 (some 69) (.mv (.t 68)) none,
    .mk4 28 (some 70) (.mv (.t 11)) (some (69, true)),
    .mk4 29 (some 71) (.bin .eql (.t 70) (.c (.i 1))) (some (69, true)),
    .mk4 30 (some 72) (.pick (.t 69) (.t 71) (.c (.bool false))) none,
    .mk4 31 (some 73) (.mv (.t 72)) none,
    .mk4 32 (some 74) (.mv (.t 3)) (some (73, true)),
    .mk4 33 (some 75) (.call 39 [(.t 74)]) (some (73, true)),
    .mk4 34 (some 76) (.bin .eql (.t 75) (.c (.int .u64 3))) (some (73, true)),
    .mk4 35 (some 77) (.pick (.t 73) (.t 76) (.c (.bool false))) none,
    .mk4 36 (some 2) (.mv (.t 77)) none] [2]) (.ret)
def c18_1 : AC :=
  .seq (.region 0 [.mk4 0 (some 35) (.mv (.t 4)) none,
    .mk4 1 (some 36) (.mv (.t 7)) none,
    .mk4 2 (some 37) (.call 11 [(.t 35), (.t 36), (.c (.int .u64 9)), (.c (.bool false))]) none,
    .mk4 3 (some 34) (.mv (.t 37)) none,
    .mk4 4 (some 38) (.extract (.t 34) 0) none,
    .mk4 5 (some 39) (.extract (.t 34) 1) none,
    .mk4 6 (some 40) (.extract (.t 34) 2) none,
    .mk4 7 (some 41) (.extract (.t 34) 3) none,
    .mk4 8 (some 9) (.mv (.t 38)) none,
    .mk4 9 (some 10) (.mv (.t 39)) none,
    .mk4 10 (some 11) (.mv (.t 40)) none,
    .mk4 11 (some 12) (.mv (.t 41)) none] [3, 5, 6, 9, 10, 11, 12]) (c18_0)
def c18_2 : AC :=
  .seq (.region 0 [.mk4 0 (some 25) (.bslice 1 1 [.int .u8 0] [(0, (.c (.int .u8 97)))]) none,
    .mk4 1 (some 26) (.mark (.t 25)) none,
    .mk4 2 (some 27) (.build [.i 0, .i 0, .i 0, .nils] [(0, 1, (.c (.i 1))), (3, 1, (.t 26))]) none,
    .mk4 3 (some 28) (.bslice 4 1 [.i 0, .i 0, .i 0, .nils] [(0, (.t 27))]) none,
    .mk4 4 (some 29) (.build [.int .u64 0, .bool false, .nils, .nils] [(0, 1, (.c (.int .u64 3))), (3, 1, (.t 28))]) none,
    .mk4 5 (some 30) (.bslice 4 1 [.int .u64 0, .bool false, .nils, .nils] [(0, (.t 29))]) none,
    .mk4 6 (some 31) (.call 27 [(.t 30)]) none,
    .mk4 7 (some 24) (.mv (.t 31)) none,
    .mk4 8 (some 32) (.extract (.t 24) 0) none,
    .mk4 9 (some 33) (.extract (.t 24) 1) none,
    .mk4 10 (some 7) (.mv (.t 32)) none,
    .mk4 11 (some 8) (.mv (.t 33)) none] [3, 4, 5, 6, 7]) (c18_1)
def c18_3 : AC :=
  .seq (.region 0 [.mk4 0 (some 17) (.mv (.t 3)) none,
    .mk4 1 (some 18) (.mv (.t 0)) none,
    .mk4 2 (some 19) (.call 8 [(.t 17), (.t 18)]) none,
    .mk4 3 (some 16) (.mv (.t 19)) none,
    .mk4 4 (some 20) (.extract (.t 16) 0) none,
    .mk4 5 (some 21) (.extract (.t 16) 1) none,
    .mk4 6 (some 4) (.mv (.t 20)) none,
    .mk4 7 (some 5) (.mv (.t 21)) none] [3, 4, 5]) (.seq (.region 0 [.mk4 0 (some 22) (.mv (.t 4)) none,
    .mk4 1 (some 23) (.call 9 [(.t 22), (.c (.i 0)), (.c (.i 2))]) none,
    .mk4 2 (some 6) (.mv (.t 23)) none] [3, 4, 5, 6]) (c18_2))
def c18_4 : AC :=
  .seq (.region 0 [.mk4 0 (some 2) (.mv (.c (.bool false))) none] [0]) (.seq (.region 0 [.mk4 0 (some 13) (.call 4 []) none,
    .mk4 1 (some 3) (.mv (.t 13)) none] [0, 3]) (.seq (.region 0 [.mk4 0 (some 14) (.mv (.t 3)) none,
    .mk4 1 (some 15) (.call 5 [(.t 14), (.c (.i 4))]) none] [0, 3]) (c18_3)))
def c18 : AFn := ⟨1, 78, [.tmp 2],
  (c18_4)⟩
def c19 : AFn := ⟨0, 3, [.tmp 0],
  (.seq (.region 0 [.mk4 0 (some 0) (.mv (.c (.ptr none))) none] []) (.seq (.region 0 [.mk4 0 (some 1) (.build (List.replicate 32 (.bool false : V) ++ List.replicate 32 (.i 0 : V)) []) none,
    .mk4 1 (some 2) (.box 64 (.t 1)) none,
    .mk4 2 (some 0) (.mv (.t 2)) none] [0]) (.ret)))⟩
def c20_0 : AC :=
  .region 0 [.mk4 0 (some 21) (.mv (.t 3)) none,
    .mk4 1 (some 22) (.mv (.t 4)) none,
    .mk4 2 (some 23) (.nilck (.t 21)) none,
    .mk4 3 (some 24) (.faddr 0 (.t 23)) none,
    .mk4 4 (some 25) (.ixaA 2 7 (.t 24) (.t 22)) none,
    .mk4 5 (some 26) (.faddr 3 (.t 25)) none,
    .mk4 6 none (.store 1 (.t 26) (.c (.bool true))) none] [0, 3, 7]
def c20_1 : AC :=
  .seq (.region 0 [.mk4 0 (some 11) (.mv (.t 3)) none,
    .mk4 1 (some 12) (.mv (.t 4)) none,
    .mk4 2 (some 13) (.mv (.t 0)) none,
    .mk4 7 (some 17) (.nilck (.t 11)) none,
    .mk4 8 (some 18) (.faddr 0 (.t 17)) none,
    .mk4 3 (some 14) (.call 40 [(.t 13)]) none,
    .mk4 4 (some 10) (.mv (.t 14)) none,
    .mk4 5 (some 15) (.extract (.t 10) 0) none,
    .mk4 6 (some 16) (.extract (.t 10) 1) none,
    .mk4 9 (some 19) (.ixaA 2 7 (.t 18) (.t 12)) none,
    .mk4 10 (some 20) (.faddr 2 (.t 19)) none,
    .mk4 11 none (.store 1 (.t 20) (.t 15)) none] [0, 3, 4, 7]) (c20_0)
def c20_2 : AC :=
  .seq (.region 0 [.mk4 0 (some 8) (.bin .lss (.t 7) (.c (.i 2))) none] [0, 3, 7, 8]) (.seq (.cond (.t 8) (.skip) (.exit 0)) (.seq (.block 1 (.seq (.region 0 [.mk4 0 (some 9) (.mv (.t 7)) none,
    .mk4 1 (some 4) (.mv (.t 9)) none] [0, 3, 4, 7]) (c20_1))) (.region 0 [.mk4 0 (some 27) (.bin .add (.t 7) (.c (.i 1))) none,
    .mk4 1 (some 7) (.mv (.t 27)) none] [0, 3, 7])))
def c20_3 : AC :=
  .seq (.region 0 [.mk4 0 (some 5) (.build [.i 0, .i 0, .ptr none, .bool false, .bool false, .int .u64 0, .int .u64 0, .i 0, .i 0, .ptr none, .bool false, .bool false, .int .u64 0, .int .u64 0, .bool false, .i 0, .nils] []) none,
    .mk4 1 (some 6) (.box 17 (.t 5)) none,
    .mk4 2 (some 3) (.mv (.t 6)) none] [0, 3]) (.seq (.seq (.region 0 [.mk4 0 (some 7) (.mv (.c (.i 0))) none] [0, 3, 7]) (.block 0 (.loop [0, 3, 7] (c20_2)))) (.seq (.region 0 [.mk4 0 (some 28) (.mv (.t 3)) none,
    .mk4 1 (some 2) (.mv (.t 28)) none] [2]) (.ret)))
def c20 : AFn := ⟨1, 29, [.tmp 2],
  (.seq (.region 0 [.mk4 0 (some 2) (.mv (.c (.ptr none))) none] [0]) (c20_3))⟩
def c21_0 : AC :=
  .seq (.region 0 [.mk4 0 (some 27) (.mv (.t 0)) none,
    .mk4 1 (some 28) (.mv (.t 3)) none,
    .mk4 2 (some 29) (.mv (.t 10)) none,
    .mk4 3 (some 30) (.call 43 [(.t 27), (.t 28), (.t 29)]) none] [10]) (.seq (.region 0 [.mk4 0 (some 31) (.mv (.t 10)) none,
    .mk4 1 (some 8) (.mv (.t 31)) none,
    .mk4 2 (some 9) (.mv (.c (.i 0))) none] [8, 9]) (.ret))
def c21_1 : AC :=
  .seq (.region 0 [.mk4 0 (some 16) (.mv (.t 1)) none,
    .mk4 1 (some 17) (.call 41 [(.t 16)]) none,
    .mk4 2 (some 18) (.un .not (.t 17)) none,
    .mk4 3 (some 15) (.mv (.t 18)) none] [0, 2, 3, 15]) (.cond (.t 15) (.seq (.region 0 [.mk4 0 (some 8) (.mv (.c (.nils))) none,
    .mk4 1 (some 9) (.mv (.c (.i 2))) none] [8, 9]) (.ret)) (.skip))
def c21_2 : AC :=
  .seq (.region 0 [.mk4 0 (some 13) (.mv (.t 0)) none,
    .mk4 1 (some 14) (.call 35 [(.t 13)]) none,
    .mk4 2 (some 12) (.mv (.t 14)) none] [0, 1, 2, 3, 12]) (.cond (.t 12) (.seq (.region 0 [.mk4 0 (some 8) (.mv (.c (.nils))) none,
    .mk4 1 (some 9) (.mv (.c (.i 1))) none] [8, 9]) (.ret)) (c21_1))
def c21_3 : AC :=
  .seq (.region 0 [.mk4 0 (some 20) (.mv (.t 0)) none,
    .mk4 1 (some 21) (.mv (.t 2)) none,
    .mk4 2 (some 22) (.call 42 [(.t 20), (.t 21)]) none,
    .mk4 3 (some 19) (.mv (.t 22)) none,
    .mk4 4 (some 23) (.extract (.t 19) 0) none,
    .mk4 5 (some 24) (.extract (.t 19) 1) none,
    .mk4 6 (some 10) (.mv (.t 23)) none,
    .mk4 7 (some 11) (.mv (.t 24)) none] [0, 3, 10, 11]) (.seq (.seq (.region 0 [.mk4 0 (some 25) (.mv (.t 11)) none,
    .mk4 1 (some 26) (.un .not (.t 25)) none] [0, 3, 10, 26]) (.cond (.t 26) (.seq (.region 0 [.mk4 0 (some 8) (.mv (.c (.nils))) none,
    .mk4 1 (some 9) (.mv (.c (.i 112))) none] [8, 9]) (.ret)) (.skip))) (c21_0))
def c21 : AFn := ⟨4, 32, [.tmp 8, .tmp 9],
  (.seq (.region 0 [.mk4 0 (some 8) (.mv (.c (.nils))) none,
    .mk4 1 (some 9) (.mv (.c (.i 0))) none] [0, 1, 2, 3]) (.seq (.block 0 (c21_2)) (c21_3)))⟩
def c22_0 : AC :=
  .seq (.region 0 [.mk4 0 (some 10) (.mv (.t 1)) none,
    .mk4 1 (some 11) (.bin .lss (.t 10) (.c (.i 0))) none,
    .mk4 2 (some 12) (.mv (.t 11)) none,
    .mk4 3 (some 13) (.mv (.t 1)) (some (12, false)),
    .mk4 4 (some 14) (.mv (.t 0)) (some (12, false)),
    .mk4 5 (some 15) (.nilck (.t 14)) (some (12, false)),
    .mk4 6 (some 16) (.faddr 288 (.t 15)) (some (12, false)),
    .mk4 7 (some 17) (.load1 (.t 16)) (some (12, false)),
    .mk4 8 (some 18) (.lenL (.t 17)) (some (12, false)),
    .mk4 9 (some 19) (.bin .geq (.t 13) (.t 18)) (some (12, false)),
    .mk4 10 (some 20) (.pick (.t 12) (.c (.bool true)) (.t 19)) none,
    .mk4 11 (some 21) (.mv (.t 20)) none,
    .mk4 12 (some 22) (.mv (.t 0)) (some (21, false)),
    .mk4 13 (some 23) (.nilck (.t 22)) (some (21, false)),
    .mk4 14 (some 24) (.faddr 288 (.t 23)) (some (21, false)),
    .mk4 15 (some 25) (.load1 (.t 24)) (some (21, false)),
    .mk4 16 (some 26) (.mv (.t 1)) (some (21, false)),
    .mk4 17 (some 27) (.ixaS 1 (.t 25) (.t 26)) (some (21, false)),
    .mk4 18 (some 28) (.load1 (.t 27)) (some (21, false)),
    .mk4 19 (some 29) (.nilck (.t 28)) (some (21, false)),
    .mk4 20 (some 30) (.faddr 0 (.t 29)) (some (21, false)),
    .mk4 21 (some 31) (.ixaA 2 7 (.t 30) (.c (.i 1))) (some (21, false)),
    .mk4 22 (some 32) (.faddr 0 (.t 31)) (some (21, false)),
    .mk4 23 (some 33) (.load1 (.t 32)) (some (21, false)),
    .mk4 24 (some 34) (.bin .neq (.t 33) (.c (.i 2))) (some (21, false)),
    .mk4 25 (some 35) (.pick (.t 21) (.c (.bool true)) (.t 34)) none,
    .mk4 26 (some 9) (.mv (.t 35)) none] [0, 1, 9]) (.cond (.t 9) (.seq (.region 0 [.mk4 0 (some 4) (.mv (.c (.ptr none))) none,
    .mk4 1 (some 5) (.mv (.c (.i 116))) none] [4, 5]) (.ret)) (.skip))
def c22_1 : AC :=
  .seq (.region 0 [.mk4 0 (some 36) (.mv (.t 0)) none,
    .mk4 1 (some 37) (.nilck (.t 36)) none,
    .mk4 2 (some 38) (.faddr 288 (.t 37)) none,
    .mk4 3 (some 39) (.load1 (.t 38)) none,
    .mk4 4 (some 40) (.mv (.t 1)) none,
    .mk4 5 (some 41) (.ixaS 1 (.t 39) (.t 40)) none,
    .mk4 6 (some 42) (.load1 (.t 41)) none,
    .mk4 7 (some 4) (.mv (.t 42)) none,
    .mk4 8 (some 5) (.mv (.c (.i 0))) none] [4, 5]) (.ret)
def c22_2 : AC :=
  .seq (.block 0 (.seq (.region 0 [.mk4 0 (some 7) (.mv (.t 0)) none,
    .mk4 1 (some 8) (.call 35 [(.t 7)]) none,
    .mk4 2 (some 6) (.mv (.t 8)) none] [0, 1, 6]) (.cond (.t 6) (.seq (.region 0 [.mk4 0 (some 4) (.mv (.c (.ptr none))) none,
    .mk4 1 (some 5) (.mv (.c (.i 1))) none] [4, 5]) (.ret)) (c22_0)))) (c22_1)
def c22 : AFn := ⟨2, 43, [.tmp 4, .tmp 5],
  (.seq (.region 0 [.mk4 0 (some 4) (.mv (.c (.ptr none))) none,
    .mk4 1 (some 5) (.mv (.c (.i 0))) none] [0, 1]) (c22_2))⟩
def c23_0 : AC :=
  .seq (.region 0 [.mk4 0 (some 18) (.mv (.t 0)) none,
    .mk4 1 (some 19) (.mv (.t 1)) none,
    .mk4 2 (some 20) (.bin .sub (.c (.i 1)) (.t 19)) none,
    .mk4 3 (some 21) (.mv (.t 7)) none,
    .mk4 4 (some 22) (.bin .gtr (.t 21) (.c (.i 0))) none,
    .mk4 5 (some 23) (.call 45 [(.t 18), (.t 20), (.t 22), (.c (.bool false))]) none] [7]) (.seq (.region 0 [.mk4 0 (some 24) (.mv (.t 7)) none,
    .mk4 1 (some 6) (.mv (.t 24)) none] [6]) (.ret))
def c23_1 : AC :=
  .seq (.region 0 [.mk4 0 (some 8) (.mv (.t 0)) none,
    .mk4 1 (some 9) (.mv (.t 1)) none,
    .mk4 2 (some 10) (.bin .sub (.c (.i 1)) (.t 9)) none,
    .mk4 3 (some 11) (.nilck (.t 8)) none,
    .mk4 4 (some 12) (.faddr 0 (.t 11)) none,
    .mk4 5 (some 13) (.ixaA 2 7 (.t 12) (.t 10)) none,
    .mk4 6 (some 14) (.faddr 2 (.t 13)) none,
    .mk4 7 (some 15) (.load1 (.t 14)) none,
    .mk4 8 (some 16) (.mv (.t 2)) none,
    .mk4 9 (some 17) (.call 44 [(.t 15), (.t 16)]) none,
    .mk4 10 (some 7) (.mv (.t 17)) none] [0, 1, 7]) (c23_0)
def c23 : AFn := ⟨3, 25, [.tmp 6],
  (.seq (.region 0 [.mk4 0 (some 6) (.mv (.c (.i 0))) none] [0, 1, 2]) (c23_1))⟩
def c24_0 : AC :=
  .seq (.region 0 [.mk4 0 (some 3) (.mv (.t 0)) none,
    .mk4 1 (some 4) (.eq .ptr false (.t 3) (.c (.ptr none))) none,
    .mk4 2 (some 5) (.mv (.t 4)) none,
    .mk4 3 (some 6) (.mv (.t 0)) (some (5, false)),
    .mk4 4 (some 7) (.nilck (.t 6)) (some (5, false)),
    .mk4 5 (some 8) (.faddr 0 (.t 7)) (some (5, false)),
    .mk4 6 (some 9) (.load1 (.t 8)) (some (5, false)),
    .mk4 7 (some 10) (.eq .ptr false (.t 9) (.c (.ptr none))) (some (5, false)),
    .mk4 8 (some 11) (.pick (.t 5) (.c (.bool true)) (.t 10)) none,
    .mk4 9 (some 2) (.mv (.t 11)) none] [2]) (.ret)
def c24 : AFn := ⟨1, 12, [.tmp 2],
  (.seq (.region 0 [.mk4 0 (some 2) (.mv (.c (.bool false))) none] [0]) (c24_0))⟩
def c25_0 : AC :=
  .seq (.region 0 [.mk4 0 (some 3) (.mv (.t 0)) none,
    .mk4 1 (some 4) (.bin .geq (.t 3) (.c (.i 0))) none,
    .mk4 2 (some 5) (.mv (.t 4)) none,
    .mk4 3 (some 6) (.mv (.t 0)) (some (5, true)),
    .mk4 4 (some 7) (.bin .leq (.t 6) (.c (.i 95))) (some (5, true)),
    .mk4 5 (some 8) (.pick (.t 5) (.t 7) (.c (.bool false))) none,
    .mk4 6 (some 2) (.mv (.t 8)) none] [2]) (.ret)
def c25 : AFn := ⟨1, 9, [.tmp 2],
  (.seq (.region 0 [.mk4 0 (some 2) (.mv (.c (.bool false))) none] [0]) (c25_0))⟩
def c26_0 : AC :=
  .seq (.region 0 [.mk4 0 (some 15) (.mv (.t 0)) none,
    .mk4 1 (some 16) (.nilck (.t 15)) none,
    .mk4 2 (some 17) (.faddr 1 (.t 16)) none,
    .mk4 3 (some 18) (.load1 (.t 17)) none,
    .mk4 4 (some 19) (.bin .eql (.t 18) (.c (.i 1))) none,
    .mk4 5 (some 20) (.mv (.t 19)) none,
    .mk4 6 (some 21) (.mv (.t 1)) (some (20, true)),
    .mk4 7 (some 22) (.bin .geq (.t 21) (.c (.i 64))) (some (20, true)),
    .mk4 8 (some 23) (.pick (.t 20) (.t 22) (.c (.bool false))) none,
    .mk4 9 (some 14) (.mv (.t 23)) none] [14]) (.cond (.t 14) (.seq (.region 0 [.mk4 0 (some 4) (.mv (.c (.i 190))) none] [4]) (.ret)) (.skip))
def c26_1 : AC :=
  .seq (.region 0 [.mk4 0 (some 6) (.mv (.t 0)) none,
    .mk4 1 (some 7) (.nilck (.t 6)) none,
    .mk4 2 (some 8) (.faddr 0 (.t 7)) none,
    .mk4 3 (some 9) (.load1 (.t 8)) none,
    .mk4 4 (some 10) (.mv (.t 1)) none,
    .mk4 5 (some 11) (.call 46 [(.t 9), (.t 10)]) none,
    .mk4 6 (some 12) (.field 0 none (.t 11)) none,
    .mk4 7 (some 13) (.un .not (.t 12)) none,
    .mk4 8 (some 5) (.mv (.t 13)) none] [0, 1, 5]) (.cond (.t 5) (.seq (.region 0 [.mk4 0 (some 4) (.mv (.c (.i 110))) none] [4]) (.ret)) (c26_0))
def c26 : AFn := ⟨2, 24, [.tmp 4],
  (.seq (.region 0 [.mk4 0 (some 4) (.mv (.c (.i 0))) none] [0, 1]) (.seq (.block 0 (c26_1)) (.seq (.region 0 [.mk4 0 (some 4) (.mv (.c (.i 0))) none] [4]) (.ret))))⟩
def c27_0 : AC :=
  .seq (.region 0 [.mk4 0 (some 7) (.mv (.t 0)) none,
    .mk4 1 (some 8) (.call 48 [(.t 7)]) none,
    .mk4 2 (some 9) (.build [.nils, .nils] [(0, 1, (.t 8))]) none,
    .mk4 3 (some 10) (.box 2 (.t 9)) none,
    .mk4 4 (some 2) (.mv (.t 10)) none,
    .mk4 5 (some 3) (.mv (.c (.i 0))) none] [2, 3]) (.ret)
def c27_1 : AC :=
  .seq (.seq (.region 0 [.mk4 0 (some 4) (.mv (.t 0)) none,
    .mk4 1 (some 5) (.call 47 [(.t 4)]) none,
    .mk4 2 (some 6) (.un .not (.t 5)) none] [0, 6]) (.cond (.t 6) (.seq (.region 0 [.mk4 0 (some 2) (.mv (.c (.ptr none))) none,
    .mk4 1 (some 3) (.mv (.c (.i 120))) none] [2, 3]) (.ret)) (.skip))) (c27_0)
def c27 : AFn := ⟨1, 11, [.tmp 2, .tmp 3],
  (.seq (.region 0 [.mk4 0 (some 2) (.mv (.c (.ptr none))) none,
    .mk4 1 (some 3) (.mv (.c (.i 0))) none] [0]) (c27_1))⟩
def c28_0 : AC :=
  .region 0 [.mk4 0 (some 26) (.faddr 2 (.t 3)) none,
    .mk4 1 (some 27) (.loadN 2 (.t 26)) none,
    .mk4 2 (some 28) (.mv (.t 5)) none,
    .mk4 3 (some 29) (.call 49 [(.t 27), (.t 28)]) none,
    .mk4 4 (some 25) (.mv (.t 29)) none,
    .mk4 5 (some 30) (.extract (.t 25) 0) none,
    .mk4 6 (some 31) (.extract (.t 25) 1) none,
    .mk4 7 (some 32) (.faddr 2 (.t 3)) none,
    .mk4 8 none (.store 2 (.t 32) (.t 30)) none] [4, 5, 6]
def c28_1 : AC :=
  .region 1 [.mk4 0 (some 33) (.load1 (.t 4)) none,
    .mk4 1 (some 34) (.mv (.t 5)) none,
    .mk4 2 (some 35) (.mv (.t 6)) none,
    ⟨3, (some 36), .call 50 [(.t 35)], none, none, [(33, .load1 (.t 4), none)]⟩,
    .mk4 4 (some 37) (.build [.i 0, .i 0] [(0, 1, (.t 34)), (1, 1, (.t 36))]) none,
    ⟨5, (some 38), .bslice 2 1 [.i 0, .i 0] [(0, (.t 37))], none, some 0, []⟩,
    .mk4 6 (some 39) (.append 2 16 (.t 33) (.t 38)) none,
    .mk4 7 none (.store 1 (.t 4) (.t 39)) none] []
def c28_2 : AC :=
  .region 0 [.mk4 0 (some 15) (.faddr 0 (.t 3)) none,
    .mk4 1 (some 16) (.loadN 2 (.t 15)) none,
    .mk4 2 (some 17) (.mv (.t 5)) none,
    .mk4 3 (some 18) (.call 49 [(.t 16), (.t 17)]) none,
    .mk4 4 (some 14) (.mv (.t 18)) none,
    .mk4 5 (some 19) (.extract (.t 14) 0) none,
    .mk4 6 (some 20) (.extract (.t 14) 1) none,
    .mk4 7 (some 21) (.faddr 0 (.t 3)) none,
    .mk4 8 none (.store 2 (.t 21) (.t 19)) none] [3, 4, 5, 6]
def c28_3 : AC :=
  .seq (.seq (.region 0 [.mk4 0 (some 11) (.mv (.t 6)) none,
    .mk4 1 (some 12) (.bin .and (.t 11) (.c (.i 2))) none,
    .mk4 2 (some 13) (.bin .neq (.t 12) (.c (.i 0))) none] [3, 4, 5, 6, 13]) (.cond (.t 13) (c28_2) (.skip))) (.seq (.seq (.region 0 [.mk4 0 (some 22) (.mv (.t 6)) none,
    .mk4 1 (some 23) (.bin .and (.t 22) (.c (.i 4))) none,
    .mk4 2 (some 24) (.bin .neq (.t 23) (.c (.i 0))) none] [3, 4, 5, 6, 24]) (.cond (.t 24) (c28_0) (.skip))) (c28_1))
def c28_4 : AC :=
  .seq (.seq (.region 0 [.mk4 0 (some 40) (.mv (.t 0)) none,
    .mk4 1 (some 41) (.nilck (.t 40)) none,
    .mk4 2 (some 42) (.faddr 1 (.t 41)) none,
    .mk4 3 (some 43) (.load1 (.t 42)) none,
    .mk4 4 (some 44) (.bin .eql (.t 43) (.c (.i 1))) none] [3, 4, 44]) (.cond (.t 44) (.seq (.region 0 [.mk4 0 (some 45) (.loadN 4 (.t 3)) none,
    .mk4 1 (some 46) (.mkIface 120 (.t 45)) none,
    .mk4 2 (some 2) (.mv (.t 46)) none] [2]) (.ret)) (.skip))) (.seq (.region 0 [.mk4 0 (some 47) (.load1 (.t 4)) none,
    .mk4 1 (some 48) (.mkIface 122 (.t 47)) none,
    .mk4 2 (some 2) (.mv (.t 48)) none] [2]) (.ret))
def c28_5 : AC :=
  .seq (.seq (.region 0 [.mk4 0 (some 7) (.mv (.t 0)) none,
    .mk4 1 (some 8) (.call 31 [(.t 7)]) none] [0, 3, 4, 8]) (.block 0 (.rangeFunc (.t 8) [9, 10] [3, 4] (.seq (.region 0 [.mk4 0 (some 5) (.mv (.t 9)) none] [3, 4, 5, 10]) (.region 0 [.mk4 0 (some 6) (.mv (.t 10)) none] [3, 4, 5, 6])) (.block 1 (c28_3))))) (c28_4)
def c28 : AFn := ⟨1, 49, [.tmp 2],
  (.seq (.region 0 [.mk4 0 (some 2) (.mv (.c (.nili))) none] [0]) (.seq (.region 0 [.mk4 0 (some 3) (.alloc 4 [.int .u32 0, .int .u32 0, .int .u32 0, .int .u32 0]) none] [0, 3]) (.seq (.region 0 [.mk4 0 (some 4) (.alloc 1 [.nils]) none] [0, 3, 4]) (c28_5))))⟩
def c29_0 : AC :=
  .seq (.region 0 [.mk4 0 (some 107) (.mv (.t 2)) none,
    .mk4 1 (some 108) (.mv (.t 2)) none,
    .mk4 2 (some 109) (.mv (.t 0)) none,
    .mk4 3 (some 110) (.nilck (.t 109)) none,
    .mk4 4 (some 111) (.faddr 0 (.t 110)) none,
    .mk4 5 (some 112) (.load1 (.t 111)) none,
    .mk4 6 (some 113) (.ixaS 4 (.t 112) (.c (.i 0))) none,
    .mk4 7 (some 114) (.faddr 0 (.t 113)) none,
    .mk4 8 (some 115) (.load1 (.t 114)) none,
    .mk4 9 (some 116) (.minI [(.t 108), (.t 115)]) none,
    .mk4 10 (some 117) (.bin .sub (.t 107) (.t 116)) none,
    .mk4 11 (some 2) (.mv (.t 117)) none] [0, 1, 2, 3, 4]) (.seq (.region 0 [.mk4 0 (some 118) (.mv (.t 0)) none,
    .mk4 1 (some 119) (.mv (.t 1)) none,
    .mk4 2 (some 120) (.call 52 [(.t 118), (.t 119)]) none] [0, 1, 2, 3, 4, 120]) (.cond (.t 120) (.seq (.region 0 [.mk4 0 (some 10) (.mv (.c (.i 3))) none] [10]) (.ret)) (.skip)))
def c29_1 : AC :=
  .seq (.region 0 [.mk4 0 (some 84) (.mv (.t 0)) none,
    .mk4 1 (some 85) (.nilck (.t 84)) none,
    .mk4 2 (some 86) (.faddr 0 (.t 85)) none,
    .mk4 3 (some 87) (.load1 (.t 86)) none,
    .mk4 4 (some 88) (.ixaS 4 (.t 87) (.c (.i 0))) none,
    .mk4 5 (some 89) (.faddr 0 (.t 88)) none,
    .mk4 6 (some 90) (.load1 (.t 89)) none,
    .mk4 7 (some 91) (.mv (.t 2)) none,
    .mk4 8 (some 92) (.bin .sub (.t 90) (.t 91)) none,
    .mk4 9 (some 93) (.ixaS 4 (.t 87) (.c (.i 0))) none,
    .mk4 10 (some 94) (.faddr 0 (.t 93)) none,
    .mk4 11 none (.store 1 (.t 94) (.t 92)) none] [1, 2]) (.seq (.region 0 [.mk4 0 (some 95) (.mv (.t 1)) none,
    .mk4 1 (some 96) (.mv (.t 2)) none,
    .mk4 2 (some 97) (.call 53 [(.t 95), (.t 96)]) none] []) (.seq (.region 0 [.mk4 0 (some 10) (.mv (.c (.i 2))) none] [10]) (.ret)))
def c29_2 : AC :=
  .seq (.region 0 [.mk4 0 (some 71) (.mv (.t 3)) none,
    .mk4 1 (some 72) (.un .not (.t 71)) none,
    .mk4 2 (some 73) (.mv (.t 72)) none,
    .mk4 3 (some 74) (.mv (.t 0)) (some (73, true)),
    .mk4 4 (some 75) (.nilck (.t 74)) (some (73, true)),
    .mk4 5 (some 76) (.faddr 0 (.t 75)) (some (73, true)),
    .mk4 6 (some 77) (.load1 (.t 76)) (some (73, true)),
    .mk4 7 (some 78) (.ixaS 4 (.t 77) (.c (.i 0))) (some (73, true)),
    .mk4 8 (some 79) (.faddr 0 (.t 78)) (some (73, true)),
    .mk4 9 (some 80) (.load1 (.t 79)) (some (73, true)),
    .mk4 10 (some 81) (.mv (.t 2)) (some (73, true)),
    .mk4 11 (some 82) (.bin .gtr (.t 80) (.t 81)) (some (73, true)),
    .mk4 12 (some 83) (.pick (.t 73) (.t 82) (.c (.bool false))) none,
    .mk4 13 (some 70) (.mv (.t 83)) none] [0, 1, 2, 3, 4, 70]) (.cond (.t 70) (c29_1) (.skip))
def c29_3 : AC :=
  .seq (.region 0 [.mk4 0 (some 61) (.mv (.t 0)) none,
    .mk4 1 (some 62) (.nilck (.t 61)) none,
    .mk4 2 (some 63) (.faddr 0 (.t 62)) none,
    .mk4 3 (some 64) (.load1 (.t 63)) none,
    .mk4 4 (some 65) (.lenL (.t 64)) none,
    .mk4 5 (some 66) (.bin .eql (.t 65) (.c (.i 0))) none,
    .mk4 6 (some 60) (.mv (.t 66)) none] [0, 1, 2, 3, 4, 60]) (.cond (.t 60) (.seq (.region 0 [.mk4 0 (some 67) (.mv (.t 1)) none,
    .mk4 1 (some 68) (.mv (.t 2)) none,
    .mk4 2 (some 69) (.call 53 [(.t 67), (.t 68)]) none] []) (.seq (.region 0 [.mk4 0 (some 10) (.mv (.c (.i 2))) none] [10]) (.ret))) (c29_2))
def c29_4 : AC :=
  .seq (.region 0 [.mk4 0 (some 51) (.mv (.t 0)) none,
    .mk4 1 (some 52) (.nilck (.t 51)) none,
    .mk4 2 (some 53) (.faddr 0 (.t 52)) none,
    .mk4 3 (some 54) (.load1 (.t 53)) none,
    .mk4 4 (some 55) (.lenL (.t 54)) none,
    .mk4 5 (some 56) (.bin .eql (.t 55) (.c (.i 0))) none,
    .mk4 6 (some 57) (.mv (.t 56)) none,
    .mk4 7 (some 58) (.mv (.t 3)) (some (57, true)),
    .mk4 8 (some 59) (.pick (.t 57) (.t 58) (.c (.bool false))) none,
    .mk4 9 (some 50) (.mv (.t 59)) none] [0, 1, 2, 3, 4, 50]) (.cond (.t 50) (.seq (.region 0 [.mk4 0 (some 10) (.mv (.c (.i 4))) none] [10]) (.ret)) (c29_3))
def c29_5 : AC :=
  .seq (.region 0 [.mk4 0 (some 44) (.mv (.t 3)) none,
    .mk4 1 (some 45) (.un .not (.t 44)) none,
    .mk4 2 (some 46) (.mv (.t 45)) none,
    .mk4 3 (some 47) (.mv (.t 2)) (some (46, true)),
    .mk4 4 (some 48) (.bin .eql (.t 47) (.c (.int .u64 0))) (some (46, true)),
    .mk4 5 (some 49) (.pick (.t 46) (.t 48) (.c (.bool false))) none,
    .mk4 6 (some 43) (.mv (.t 49)) none] [0, 1, 2, 3, 4, 43]) (.cond (.t 43) (.seq (.region 0 [.mk4 0 (some 10) (.mv (.c (.i 2))) none] [10]) (.ret)) (c29_4))
def c29_6 : AC :=
  .seq (.region 0 [.mk4 0 (some 37) (.mv (.t 4)) none,
    .mk4 1 (some 38) (.eq .fn true (.t 37) (.c (.nilfn))) none,
    .mk4 2 (some 39) (.mv (.t 38)) none,
    .mk4 3 (some 40) (.mv (.t 4)) (some (39, true)),
    .mk4 4 (some 41) (.callv (.t 40) []) (some (39, true)),
    .mk4 5 (some 42) (.pick (.t 39) (.t 41) (.c (.bool false))) none,
    .mk4 6 (some 36) (.mv (.t 42)) none] [0, 1, 2, 3, 4, 36]) (.cond (.t 36) (.seq (.region 0 [.mk4 0 (some 10) (.mv (.c (.i 1))) none] [10]) (.ret)) (c29_5))
def c29_7 : AC :=
  .seq (.region 0 [.mk4 0 (some 98) (.mv (.t 1)) none,
    .mk4 1 (some 99) (.mv (.t 0)) none,
    .mk4 2 (some 100) (.nilck (.t 99)) none,
    .mk4 3 (some 101) (.faddr 0 (.t 100)) none,
    .mk4 4 (some 102) (.load1 (.t 101)) none,
    .mk4 5 (some 103) (.ixaS 4 (.t 102) (.c (.i 0))) none,
    .mk4 6 (some 104) (.faddr 0 (.t 103)) none,
    .mk4 7 (some 105) (.load1 (.t 104)) none,
    .mk4 8 (some 106) (.call 53 [(.t 98), (.t 105)]) none] [0, 1, 2, 3, 4]) (c29_0)
def c29_8 : AC :=
  .seq (.seq (.region 0 [.mk4 0 (some 17) (.mv (.t 0)) none,
    .mk4 1 (some 18) (.nilck (.t 17)) none,
    .mk4 2 (some 19) (.faddr 0 (.t 18)) none,
    .mk4 3 (some 20) (.load1 (.t 19)) none,
    .mk4 4 (some 21) (.lenL (.t 20)) none,
    .mk4 5 (some 22) (.bin .gtr (.t 21) (.c (.i 0))) none,
    .mk4 6 (some 23) (.mv (.t 22)) none,
    .mk4 7 (some 24) (.mv (.t 0)) (some (23, true)),
    .mk4 8 (some 25) (.nilck (.t 24)) (some (23, true)),
    .mk4 9 (some 26) (.faddr 0 (.t 25)) (some (23, true)),
    .mk4 10 (some 27) (.load1 (.t 26)) (some (23, true)),
    .mk4 11 (some 28) (.ixaS 4 (.t 27) (.c (.i 0))) (some (23, true)),
    .mk4 12 (some 29) (.faddr 0 (.t 28)) (some (23, true)),
    .mk4 13 (some 30) (.load1 (.t 29)) (some (23, true)),
    .mk4 14 (some 31) (.bin .eql (.t 30) (.c (.int .u64 0))) (some (23, true)),
    .mk4 15 (some 32) (.pick (.t 23) (.t 31) (.c (.bool false))) none] [0, 1, 2, 3, 4, 32]) (.cond (.t 32) (.skip) (.exit 0))) (.block 1 (.seq (.region 0 [.mk4 0 (some 33) (.mv (.t 0)) none,
    .mk4 1 (some 34) (.mv (.t 1)) none,
    .mk4 2 (some 35) (.call 52 [(.t 33), (.t 34)]) none] [0, 1, 2, 3, 4, 35]) (.cond (.t 35) (.seq (.region 0 [.mk4 0 (some 10) (.mv (.c (.i 3))) none] [10]) (.ret)) (.skip))))
def c29_9 : AC :=
  .seq (.seq (.region 0 [.mk4 0 (some 11) (.mv (.t 0)) none,
    .mk4 1 (some 12) (.eq .ptr false (.t 11) (.c (.ptr none))) none,
    .mk4 2 (some 13) (.mv (.t 12)) none,
    .mk4 3 (some 14) (.mv (.t 1)) (some (13, false)),
    .mk4 4 (some 15) (.call 51 [(.t 14)]) (some (13, false)),
    .mk4 5 (some 16) (.pick (.t 13) (.c (.bool true)) (.t 15)) none] [0, 1, 2, 3, 4, 16]) (.cond (.t 16) (.seq (.region 0 [.mk4 0 (some 10) (.mv (.c (.i 4))) none] [10]) (.ret)) (.skip))) (.seq (.block 0 (.loop [0, 1, 2, 3, 4] (c29_8))) (.block 2 (.loop [0, 1, 2, 3, 4] (.block 3 (.seq (.block 4 (c29_6)) (c29_7))))))
def c29 : AFn := ⟨5, 121, [.tmp 10],
  (.seq (.region 0 [.mk4 0 (some 10) (.mv (.c (.i 0))) none] [0, 1, 2, 3, 4]) (c29_9))⟩
def c30_0 : AC :=
  .seq (.region 0 [.mk4 0 (some 3) (.load1 (.t 0)) none,
    .mk4 1 (some 4) (.load1 (.t 1)) none,
    .mk4 2 (some 5) (.nilck (.t 4)) none,
    .mk4 3 (some 6) (.faddr 0 (.t 5)) none,
    .mk4 4 (some 7) (.load1 (.t 6)) none,
    .mk4 5 (some 8) (.mkBm "roundhouse/dpoll.holds" (.t 3)) none,
    .mk4 6 (some 9) (.nilckB "roundhouse/dpoll.holds" [(120, 128), (122, 148)] (.t 8)) none,
    .mk4 7 (some 10) (.mv (.t 3)) none,
    .mk4 8 (some 11) (.invoke [(120, 128), (122, 148)] (.t 10) [(.t 7)]) none,
    .mk4 9 (some 2) (.mv (.t 11)) none] [2]) (.ret)
def c30 : AFn := ⟨2, 12, [.tmp 2],
  (.seq (.region 0 [.mk4 0 (some 2) (.mv (.c (.bool false))) none] [0, 1]) (c30_0))⟩
def c31 : AFn := ⟨1, 4, [.tmp 2],
  (.seq (.region 0 [.mk4 0 (some 1) (.box 1 (.t 0)) none,
    .mk4 1 (some 2) (.mv (.c (.nilfn))) none] [1]) (.seq (.region 0 [.mk4 0 (some 3) (.mkClo 54 [(.t 1)]) none,
    .mk4 1 (some 2) (.mv (.t 3)) none] [2]) (.ret)))⟩
def c32_0 : AC :=
  .seq (.region 0 [.mk4 0 (some 6) (.mv (.t 0)) none,
    .mk4 1 (some 7) (.nilck (.t 6)) none,
    .mk4 2 (some 8) (.faddr 289 (.t 7)) none,
    .mk4 3 (some 9) (.load1 (.t 8)) none,
    .mk4 4 (some 10) (.call 55 [(.t 9)]) none,
    .mk4 5 (some 3) (.mv (.t 10)) none] [0, 3]) (.seq (.region 0 [.mk4 0 (some 11) (.mv (.t 0)) none,
    .mk4 1 (some 12) (.call 34 [(.t 11)]) none] [3]) (.seq (.region 0 [.mk4 0 (some 13) (.mv (.t 3)) none,
    .mk4 1 (some 2) (.mv (.t 13)) none] [2]) (.ret)))
def c32 : AFn := ⟨1, 14, [.tmp 2],
  (.seq (.region 0 [.mk4 0 (some 2) (.mv (.c (.nils))) none] [0]) (.seq (.seq (.region 0 [.mk4 0 (some 4) (.mv (.t 0)) none,
    .mk4 1 (some 5) (.call 35 [(.t 4)]) none] [0, 5]) (.cond (.t 5) (.seq (.region 0 [.mk4 0 (some 2) (.mv (.c (.nils))) none] [2]) (.ret)) (.skip))) (c32_0)))⟩
def c33_0 : AC :=
  .seq (.region 0 [.mk4 0 (some 12) (.mv (.t 1)) none,
    .mk4 1 (some 13) (.bin .lss (.t 12) (.c (.i 0))) none,
    .mk4 2 (some 14) (.mv (.t 13)) none,
    .mk4 3 (some 15) (.mv (.t 1)) (some (14, false)),
    .mk4 4 (some 16) (.bin .gtr (.t 15) (.c (.i 95))) (some (14, false)),
    .mk4 5 (some 17) (.pick (.t 14) (.c (.bool true)) (.t 16)) none,
    .mk4 6 (some 18) (.mv (.t 17)) none,
    .mk4 7 (some 19) (.mv (.t 0)) (some (18, false)),
    .mk4 8 (some 20) (.mv (.t 1)) (some (18, false)),
    .mk4 9 (some 21) (.nilck (.t 19)) (some (18, false)),
    .mk4 10 (some 22) (.faddr 0 (.t 21)) (some (18, false)),
    .mk4 11 (some 23) (.ixaA 96 3 (.t 22) (.t 20)) (some (18, false)),
    .mk4 12 (some 24) (.faddr 0 (.t 23)) (some (18, false)),
    .mk4 13 (some 25) (.load1 (.t 24)) (some (18, false)),
    .mk4 14 (some 26) (.un .not (.t 25)) (some (18, false)),
    .mk4 15 (some 27) (.pick (.t 18) (.c (.bool true)) (.t 26)) none,
    .mk4 16 (some 11) (.mv (.t 27)) none] [0, 1, 4, 11]) (.cond (.t 11) (.seq (.region 0 [.mk4 0 (some 28) (.build [.bool false, .i 0, .i 0] []) none,
    .mk4 1 none (.store 3 (.t 4) (.t 28)) none,
    .mk4 2 (some 5) (.mv (.c (.ptr none))) none,
    .mk4 3 (some 6) (.mv (.c (.i 110))) none] [4, 5, 6]) (.ret)) (.skip))
def c33_1 : AC :=
  .seq (.region 0 [.mk4 0 (some 8) (.mv (.t 0)) none,
    .mk4 1 (some 9) (.call 35 [(.t 8)]) none,
    .mk4 2 (some 7) (.mv (.t 9)) none] [0, 1, 4, 7]) (.cond (.t 7) (.seq (.region 0 [.mk4 0 (some 10) (.build [.bool false, .i 0, .i 0] []) none,
    .mk4 1 none (.store 3 (.t 4) (.t 10)) none,
    .mk4 2 (some 5) (.mv (.c (.ptr none))) none,
    .mk4 3 (some 6) (.mv (.c (.i 1))) none] [4, 5, 6]) (.ret)) (c33_0))
def c33_2 : AC :=
  .seq (.region 0 [.mk4 0 (some 29) (.mv (.t 0)) none,
    .mk4 1 (some 30) (.mv (.t 1)) none,
    .mk4 2 (some 31) (.nilck (.t 29)) none,
    .mk4 3 (some 32) (.faddr 0 (.t 31)) none,
    .mk4 4 (some 33) (.ixaA 96 3 (.t 32) (.t 30)) none,
    .mk4 5 (some 34) (.loadN 3 (.t 33)) none,
    .mk4 6 (some 35) (.mv (.t 0)) none,
    .mk4 7 (some 36) (.nilck (.t 35)) none,
    .mk4 8 (some 37) (.faddr 288 (.t 36)) none,
    .mk4 9 (some 38) (.load1 (.t 37)) none,
    .mk4 10 (some 39) (.mv (.t 0)) none,
    .mk4 11 (some 40) (.mv (.t 1)) none,
    .mk4 12 (some 41) (.nilck (.t 39)) none,
    .mk4 13 (some 42) (.faddr 0 (.t 41)) none,
    .mk4 14 (some 43) (.ixaA 96 3 (.t 42) (.t 40)) none,
    .mk4 15 (some 44) (.faddr 1 (.t 43)) none,
    .mk4 16 (some 45) (.load1 (.t 44)) none,
    .mk4 17 (some 46) (.ixaS 1 (.t 38) (.t 45)) none,
    .mk4 18 (some 47) (.load1 (.t 46)) none,
    ⟨19, none, .store 3 (.t 4) (.t 34), none, none, [(38, .load1 (.t 37), none), (45, .load1 (.t 44), none), (47, .load1 (.t 46), none)]⟩,
    .mk4 20 (some 5) (.mv (.t 47)) none,
    .mk4 21 (some 6) (.mv (.c (.i 0))) none] [4, 5, 6]) (.ret)
def c33 : AFn := ⟨2, 48, [.cellN 4 3, .tmp 5, .tmp 6],
  (.seq (.region 0 [.mk4 0 (some 4) (.alloc 3 [.bool false, .i 0, .i 0]) none,
    .mk4 1 (some 5) (.mv (.c (.ptr none))) none,
    .mk4 2 (some 6) (.mv (.c (.i 0))) none] [0, 1, 4]) (.seq (.block 0 (c33_1)) (c33_2)))⟩
def c34_0 : AC :=
  .cond (.t 48) (.region 0 [.mk4 0 (some 52) (.mv (.t 2)) none,
    .mk4 1 (some 53) (.mv (.t 3)) none,
    .mk4 2 (some 54) (.bin .sub (.c (.i 1)) (.t 53)) none,
    .mk4 3 (some 55) (.bslice 1 1 [.int .u8 0] [(0, (.c (.int .u8 1)))]) none,
    .mk4 4 (some 56) (.call 23 [(.t 52), (.t 54), (.t 55)]) none] []) (.skip)
def c34_1 : AC :=
  .region 0 [.mk4 0 (some 41) (.mv (.t 2)) none,
    .mk4 1 (some 42) (.mv (.t 3)) none,
    .mk4 2 (some 43) (.bin .sub (.c (.i 1)) (.t 42)) none,
    .mk4 3 (some 44) (.mv (.t 4)) none,
    .mk4 4 (some 45) (.call 57 [(.t 44)]) none,
    .mk4 5 (some 46) (.bin .gtr (.t 45) (.c (.i 0))) none,
    .mk4 6 (some 47) (.call 45 [(.t 41), (.t 43), (.c (.bool false)), (.t 46)]) none] []
def c34_2 : AC :=
  .seq (.region 0 [.mk4 0 (some 35) (.mv (.t 0)) none,
    .mk4 1 (some 36) (.nilck (.t 35)) none,
    .mk4 2 (some 37) (.faddr 289 (.t 36)) none,
    .mk4 3 (some 38) (.load1 (.t 37)) none,
    .mk4 4 (some 39) (.call 56 [(.t 38)]) none,
    .mk4 5 (some 40) (.bin .eql (.t 39) (.c (.i 0))) none,
    .mk4 6 (some 34) (.mv (.t 40)) none] [2, 3, 4, 34]) (.cond (.t 34) (c34_1) (.seq (.region 0 [.mk4 0 (some 49) (.mv (.t 4)) none,
    .mk4 1 (some 50) (.call 58 [(.t 49)]) none,
    .mk4 2 (some 51) (.bin .eql (.t 50) (.c (.i 0))) none,
    .mk4 3 (some 48) (.mv (.t 51)) none] [2, 3, 48]) (c34_0)))
def c34_3 : AC :=
  .seq (.region 0 [.mk4 0 (some 27) (.mv (.t 2)) none,
    .mk4 1 (some 28) (.mv (.t 3)) none,
    .mk4 2 (some 29) (.nilck (.t 27)) none,
    .mk4 3 (some 30) (.faddr 0 (.t 29)) none,
    .mk4 4 (some 31) (.ixaA 2 7 (.t 30) (.t 28)) none,
    .mk4 5 (some 32) (.faddr 2 (.t 31)) none,
    .mk4 6 (some 33) (.load1 (.t 32)) none,
    .mk4 7 (some 4) (.mv (.t 33)) none] [0, 2, 3, 4]) (.block 0 (c34_2))
def c34_4 : AC :=
  .seq (.region 0 [.mk4 0 (some 11) (.mv (.t 0)) none,
    .mk4 1 (some 12) (.nilck (.t 11)) none,
    .mk4 2 (some 13) (.faddr 288 (.t 12)) none,
    .mk4 3 (some 14) (.load1 (.t 13)) none,
    .mk4 4 (some 15) (.mv (.t 0)) none,
    .mk4 5 (some 16) (.nilck (.t 15)) none,
    .mk4 6 (some 17) (.faddr 291 (.t 16)) none,
    .mk4 7 (some 18) (.faddr 1 (.t 17)) none,
    .mk4 8 (some 19) (.load1 (.t 18)) none,
    .mk4 9 (some 20) (.ixaS 1 (.t 14) (.t 19)) none,
    .mk4 10 (some 21) (.load1 (.t 20)) none,
    .mk4 11 (some 22) (.mv (.t 0)) none,
    .mk4 12 (some 23) (.nilck (.t 22)) none,
    .mk4 13 (some 24) (.faddr 291 (.t 23)) none,
    .mk4 14 (some 25) (.faddr 2 (.t 24)) none,
    .mk4 15 (some 26) (.load1 (.t 25)) none,
    .mk4 16 (some 2) (.mv (.t 21)) none,
    .mk4 17 (some 3) (.mv (.t 26)) none] [0, 2, 3]) (c34_3)
def c34_5 : AC :=
  .seq (.seq (.region 0 [.mk4 0 (some 5) (.mv (.t 0)) none,
    .mk4 1 (some 6) (.nilck (.t 5)) none,
    .mk4 2 (some 7) (.faddr 291 (.t 6)) none,
    .mk4 3 (some 8) (.faddr 0 (.t 7)) none,
    .mk4 4 (some 9) (.load1 (.t 8)) none,
    .mk4 5 (some 10) (.un .not (.t 9)) none] [0, 10]) (.cond (.t 10) (.ret) (.skip))) (c34_4)
def c34 : AFn := ⟨1, 57, [],
  (c34_5)⟩
def c35_0 : AC :=
  .seq (.region 0 [.mk4 0 (some 3) (.mv (.t 0)) none,
    .mk4 1 (some 4) (.eq .ptr false (.t 3) (.c (.ptr none))) none,
    .mk4 2 (some 5) (.mv (.t 4)) none,
    .mk4 3 (some 6) (.mv (.t 0)) (some (5, false)),
    .mk4 4 (some 7) (.nilck (.t 6)) (some (5, false)),
    .mk4 5 (some 8) (.faddr 289 (.t 7)) (some (5, false)),
    .mk4 6 (some 9) (.load1 (.t 8)) (some (5, false)),
    .mk4 7 (some 10) (.eq .ptr false (.t 9) (.c (.ptr none))) (some (5, false)),
    .mk4 8 (some 11) (.pick (.t 5) (.c (.bool true)) (.t 10)) none,
    .mk4 9 (some 2) (.mv (.t 11)) none] [2]) (.ret)
def c35 : AFn := ⟨1, 12, [.tmp 2],
  (.seq (.region 0 [.mk4 0 (some 2) (.mv (.c (.bool false))) none] [0]) (c35_0))⟩
def c36_0 : AC :=
  .cond (.t 21) (.region 0 [.mk4 0 (some 22) (.mv (.t 0)) none,
    .mk4 1 (some 23) (.mv (.t 1)) none,
    .mk4 2 (some 24) (.nilck (.t 22)) none,
    .mk4 3 (some 25) (.faddr 32 (.t 24)) none,
    .mk4 4 (some 26) (.ixaA 32 1 (.t 25) (.t 23)) none,
    .mk4 5 none (.store 1 (.t 26) (.c (.i 0))) none] []) (.skip)
def c36_1 : AC :=
  .seq (.seq (.region 0 [.mk4 0 (some 14) (.mv (.t 0)) none,
    .mk4 1 (some 15) (.mv (.t 1)) none,
    .mk4 2 (some 16) (.mv (.t 2)) none,
    .mk4 3 (some 17) (.nilck (.t 14)) none,
    .mk4 4 (some 18) (.faddr 0 (.t 17)) none,
    .mk4 5 (some 19) (.ixaA 32 1 (.t 18) (.t 15)) none,
    .mk4 6 none (.store 1 (.t 19) (.t 16)) none] [0, 1, 2]) (.seq (.region 0 [.mk4 0 (some 20) (.mv (.t 2)) none,
    .mk4 1 (some 21) (.un .not (.t 20)) none] [0, 1, 21]) (c36_0))) (.seq (.region 0 [.mk4 0 (some 6) (.mv (.c (.i 0))) none] [6]) (.ret))
def c36_2 : AC :=
  .seq (.seq (.region 0 [.mk4 0 (some 8) (.mv (.t 0)) none,
    .mk4 1 (some 9) (.mv (.t 1)) none,
    .mk4 2 (some 10) (.call 59 [(.t 8), (.t 9)]) none,
    .mk4 3 (some 7) (.mv (.t 10)) none] [0, 1, 2, 7]) (.seq (.region 0 [.mk4 0 (some 11) (.mv (.t 7)) none,
    .mk4 1 (some 12) (.bin .neq (.t 11) (.c (.i 0))) none] [0, 1, 2, 7, 12]) (.cond (.t 12) (.seq (.region 0 [.mk4 0 (some 13) (.mv (.t 7)) none,
    .mk4 1 (some 6) (.mv (.t 13)) none] [6]) (.ret)) (.skip)))) (c36_1)
def c36 : AFn := ⟨3, 27, [.tmp 6],
  (.seq (.region 0 [.mk4 0 (some 6) (.mv (.c (.i 0))) none] [0, 1, 2]) (c36_2))⟩
def c37_0 : AC :=
  .region 0 [.mk4 0 (some 18) (.mv (.t 0)) none,
    .mk4 1 (some 19) (.mv (.t 1)) none,
    .mk4 2 (some 20) (.nilck (.t 18)) none,
    .mk4 3 (some 21) (.faddr 32 (.t 20)) none,
    .mk4 4 (some 22) (.ixaA 32 1 (.t 21) (.t 19)) none,
    .mk4 5 (some 23) (.load1 (.t 22)) none,
    .mk4 6 (some 24) (.mv (.t 0)) none,
    .mk4 7 (some 25) (.mv (.t 1)) none,
    .mk4 8 (some 26) (.nilck (.t 24)) none,
    .mk4 9 (some 27) (.faddr 32 (.t 26)) none,
    .mk4 10 (some 28) (.ixaA 32 1 (.t 27) (.t 25)) none,
    .mk4 11 (some 29) (.load1 (.t 28)) none,
    .mk4 12 (some 30) (.bin .sub (.c (.i 2147483647)) (.t 29)) none,
    .mk4 13 (some 31) (.minI [(.c (.i 1)), (.t 30)]) none,
    .mk4 14 (some 32) (.bin .add (.t 23) (.t 31)) none,
    .mk4 15 (some 33) (.nilck (.t 18)) none,
    .mk4 16 (some 34) (.faddr 32 (.t 33)) none,
    .mk4 17 (some 35) (.ixaA 32 1 (.t 34) (.t 19)) none,
    .mk4 18 none (.store 1 (.t 35) (.t 32)) none] []
def c37_1 : AC :=
  .seq (.seq (.region 0 [.mk4 0 (some 12) (.mv (.t 0)) none,
    .mk4 1 (some 13) (.mv (.t 1)) none,
    .mk4 2 (some 14) (.nilck (.t 12)) none,
    .mk4 3 (some 15) (.faddr 0 (.t 14)) none,
    .mk4 4 (some 16) (.ixaA 32 1 (.t 15) (.t 13)) none,
    .mk4 5 (some 17) (.load1 (.t 16)) none] [0, 1, 17]) (.cond (.t 17) (c37_0) (.skip))) (.seq (.region 0 [.mk4 0 (some 4) (.mv (.c (.i 0))) none] [4]) (.ret))
def c37_2 : AC :=
  .seq (.seq (.region 0 [.mk4 0 (some 6) (.mv (.t 0)) none,
    .mk4 1 (some 7) (.mv (.t 1)) none,
    .mk4 2 (some 8) (.call 59 [(.t 6), (.t 7)]) none,
    .mk4 3 (some 5) (.mv (.t 8)) none] [0, 1, 5]) (.seq (.region 0 [.mk4 0 (some 9) (.mv (.t 5)) none,
    .mk4 1 (some 10) (.bin .neq (.t 9) (.c (.i 0))) none] [0, 1, 5, 10]) (.cond (.t 10) (.seq (.region 0 [.mk4 0 (some 11) (.mv (.t 5)) none,
    .mk4 1 (some 4) (.mv (.t 11)) none] [4]) (.ret)) (.skip)))) (c37_1)
def c37 : AFn := ⟨2, 36, [.tmp 4],
  (.seq (.region 0 [.mk4 0 (some 4) (.mv (.c (.i 0))) none] [0, 1]) (c37_2))⟩
def c38_0 : AC :=
  .region 0 [.mk4 0 (some 16) (.mv (.t 0)) none,
    .mk4 1 (some 17) (.mv (.t 1)) none,
    .mk4 2 (some 18) (.nilck (.t 16)) none,
    .mk4 3 (some 19) (.faddr 0 (.t 18)) none,
    .mk4 4 (some 20) (.ixaA 2 7 (.t 19) (.t 17)) none,
    .mk4 5 (some 21) (.faddr 0 (.t 20)) none,
    .mk4 6 none (.store 1 (.t 21) (.c (.i 3))) none] []
def c38_1 : AC :=
  .seq (.region 0 [.mk4 0 (some 4) (.mv (.t 0)) none,
    .mk4 1 (some 5) (.mv (.t 1)) none,
    .mk4 2 (some 6) (.bin .sub (.c (.i 1)) (.t 5)) none,
    .mk4 3 (some 7) (.mv (.t 0)) none,
    .mk4 4 (some 8) (.mv (.t 1)) none,
    .mk4 5 (some 9) (.nilck (.t 7)) none,
    .mk4 6 (some 10) (.faddr 0 (.t 9)) none,
    .mk4 7 (some 11) (.ixaA 2 7 (.t 10) (.t 8)) none,
    .mk4 8 (some 12) (.faddr 4 (.t 11)) none,
    .mk4 9 (some 13) (.load1 (.t 12)) none,
    .mk4 10 (some 14) (.un .not (.t 13)) none,
    .mk4 11 (some 15) (.call 45 [(.t 4), (.t 6), (.t 14), (.c (.bool true))]) none] [0, 1]) (c38_0)
def c38 : AFn := ⟨2, 22, [],
  (c38_1)⟩
def c39_0 : AC :=
  .seq (.seq (.region 0 [.mk4 0 (some 3) (.mv (.t 0)) none,
    .mk4 1 (some 4) (.call 35 [(.t 3)]) none] [0, 4]) (.cond (.t 4) (.seq (.region 0 [.mk4 0 (some 2) (.mv (.c (.int .u64 0))) none] [2]) (.ret)) (.skip))) (.seq (.region 0 [.mk4 0 (some 5) (.mv (.t 0)) none,
    .mk4 1 (some 6) (.nilck (.t 5)) none,
    .mk4 2 (some 7) (.faddr 290 (.t 6)) none,
    .mk4 3 (some 8) (.load1 (.t 7)) none,
    .mk4 4 (some 2) (.mv (.t 8)) none] [2]) (.ret))
def c39 : AFn := ⟨1, 9, [.tmp 2],
  (.seq (.region 0 [.mk4 0 (some 2) (.mv (.c (.int .u64 0))) none] [0]) (c39_0))⟩
def c40_0 : AC :=
  .seq (.region 0 [.mk4 0 (some 10) (.mv (.t 0)) none,
    .mk4 1 (some 11) (.mkSlice 1 1 [.int .u8 0] (.t 10) (.t 10)) none,
    .mk4 2 (some 12) (.build [.nils, .i 0, .i 0, .int .u64 0, .int .u64 0, .bool false] [(0, 1, (.t 11)), (5, 1, (.c (.bool true)))]) none,
    .mk4 3 (some 13) (.box 6 (.t 12)) none,
    .mk4 4 (some 2) (.mv (.t 13)) none,
    .mk4 5 (some 3) (.mv (.c (.i 0))) none] [2, 3]) (.ret)
def c40_1 : AC :=
  .seq (.seq (.region 0 [.mk4 0 (some 4) (.mv (.t 0)) none,
    .mk4 1 (some 5) (.bin .lss (.t 4) (.c (.i 0))) none,
    .mk4 2 (some 6) (.mv (.t 5)) none,
    .mk4 3 (some 7) (.mv (.t 0)) (some (6, false)),
    .mk4 4 (some 8) (.bin .gtr (.t 7) (.c (.i 65536))) (some (6, false)),
    .mk4 5 (some 9) (.pick (.t 6) (.c (.bool true)) (.t 8)) none] [0, 9]) (.cond (.t 9) (.seq (.region 0 [.mk4 0 (some 2) (.mv (.c (.ptr none))) none,
    .mk4 1 (some 3) (.mv (.c (.i 2))) none] [2, 3]) (.ret)) (.skip))) (c40_0)
def c40 : AFn := ⟨1, 14, [.tmp 2, .tmp 3],
  (.seq (.region 0 [.mk4 0 (some 2) (.mv (.c (.ptr none))) none,
    .mk4 1 (some 3) (.mv (.c (.i 0))) none] [0]) (c40_1))⟩
def c41_0 : AC :=
  .seq (.region 0 [.mk4 0 (some 3) (.mv (.t 0)) none,
    .mk4 1 (some 4) (.bin .geq (.t 3) (.c (.i 1))) none,
    .mk4 2 (some 5) (.mv (.t 4)) none,
    .mk4 3 (some 6) (.mv (.t 0)) (some (5, true)),
    .mk4 4 (some 7) (.bin .leq (.t 6) (.c (.i 65536))) (some (5, true)),
    .mk4 5 (some 8) (.pick (.t 5) (.t 7) (.c (.bool false))) none,
    .mk4 6 (some 2) (.mv (.t 8)) none] [2]) (.ret)
def c41 : AFn := ⟨1, 9, [.tmp 2],
  (.seq (.region 0 [.mk4 0 (some 2) (.mv (.c (.bool false))) none] [0]) (c41_0))⟩
def c42_0 : AC :=
  .seq (.seq (.region 0 [.mk4 0 (some 11) (.load1 (.t 6)) none,
    .mk4 1 (some 12) (.lenL (.t 11)) none,
    .mk4 2 (some 13) (.load1 (.t 3)) none,
    .mk4 3 (some 14) (.bin .eql (.t 12) (.t 13)) none] [6, 7, 14]) (.cond (.t 14) (.exit 0) (.skip))) (.region 0 [.mk4 0 (some 15) (.load1 (.t 6)) none,
    .mk4 1 (some 16) (.mv (.t 7)) none,
    .mk4 2 (some 17) (.bslice 1 1 [.i 0] [(0, (.t 16))]) none,
    .mk4 3 (some 18) (.append 1 8 (.t 15) (.t 17)) none,
    .mk4 4 none (.store 1 (.t 6) (.t 18)) none] [])
def c42_1 : AC :=
  .seq (.region 0 [.mk4 0 (some 19) (.load1 (.t 6)) none,
    .mk4 1 (some 20) (.load1 (.t 6)) none,
    .mk4 2 (some 21) (.lenL (.t 20)) none,
    .mk4 3 (some 22) (.load1 (.t 3)) none,
    .mk4 4 (some 23) (.bin .eql (.t 21) (.t 22)) none,
    .mk4 5 (some 24) (.mv (.t 23)) none,
    .mk4 6 (some 25) (.mv (.t 0)) (some (24, true)),
    .mk4 7 (some 26) (.nilck (.t 25)) (some (24, true)),
    .mk4 8 (some 27) (.faddr 288 (.t 26)) (some (24, true)),
    .mk4 9 (some 28) (.load1 (.t 27)) (some (24, true)),
    .mk4 10 (some 29) (.lenL (.t 28)) (some (24, true)),
    .mk4 11 (some 30) (.bin .lss (.t 29) (.c (.i 1000))) (some (24, true)),
    .mk4 12 (some 31) (.pick (.t 24) (.t 30) (.c (.bool false))) none,
    .mk4 13 (some 4) (.mv (.t 19)) none,
    .mk4 14 (some 5) (.mv (.t 31)) none] [4, 5]) (.ret)
def c42_2 : AC :=
  .scope (.seq (.region 0 [.mk4 0 (some 6) (.alloc 1 [.nils]) none] [0, 3, 6]) (.seq (.label 0) (.seq (.seq (.region 0 [.mk4 0 (some 8) (.mv (.t 0)) none,
    .mk4 1 (some 9) (.call 60 [(.t 8)]) none] [0, 3, 6, 9]) (.block 0 (.rangeFunc (.t 9) [10] [3, 6] (.region 0 [.mk4 0 (some 7) (.mv (.t 10)) none] [3, 6, 7]) (.block 1 (c42_0))))) (c42_1))))
def c42 : AFn := ⟨2, 32, [.tmp 4, .tmp 5],
  (.seq (.region 0 [.mk4 0 (some 3) (.box 1 (.t 1)) none,
    .mk4 1 (some 4) (.mv (.c (.nils))) none,
    .mk4 2 (some 5) (.mv (.c (.bool false))) none] [0, 3]) (c42_2))⟩
def c43_0 : AC :=
  .region 0 [.mk4 0 (some 28) (.mv (.t 0)) none,
    .mk4 1 (some 29) (.mv (.t 7)) none,
    .mk4 2 (some 30) (.mv (.t 0)) none,
    .mk4 3 (some 31) (.nilck (.t 30)) none,
    .mk4 4 (some 32) (.faddr 288 (.t 31)) none,
    .mk4 5 (some 33) (.load1 (.t 32)) none,
    .mk4 6 (some 34) (.lenL (.t 33)) none,
    .mk4 7 (some 35) (.mv (.t 6)) none,
    .mk4 8 (some 36) (.build [.bool false, .i 0, .i 0] [(0, 1, (.c (.bool true))), (1, 1, (.t 34)), (2, 1, (.t 35))]) none,
    .mk4 9 (some 37) (.nilck (.t 28)) none,
    .mk4 10 (some 38) (.faddr 0 (.t 37)) none,
    .mk4 11 (some 39) (.ixaA 96 3 (.t 38) (.t 29)) none,
    .mk4 12 none (.store 3 (.t 39) (.t 36)) none] [0, 1, 8, 9, 10]
def c43_1 : AC :=
  .seq (.region 0 [.mk4 0 (some 15) (.mv (.t 1)) none,
    .mk4 1 (some 16) (.mv (.t 6)) none,
    .mk4 2 (some 17) (.mv (.t 1)) none,
    .mk4 3 (some 18) (.mv (.t 6)) none,
    .mk4 4 (some 19) (.mv (.t 7)) none,
    .mk4 5 (some 20) (.nilck (.t 15)) none,
    .mk4 6 (some 21) (.faddr 0 (.t 20)) none,
    .mk4 7 (some 22) (.ixaA 2 7 (.t 21) (.t 16)) none,
    .mk4 8 (some 23) (.faddr 0 (.t 22)) none,
    .mk4 10 (some 24) (.nilck (.t 17)) none,
    .mk4 11 (some 25) (.faddr 0 (.t 24)) none,
    .mk4 9 none (.store 1 (.t 23) (.c (.i 1))) none,
    .mk4 12 (some 26) (.ixaA 2 7 (.t 25) (.t 18)) none,
    .mk4 13 (some 27) (.faddr 1 (.t 26)) none,
    .mk4 14 none (.store 1 (.t 27) (.t 19)) none] [0, 1, 6, 7, 8, 9, 10]) (c43_0)
def c43_2 : AC :=
  .seq (.block 1 (.seq (.region 0 [.mk4 0 (some 12) (.mv (.t 10)) none,
    .mk4 1 (some 13) (.ixaS 1 (.t 8) (.t 10)) none,
    .mk4 2 (some 14) (.load1 (.t 13)) none,
    .mk4 3 (some 6) (.mv (.t 12)) none,
    .mk4 4 (some 7) (.mv (.t 14)) none] [0, 1, 6, 7, 8, 9, 10]) (c43_1))) (.region 0 [.mk4 0 (some 40) (.bin .add (.t 10) (.c (.i 1))) none,
    .mk4 1 (some 10) (.mv (.t 40)) none] [0, 1, 8, 9, 10])
def c43_3 : AC :=
  .region 0 [.mk4 0 (some 41) (.mv (.t 0)) none,
    .mk4 1 (some 42) (.mv (.t 0)) none,
    .mk4 2 (some 43) (.nilck (.t 42)) none,
    .mk4 3 (some 44) (.faddr 288 (.t 43)) none,
    .mk4 4 (some 45) (.load1 (.t 44)) none,
    .mk4 5 (some 46) (.mv (.t 1)) none,
    .mk4 6 (some 47) (.bslice 1 1 [.ptr none] [(0, (.t 46))]) none,
    .mk4 7 (some 48) (.append 1 8 (.t 45) (.t 47)) none,
    .mk4 8 (some 49) (.nilck (.t 41)) none,
    .mk4 9 (some 50) (.faddr 288 (.t 49)) none,
    .mk4 10 none (.store 1 (.t 50) (.t 48)) none] []
def c43_4 : AC :=
  .seq (.seq (.region 0 [.mk4 0 (some 8) (.mv (.t 2)) none,
    .mk4 1 (some 9) (.lenL (.t 8)) none,
    .mk4 2 (some 10) (.mv (.c (.i 0))) none] [0, 1, 8, 9, 10]) (.block 0 (.loop [0, 1, 8, 9, 10] (.seq (.region 0 [.mk4 0 (some 11) (.bin .lss (.t 10) (.t 9)) none] [0, 1, 8, 9, 10, 11]) (.seq (.cond (.t 11) (.skip) (.exit 0)) (c43_2)))))) (c43_3)
def c43 : AFn := ⟨3, 51, [],
  (c43_4)⟩
def c44_0 : AC :=
  .seq (.region 0 [.mk4 0 (some 46) (.mv (.t 0)) none,
    .mk4 1 (some 47) (.nilck (.t 46)) none,
    .mk4 2 (some 48) (.faddr 3 (.t 47)) none,
    .mk4 3 (some 49) (.load1 (.t 48)) none,
    .mk4 4 (some 50) (.mv (.t 1)) none,
    .mk4 5 (some 51) (.lenL (.t 50)) none,
    .mk4 6 (some 52) (.convInt .u64 (.t 51)) none,
    .mk4 7 (some 53) (.bin .add (.t 49) (.t 52)) none,
    .mk4 8 (some 54) (.nilck (.t 46)) none,
    .mk4 9 (some 55) (.faddr 3 (.t 54)) none,
    .mk4 10 none (.store 1 (.t 55) (.t 53)) none] [1]) (.seq (.region 0 [.mk4 0 (some 56) (.mv (.t 1)) none,
    .mk4 1 (some 57) (.lenL (.t 56)) none,
    .mk4 2 (some 4) (.mv (.t 57)) none] [4]) (.ret))
def c44_1 : AC :=
  .region 0 [.mk4 0 (some 32) (.load1 (.t 5)) none,
    .mk4 1 (some 33) (.mv (.t 6)) none,
    .mk4 2 (some 34) (.load1 (.t 5)) none,
    ⟨3, (some 35), .copy 1 (.t 33) (.t 34), none, none, [(32, .load1 (.t 5), none)]⟩,
    .mk4 4 (some 36) (.slice 1 (.t 32) (some (.t 35)) none none) none,
    .mk4 5 none (.store 1 (.t 5) (.t 36)) none] []
def c44_2 : AC :=
  .seq (.region 0 [.mk4 0 (some 37) (.mv (.t 0)) none,
    .mk4 1 (some 38) (.nilck (.t 37)) none,
    .mk4 2 (some 39) (.faddr 2 (.t 38)) none,
    .mk4 3 (some 40) (.load1 (.t 39)) none,
    .mk4 4 (some 41) (.mv (.t 1)) none,
    .mk4 5 (some 42) (.lenL (.t 41)) none,
    .mk4 6 (some 43) (.bin .add (.t 40) (.t 42)) none,
    .mk4 7 (some 44) (.nilck (.t 37)) none,
    .mk4 8 (some 45) (.faddr 2 (.t 44)) none,
    .mk4 9 none (.store 1 (.t 45) (.t 43)) none] [0, 1]) (c44_0)
def c44_3 : AC :=
  .seq (.seq (.region 0 [.mk4 0 (some 18) (.mv (.t 0)) none,
    .mk4 1 (some 19) (.mv (.t 0)) none,
    .mk4 2 (some 20) (.nilck (.t 19)) none,
    .mk4 3 (some 21) (.faddr 1 (.t 20)) none,
    .mk4 4 (some 22) (.load1 (.t 21)) none,
    .mk4 5 (some 23) (.mv (.t 0)) none,
    .mk4 6 (some 24) (.nilck (.t 23)) none,
    .mk4 7 (some 25) (.faddr 2 (.t 24)) none,
    .mk4 8 (some 26) (.load1 (.t 25)) none,
    .mk4 9 (some 27) (.bin .add (.t 22) (.t 26)) none,
    .mk4 10 (some 28) (.mv (.t 1)) none,
    .mk4 11 (some 29) (.lenL (.t 28)) none,
    .mk4 12 (some 30) (.call 62 [(.t 18), (.t 27), (.t 29)]) none] [0, 1, 5, 30]) (.block 0 (.rangeFunc (.t 30) [31] [5] (.region 0 [.mk4 0 (some 6) (.mv (.t 31)) none] [5, 6]) (.block 1 (c44_1))))) (c44_2)
def c44_4 : AC :=
  .seq (.seq (.region 0 [.mk4 0 (some 14) (.mv (.t 1)) none,
    .mk4 1 (some 15) (.lenL (.t 14)) none,
    .mk4 2 (some 16) (.bin .eql (.t 15) (.c (.i 0))) none] [0, 1, 16]) (.cond (.t 16) (.seq (.region 0 [.mk4 0 (some 4) (.mv (.c (.i 0))) none] [4]) (.ret)) (.skip))) (.seq (.region 0 [.mk4 0 (some 17) (.mv (.t 1)) none,
    .mk4 1 (some 5) (.alloc 1 [.nils]) none,
    .mk4 2 none (.store 1 (.t 5) (.t 17)) none] [0, 1, 5]) (c44_3))
def c44_5 : AC :=
  .seq (.region 0 [.mk4 0 (some 7) (.mv (.t 1)) none,
    .mk4 1 (some 8) (.mv (.t 1)) none,
    .mk4 2 (some 9) (.lenL (.t 8)) none,
    .mk4 3 (some 10) (.mv (.t 0)) none,
    .mk4 4 (some 11) (.call 61 [(.t 10)]) none,
    .mk4 5 (some 12) (.minI [(.t 9), (.t 11)]) none,
    .mk4 6 (some 13) (.slice 1 (.t 7) none (some (.t 12)) none) none,
    .mk4 7 (some 1) (.mv (.t 13)) none] [0, 1]) (c44_4)
def c44 : AFn := ⟨2, 58, [.tmp 4],
  (.seq (.region 0 [.mk4 0 (some 4) (.mv (.c (.i 0))) none] [0, 1]) (c44_5))⟩
def c45_0 : AC :=
  .region 0 [.mk4 0 (some 41) (.mv (.t 0)) none,
    .mk4 1 (some 42) (.mv (.t 1)) none,
    .mk4 2 (some 43) (.nilck (.t 41)) none,
    .mk4 3 (some 44) (.faddr 0 (.t 43)) none,
    .mk4 4 (some 45) (.ixaA 2 7 (.t 44) (.t 42)) none,
    .mk4 5 (some 46) (.faddr 6 (.t 45)) none,
    .mk4 6 (some 47) (.load1 (.t 46)) none,
    .mk4 7 (some 48) (.bin .add (.t 47) (.c (.int .u64 1))) none,
    .mk4 8 (some 49) (.nilck (.t 41)) none,
    .mk4 9 (some 50) (.faddr 0 (.t 49)) none,
    .mk4 10 (some 51) (.ixaA 2 7 (.t 50) (.t 42)) none,
    .mk4 11 (some 52) (.faddr 6 (.t 51)) none,
    .mk4 12 none (.store 1 (.t 52) (.t 48)) none] []
def c45_1 : AC :=
  .region 0 [.mk4 0 (some 19) (.mv (.t 0)) none,
    .mk4 1 (some 20) (.mv (.t 1)) none,
    .mk4 2 (some 21) (.nilck (.t 19)) none,
    .mk4 3 (some 22) (.faddr 0 (.t 21)) none,
    .mk4 4 (some 23) (.ixaA 2 7 (.t 22) (.t 20)) none,
    .mk4 5 (some 24) (.faddr 5 (.t 23)) none,
    .mk4 6 (some 25) (.load1 (.t 24)) none,
    .mk4 7 (some 26) (.bin .add (.t 25) (.c (.int .u64 1))) none,
    .mk4 8 (some 27) (.nilck (.t 19)) none,
    .mk4 9 (some 28) (.faddr 0 (.t 27)) none,
    .mk4 10 (some 29) (.ixaA 2 7 (.t 28) (.t 20)) none,
    .mk4 11 (some 30) (.faddr 5 (.t 29)) none,
    .mk4 12 none (.store 1 (.t 30) (.t 26)) none] [0, 1, 3]
def c45_2 : AC :=
  .seq (.region 0 [.mk4 0 (some 31) (.mv (.t 3)) none,
    .mk4 1 (some 32) (.mv (.t 31)) none,
    .mk4 2 (some 33) (.mv (.t 0)) (some (32, true)),
    .mk4 3 (some 34) (.mv (.t 1)) (some (32, true)),
    .mk4 4 (some 35) (.nilck (.t 33)) (some (32, true)),
    .mk4 5 (some 36) (.faddr 0 (.t 35)) (some (32, true)),
    .mk4 6 (some 37) (.ixaA 2 7 (.t 36) (.t 34)) (some (32, true)),
    .mk4 7 (some 38) (.faddr 3 (.t 37)) (some (32, true)),
    .mk4 8 (some 39) (.load1 (.t 38)) (some (32, true)),
    .mk4 9 (some 40) (.pick (.t 32) (.t 39) (.c (.bool false))) none] [0, 1, 40]) (.cond (.t 40) (c45_0) (.skip))
def c45_3 : AC :=
  .seq (.seq (.region 0 [.mk4 0 (some 8) (.mv (.t 2)) none,
    .mk4 1 (some 9) (.mv (.t 8)) none,
    .mk4 2 (some 10) (.mv (.t 0)) (some (9, true)),
    .mk4 3 (some 11) (.mv (.t 1)) (some (9, true)),
    .mk4 4 (some 12) (.nilck (.t 10)) (some (9, true)),
    .mk4 5 (some 13) (.faddr 0 (.t 12)) (some (9, true)),
    .mk4 6 (some 14) (.ixaA 2 7 (.t 13) (.t 11)) (some (9, true)),
    .mk4 7 (some 15) (.faddr 2 (.t 14)) (some (9, true)),
    .mk4 8 (some 16) (.load1 (.t 15)) (some (9, true)),
    .mk4 9 (some 17) (.eq .ptr true (.t 16) (.c (.ptr none))) (some (9, true)),
    .mk4 10 (some 18) (.pick (.t 9) (.t 17) (.c (.bool false))) none] [0, 1, 3, 18]) (.cond (.t 18) (c45_1) (.skip))) (c45_2)
def c45 : AFn := ⟨4, 53, [],
  (c45_3)⟩
def c46_0 : AC :=
  .seq (.region 0 [.mk4 0 (some 85) (.faddr 3 (.t 8)) none,
    .mk4 1 (some 86) (.load1 (.t 85)) none,
    .mk4 2 (some 87) (.mv (.t 86)) none,
    .mk4 3 (some 88) (.faddr 4 (.t 8)) (some (87, true)),
    .mk4 4 (some 89) (.load1 (.t 88)) (some (87, true)),
    .mk4 5 (some 90) (.un .not (.t 89)) (some (87, true)),
    .mk4 6 (some 91) (.pick (.t 87) (.t 90) (.c (.bool false))) none,
    .mk4 7 (some 92) (.mv (.t 91)) none,
    .mk4 8 (some 93) (.faddr 3 (.t 10)) (some (92, true)),
    .mk4 9 (some 94) (.load1 (.t 93)) (some (92, true)),
    .mk4 10 (some 95) (.mv (.t 94)) (some (92, true)),
    .mk4 11 (some 96) (.mv (.t 6)) (some (95, false)),
    .mk4 12 (some 97) (.nilck (.t 96)) (some (95, false)),
    .mk4 13 (some 98) (.faddr 14 (.t 97)) (some (95, false)),
    .mk4 14 (some 99) (.load1 (.t 98)) (some (95, false)),
    .mk4 15 (some 100) (.pick (.t 95) (.c (.bool true)) (.t 99)) (some (92, true)),
    .mk4 16 (some 101) (.mv (.t 100)) (some (92, true)),
    .mk4 17 (some 102) (.faddr 2 (.t 9)) (some (101, false)),
    .mk4 18 (some 103) (.load1 (.t 102)) (some (101, false)),
    .mk4 19 (some 104) (.call 61 [(.t 103)]) (some (101, false)),
    .mk4 20 (some 105) (.bin .gtr (.t 104) (.c (.i 0))) (some (101, false)),
    .mk4 21 (some 106) (.pick (.t 101) (.c (.bool true)) (.t 105)) (some (92, true)),
    .mk4 22 (some 107) (.pick (.t 92) (.t 106) (.c (.bool false))) none,
    .mk4 23 (some 108) (.faddr 2 (.t 10)) none,
    .mk4 24 none (.store 1 (.t 108) (.t 107)) none] [4, 10]) (.seq (.region 0 [.mk4 0 (some 109) (.loadN 7 (.t 10)) none,
    .mk4 1 none (.store 7 (.t 4) (.t 109)) none] [4]) (.ret))
def c46_1 : AC :=
  .seq (.region 0 [.mk4 0 (some 63) (.faddr 2 (.t 8)) none,
    .mk4 1 (some 64) (.load1 (.t 63)) none,
    .mk4 2 (some 65) (.eq .ptr true (.t 64) (.c (.ptr none))) none,
    .mk4 3 (some 66) (.mv (.t 65)) none,
    .mk4 4 (some 67) (.faddr 2 (.t 8)) (some (66, true)),
    .mk4 5 (some 68) (.load1 (.t 67)) (some (66, true)),
    .mk4 6 (some 69) (.call 58 [(.t 68)]) (some (66, true)),
    .mk4 7 (some 70) (.bin .gtr (.t 69) (.c (.i 0))) (some (66, true)),
    .mk4 8 (some 71) (.mv (.t 70)) (some (66, true)),
    .mk4 9 (some 72) (.mv (.t 6)) (some (71, false)),
    .mk4 10 (some 73) (.faddr 2 (.t 5)) (some (71, false)),
    .mk4 11 (some 74) (.load1 (.t 73)) (some (71, false)),
    .mk4 12 (some 75) (.call 63 [(.t 72), (.t 74)]) (some (71, false)),
    .mk4 13 (some 76) (.pick (.t 71) (.c (.bool true)) (.t 75)) (some (66, true)),
    .mk4 14 (some 77) (.mv (.t 76)) (some (66, true)),
    .mk4 15 (some 78) (.mv (.t 6)) (some (77, false)),
    .mk4 16 (some 79) (.nilck (.t 78)) (some (77, false)),
    .mk4 17 (some 80) (.faddr 14 (.t 79)) (some (77, false)),
    .mk4 18 (some 81) (.load1 (.t 80)) (some (77, false)),
    .mk4 19 (some 82) (.pick (.t 77) (.c (.bool true)) (.t 81)) (some (66, true)),
    .mk4 20 (some 83) (.pick (.t 66) (.t 82) (.c (.bool false))) none,
    .mk4 21 (some 84) (.faddr 1 (.t 10)) none,
    .mk4 22 none (.store 1 (.t 84) (.t 83)) none] [4, 6, 8, 9, 10]) (c46_0)
def c46_2 : AC :=
  .seq (.region 0 [.mk4 0 (some 46) (.mv (.t 6)) none,
    .mk4 1 (some 47) (.nilck (.t 46)) none,
    .mk4 2 (some 48) (.faddr 16 (.t 47)) none,
    .mk4 3 (some 49) (.load1 (.t 48)) none,
    .mk4 4 (some 50) (.lenL (.t 49)) none,
    .mk4 5 (some 51) (.bin .gtr (.t 50) (.c (.i 0))) none,
    .mk4 6 (some 52) (.faddr 1 (.t 10)) none,
    .mk4 7 none (.store 1 (.t 52) (.t 51)) none] [4, 10]) (.seq (.region 0 [.mk4 0 (some 53) (.loadN 7 (.t 10)) none,
    .mk4 1 none (.store 7 (.t 4) (.t 53)) none] [4]) (.ret))
def c46_3 : AC :=
  .seq (.region 0 [.mk4 0 (some 54) (.faddr 0 (.t 9)) none,
    .mk4 1 (some 55) (.load1 (.t 54)) none,
    .mk4 2 (some 56) (.bin .eql (.t 55) (.c (.i 3))) none,
    .mk4 3 (some 57) (.mv (.t 6)) none,
    .mk4 4 (some 58) (.nilck (.t 57)) none,
    .mk4 5 (some 59) (.faddr 14 (.t 58)) none,
    .mk4 6 (some 60) (.load1 (.t 59)) none,
    .mk4 7 (some 61) (.faddr 3 (.t 10)) none,
    ⟨8, none, .store 1 (.t 61) (.t 56), none, none, [(60, .load1 (.t 59), none)]⟩,
    .mk4 9 (some 62) (.faddr 4 (.t 10)) none,
    .mk4 10 none (.store 1 (.t 62) (.t 60)) none] [4, 5, 6, 8, 9, 10]) (c46_1)
def c46_4 : AC :=
  .seq (.seq (.region 0 [.mk4 0 (some 41) (.mv (.t 6)) none,
    .mk4 1 (some 42) (.nilck (.t 41)) none,
    .mk4 2 (some 43) (.faddr 15 (.t 42)) none,
    .mk4 3 (some 44) (.load1 (.t 43)) none,
    .mk4 4 (some 45) (.bin .gtr (.t 44) (.c (.i 0))) none] [4, 5, 6, 8, 9, 10, 45]) (.cond (.t 45) (c46_2) (.skip))) (c46_3)
def c46_5 : AC :=
  .seq (.region 0 [.mk4 0 (some 36) (.faddr 5 (.t 8)) none,
    .mk4 1 (some 37) (.load1 (.t 36)) none,
    .mk4 2 (some 38) (.faddr 6 (.t 8)) none,
    .mk4 3 (some 39) (.load1 (.t 38)) none,
    .mk4 4 (some 40) (.build [.bool false, .bool false, .bool false, .bool false, .bool false, .int .u64 0, .int .u64 0] [(0, 1, (.c (.bool true))), (5, 1, (.t 37)), (6, 1, (.t 39))]) none,
    .mk4 5 (some 10) (.alloc 7 [.bool false, .bool false, .bool false, .bool false, .bool false, .int .u64 0, .int .u64 0]) none,
    .mk4 6 none (.store 7 (.t 10) (.t 40)) none] [4, 5, 6, 8, 9, 10]) (c46_4)
def c46_6 : AC :=
  .seq (.region 2 [.mk4 0 (some 21) (.mv (.t 6)) none,
    .mk4 1 (some 22) (.faddr 2 (.t 5)) none,
    .mk4 2 (some 23) (.load1 (.t 22)) none,
    .mk4 3 (some 24) (.nilck (.t 21)) none,
    .mk4 4 (some 25) (.faddr 0 (.t 24)) none,
    .mk4 5 (some 26) (.ixaA 2 7 (.t 25) (.t 23)) none,
    .mk4 6 (some 27) (.loadN 7 (.t 26)) none,
    .mk4 7 (some 28) (.mv (.t 6)) none,
    .mk4 8 (some 29) (.faddr 2 (.t 5)) none,
    .mk4 9 (some 30) (.load1 (.t 29)) none,
    .mk4 10 (some 31) (.bin .sub (.c (.i 1)) (.t 30)) none,
    .mk4 11 (some 32) (.nilck (.t 28)) none,
    .mk4 12 (some 33) (.faddr 0 (.t 32)) none,
    .mk4 13 (some 34) (.ixaA 2 7 (.t 33) (.t 31)) none,
    .mk4 14 (some 35) (.loadN 7 (.t 34)) none,
    ⟨15, (some 8), .alloc 7 [.i 0, .i 0, .ptr none, .bool false, .bool false, .int .u64 0, .int .u64 0], none, some 0, []⟩,
    ⟨16, (some 9), .alloc 7 [.i 0, .i 0, .ptr none, .bool false, .bool false, .int .u64 0, .int .u64 0], none, some 1, []⟩,
    ⟨17, none, .store 7 (.t 8) (.t 27), none, none, [(30, .load1 (.t 29), none), (35, .loadN 7 (.t 34), none)]⟩,
    .mk4 18 none (.store 7 (.t 9) (.t 35)) none] [4, 5, 6, 8, 9]) (c46_5)
def c46_7 : AC :=
  .seq (.seq (.region 0 [.mk4 0 (some 18) (.mv (.t 7)) none,
    .mk4 1 (some 19) (.bin .neq (.t 18) (.c (.i 0))) none] [4, 5, 6, 19]) (.cond (.t 19) (.seq (.region 0 [.mk4 0 (some 20) (.build [.bool false, .bool false, .bool false, .bool false, .bool false, .int .u64 0, .int .u64 0] []) none,
    .mk4 1 none (.store 7 (.t 4) (.t 20)) none] [4]) (.ret)) (.skip))) (c46_6)
def c46_8 : AC :=
  .seq (.region 0 [.mk4 0 (some 12) (.mv (.t 0)) none,
    .mk4 1 (some 13) (.mv (.t 1)) none,
    .mk4 2 (some 14) (.call 33 [(.t 12), (.t 13)]) none,
    .mk4 3 (some 11) (.mv (.t 14)) none,
    .mk4 4 (some 15) (.extract (.t 11) 0) none,
    .mk4 5 (some 16) (.extract (.t 11) 1) none,
    .mk4 6 (some 17) (.extract (.t 11) 2) none,
    .mk4 7 (some 5) (.alloc 3 [.bool false, .i 0, .i 0]) none,
    .mk4 8 none (.store 3 (.t 5) (.t 15)) none,
    .mk4 9 (some 6) (.mv (.t 16)) none,
    .mk4 10 (some 7) (.mv (.t 17)) none] [4, 5, 6, 7]) (c46_7)
def c46 : AFn := ⟨2, 110, [.cellN 4 7],
  (.seq (.region 0 [.mk4 0 (some 4) (.alloc 7 [.bool false, .bool false, .bool false, .bool false, .bool false, .int .u64 0, .int .u64 0]) none] [0, 1, 4]) (c46_8))⟩
def c47_0 : AC :=
  .seq (.region 0 [.mk4 0 (some 3) (.mv (.t 0)) none,
    .mk4 1 (some 4) (.lenL (.t 3)) none,
    .mk4 2 (some 5) (.bin .leq (.t 4) (.c (.i 2000))) none,
    .mk4 3 (some 6) (.mv (.t 5)) none,
    .mk4 4 (some 7) (.mv (.t 0)) (some (6, true)),
    .mk4 5 (some 8) (.call 64 [(.t 7), (.c (.clo 65 []))]) (some (6, true)),
    .mk4 6 (some 9) (.un .not (.t 8)) (some (6, true)),
    .mk4 7 (some 10) (.pick (.t 6) (.t 9) (.c (.bool false))) none,
    .mk4 8 (some 2) (.mv (.t 10)) none] [2]) (.ret)
def c47 : AFn := ⟨1, 11, [.tmp 2],
  (.seq (.region 0 [.mk4 0 (some 2) (.mv (.c (.bool false))) none] [0]) (c47_0))⟩
def c48_0 : AC :=
  .region 0 [.mk4 0 (some 12) (.mv (.t 3)) none,
    .mk4 1 (some 13) (.loadN 4 (.t 5)) none,
    .mk4 2 (some 14) (.call 67 [(.t 13)]) none,
    .mk4 3 (some 15) (.bslice 4 1 [.int .u64 0, .bool false, .nils, .nils] [(0, (.t 14))]) none,
    .mk4 4 (some 16) (.append 4 64 (.t 12) (.t 15)) none,
    .mk4 5 (some 3) (.mv (.t 16)) none] [3, 6, 7, 8]
def c48_1 : AC :=
  .seq (.block 1 (.seq (.region 0 [.mk4 0 (some 10) (.ixaS 4 (.t 6) (.t 8)) none,
    .mk4 1 (some 11) (.loadN 4 (.t 10)) none,
    .mk4 2 (some 5) (.alloc 4 [.int .u64 0, .bool false, .nils, .nils]) none,
    .mk4 3 none (.store 4 (.t 5) (.t 11)) none] [3, 5, 6, 7, 8]) (c48_0))) (.region 0 [.mk4 0 (some 17) (.bin .add (.t 8) (.c (.i 1))) none,
    .mk4 1 (some 8) (.mv (.t 17)) none] [3, 6, 7, 8])
def c48_2 : AC :=
  .seq (.seq (.region 0 [.mk4 0 (some 6) (.mv (.t 0)) none,
    .mk4 1 (some 7) (.lenL (.t 6)) none,
    .mk4 2 (some 8) (.mv (.c (.i 0))) none] [3, 6, 7, 8]) (.block 0 (.loop [3, 6, 7, 8] (.seq (.region 0 [.mk4 0 (some 9) (.bin .lss (.t 8) (.t 7)) none] [3, 6, 7, 8, 9]) (.seq (.cond (.t 9) (.skip) (.exit 0)) (c48_1)))))) (.seq (.region 0 [.mk4 0 (some 18) (.mv (.t 3)) none,
    .mk4 1 (some 2) (.mv (.t 18)) none] [2]) (.ret))
def c48 : AFn := ⟨1, 19, [.tmp 2],
  (.seq (.region 0 [.mk4 0 (some 2) (.mv (.c (.nils))) none] [0]) (.seq (.region 0 [.mk4 0 (some 3) (.mv (.c (.nils))) none] [0, 3]) (c48_2)))⟩
def c49_0 : AC :=
  .seq (.region 0 [.mk4 0 (some 10) (.mv (.t 1)) none,
    .mk4 1 (some 11) (.bin .quo (.t 10) (.c (.i 32))) none,
    .mk4 2 (some 12) (.ixaA 2 1 (.t 2) (.t 11)) none,
    .mk4 3 (some 13) (.load1 (.t 12)) none,
    .mk4 4 (some 14) (.mv (.t 1)) none,
    .mk4 5 (some 15) (.bin .rem (.t 14) (.c (.i 32))) none,
    .mk4 6 (some 16) (.bin .shl (.c (.int .u32 1)) (.t 15)) none,
    .mk4 7 (some 17) (.bin .or (.t 13) (.t 16)) none,
    .mk4 8 (some 18) (.ixaA 2 1 (.t 2) (.t 11)) none,
    .mk4 9 none (.store 1 (.t 18) (.t 17)) none] [2, 4]) (.seq (.region 0 [.mk4 0 (some 19) (.loadN 2 (.t 2)) none,
    .mk4 1 none (.store 2 (.t 4) (.t 19)) none,
    .mk4 2 (some 5) (.mv (.c (.i 0))) none] [4, 5]) (.ret))
def c49_1 : AC :=
  .seq (.seq (.region 0 [.mk4 0 (some 6) (.mv (.t 1)) none,
    .mk4 1 (some 7) (.call 68 [(.t 6)]) none,
    .mk4 2 (some 8) (.un .not (.t 7)) none] [1, 2, 4, 8]) (.cond (.t 8) (.seq (.region 0 [.mk4 0 (some 9) (.build [.int .u32 0, .int .u32 0] []) none,
    .mk4 1 none (.store 2 (.t 4) (.t 9)) none,
    .mk4 2 (some 5) (.mv (.c (.i 10))) none] [4, 5]) (.ret)) (.skip))) (c49_0)
def c49 : AFn := ⟨2, 20, [.cellN 4 2, .tmp 5],
  (.seq (.region 0 [.mk4 0 (some 2) (.box 2 (.t 0)) none,
    .mk4 1 (some 4) (.alloc 2 [.int .u32 0, .int .u32 0]) none,
    .mk4 2 (some 5) (.mv (.c (.i 0))) none] [1, 2, 4]) (c49_1))⟩
def c50_0 : AC :=
  .seq (.seq (.region 0 [.mk4 0 (some 9) (.mv (.t 0)) none,
    .mk4 1 (some 10) (.bin .and (.t 9) (.c (.i 4))) none,
    .mk4 2 (some 11) (.bin .neq (.t 10) (.c (.i 0))) none] [3, 11]) (.cond (.t 11) (.region 0 [.mk4 0 (some 12) (.mv (.t 3)) none,
    .mk4 1 (some 13) (.bin .or (.t 12) (.c (.i 4))) none,
    .mk4 2 (some 3) (.mv (.t 13)) none] [3]) (.skip))) (.seq (.region 0 [.mk4 0 (some 14) (.mv (.t 3)) none,
    .mk4 1 (some 2) (.mv (.t 14)) none] [2]) (.ret))
def c50_1 : AC :=
  .seq (.seq (.region 0 [.mk4 0 (some 4) (.mv (.t 0)) none,
    .mk4 1 (some 5) (.bin .and (.t 4) (.c (.i 2))) none,
    .mk4 2 (some 6) (.bin .neq (.t 5) (.c (.i 0))) none] [0, 3, 6]) (.cond (.t 6) (.region 0 [.mk4 0 (some 7) (.mv (.t 3)) none,
    .mk4 1 (some 8) (.bin .or (.t 7) (.c (.i 1))) none,
    .mk4 2 (some 3) (.mv (.t 8)) none] [0, 3]) (.skip))) (c50_0)
def c50 : AFn := ⟨1, 15, [.tmp 2],
  (.seq (.region 0 [.mk4 0 (some 2) (.mv (.c (.i 0))) none] [0]) (.seq (.region 0 [.mk4 0 (some 3) (.mv (.c (.i 0))) none] [0, 3]) (c50_1)))⟩
def c51_0 : AC :=
  .seq (.region 0 [.mk4 0 (some 6) (.mv (.t 0)) none,
    .mk4 1 (some 7) (.call 69 [(.t 6), (.c (.i (-1)))]) none,
    .mk4 2 (some 5) (.mv (.t 7)) none,
    .mk4 3 (some 8) (.extract (.t 5) 0) none,
    .mk4 4 (some 9) (.extract (.t 5) 1) none,
    .mk4 5 (some 3) (.mv (.t 8)) none,
    .mk4 6 (some 4) (.mv (.t 9)) none] [4]) (.seq (.region 0 [.mk4 0 (some 10) (.mv (.t 4)) none,
    .mk4 1 (some 11) (.bin .eql (.t 10) (.c (.i 1))) none,
    .mk4 2 (some 2) (.mv (.t 11)) none] [2]) (.ret))
def c51 : AFn := ⟨1, 12, [.tmp 2],
  (.seq (.region 0 [.mk4 0 (some 2) (.mv (.c (.bool false))) none] [0]) (c51_0))⟩
def c52_0 : AC :=
  .seq (.region 0 [.mk4 0 (some 27) (.ixaS 4 (.t 23) (.t 25)) none,
    .mk4 1 (some 28) (.loadN 4 (.t 27)) none,
    .mk4 2 (some 7) (.alloc 4 [.i 0, .i 0, .i 0, .nils]) none,
    .mk4 3 none (.store 4 (.t 7) (.t 28)) none] [0, 1, 5, 7, 23, 24, 25]) (.region 0 [.mk4 0 (some 29) (.mv (.t 1)) none,
    .mk4 1 (some 30) (.loadN 4 (.t 7)) none,
    .mk4 2 (some 31) (.call 70 [(.t 29), (.t 30)]) none] [0, 1, 5, 23, 24, 25])
def c52_1 : AC :=
  .loop [0, 1, 5, 23, 24, 25] (.seq (.region 0 [.mk4 0 (some 26) (.bin .lss (.t 25) (.t 24)) none] [0, 1, 5, 23, 24, 25, 26]) (.seq (.cond (.t 26) (.skip) (.exit 0)) (.seq (.block 1 (c52_0)) (.region 0 [.mk4 0 (some 32) (.bin .add (.t 25) (.c (.i 1))) none,
    .mk4 1 (some 25) (.mv (.t 32)) none] [0, 1, 5, 23, 24, 25]))))
def c52_2 : AC :=
  .seq (.region 0 [.mk4 0 (some 33) (.mv (.t 0)) none,
    .mk4 1 (some 34) (.faddr 2 (.t 5)) none,
    .mk4 2 (some 35) (.load1 (.t 34)) none,
    .mk4 3 (some 36) (.nilck (.t 33)) none,
    .mk4 4 (some 37) (.faddr 1 (.t 36)) none,
    .mk4 5 none (.store 1 (.t 37) (.t 35)) none] [5]) (.seq (.region 0 [.mk4 0 (some 38) (.faddr 1 (.t 5)) none,
    .mk4 1 (some 39) (.load1 (.t 38)) none,
    .mk4 2 (some 4) (.mv (.t 39)) none] [4]) (.ret))
def c52_3 : AC :=
  .seq (.region 0 [.mk4 0 (some 14) (.mv (.t 0)) none,
    .mk4 1 (some 15) (.mv (.t 0)) none,
    .mk4 2 (some 16) (.nilck (.t 15)) none,
    .mk4 3 (some 17) (.faddr 0 (.t 16)) none,
    .mk4 4 (some 18) (.load1 (.t 17)) none,
    .mk4 5 (some 19) (.slice 4 (.t 18) (some (.c (.i 1))) none none) none,
    .mk4 6 (some 20) (.nilck (.t 14)) none,
    .mk4 7 (some 21) (.faddr 0 (.t 20)) none,
    .mk4 8 none (.store 1 (.t 21) (.t 19)) none] [0, 1, 5]) (.seq (.seq (.region 0 [.mk4 0 (some 22) (.faddr 3 (.t 5)) none,
    .mk4 1 (some 23) (.load1 (.t 22)) none,
    .mk4 2 (some 24) (.lenL (.t 23)) none,
    .mk4 3 (some 25) (.mv (.c (.i 0))) none] [0, 1, 5, 23, 24, 25]) (.block 0 (c52_1))) (c52_2))
def c52_4 : AC :=
  .seq (.region 0 [.mk4 0 (some 8) (.mv (.t 0)) none,
    .mk4 1 (some 9) (.nilck (.t 8)) none,
    .mk4 2 (some 10) (.faddr 0 (.t 9)) none,
    .mk4 3 (some 11) (.load1 (.t 10)) none,
    .mk4 4 (some 12) (.ixaS 4 (.t 11) (.c (.i 0))) none,
    .mk4 5 (some 13) (.loadN 4 (.t 12)) none,
    .mk4 6 (some 5) (.alloc 4 [.int .u64 0, .bool false, .nils, .nils]) none,
    .mk4 7 none (.store 4 (.t 5) (.t 13)) none] [0, 1, 5]) (c52_3)
def c52 : AFn := ⟨2, 40, [.tmp 4],
  (.seq (.region 0 [.mk4 0 (some 4) (.mv (.c (.bool false))) none] [0, 1]) (c52_4))⟩
def c53_0 : AC :=
  .region 0 [.mk4 0 (some 7) (.mv (.t 0)) none,
    .mk4 1 (some 8) (.nilck (.t 7)) none,
    .mk4 2 (some 9) (.faddr 290 (.t 8)) none,
    .mk4 3 (some 10) (.load1 (.t 9)) none,
    .mk4 4 (some 11) (.mv (.t 1)) none,
    .mk4 5 (some 12) (.mv (.t 0)) none,
    .mk4 6 (some 13) (.nilck (.t 12)) none,
    .mk4 7 (some 14) (.faddr 290 (.t 13)) none,
    .mk4 8 (some 15) (.load1 (.t 14)) none,
    .mk4 9 (some 16) (.bin .sub (.c (.int .u64 18446744073709551615)) (.t 15)) none,
    .mk4 10 (some 17) (.minI [(.t 11), (.t 16)]) none,
    .mk4 11 (some 18) (.bin .add (.t 10) (.t 17)) none,
    .mk4 12 (some 19) (.nilck (.t 7)) none,
    .mk4 13 (some 20) (.faddr 290 (.t 19)) none,
    .mk4 14 none (.store 1 (.t 20) (.t 18)) none] []
def c53 : AFn := ⟨2, 21, [],
  (.seq (.region 0 [.mk4 0 (some 4) (.mv (.t 0)) none,
    .mk4 1 (some 5) (.call 35 [(.t 4)]) none,
    .mk4 2 (some 6) (.un .not (.t 5)) none] [0, 1, 6]) (.cond (.t 6) (c53_0) (.skip)))⟩
def c54_0 : AC :=
  .seq (.seq (.region 0 [.mk4 0 (some 22) (.mv (.t 4)) none,
    .mk4 1 (some 23) (.bin .eql (.t 22) (.c (.i 0))) none] [0, 1, 3, 4, 8, 9, 23]) (.cond (.t 23) (.exit 1) (.skip))) (.seq (.region 0 [.mk4 0 (some 24) (.mv (.t 0)) none,
    .mk4 1 (some 25) (.mv (.t 3)) none,
    .mk4 2 (some 26) (.mv (.t 4)) none,
    .mk4 3 (some 27) (.callv (.t 24) [(.t 25), (.t 26)]) none,
    .mk4 4 (some 28) (.un .not (.t 27)) none] [0, 1, 8, 9, 28]) (.cond (.t 28) (.ret) (.skip)))
def c54_1 : AC :=
  .seq (.seq (.region 0 [.mk4 0 (some 13) (.mv (.t 3)) none,
    .mk4 1 (some 14) (.bin .add (.t 13) (.c (.i 1))) none,
    .mk4 2 (some 15) (.load1 (.t 1)) none,
    .mk4 3 (some 16) (.nilck (.t 15)) none,
    .mk4 4 (some 17) (.faddr 98 (.t 16)) none,
    .mk4 5 (some 18) (.load1 (.t 17)) none,
    .mk4 6 (some 19) (.bin .eql (.t 14) (.t 18)) none] [0, 1, 3, 4, 8, 9, 19]) (.cond (.t 19) (.region 0 [.mk4 0 (some 20) (.mv (.t 4)) none,
    .mk4 1 (some 21) (.bin .or (.t 20) (.c (.i 2))) none,
    .mk4 2 (some 4) (.mv (.t 21)) none] [0, 1, 3, 4, 8, 9]) (.skip))) (c54_0)
def c54_2 : AC :=
  .seq (.block 1 (.seq (.region 0 [.mk4 0 (some 11) (.mv (.t 9)) none,
    .mk4 1 (some 12) (.ixA 96 1 none (.t 8) (.t 9)) none,
    .mk4 2 (some 3) (.mv (.t 11)) none,
    .mk4 3 (some 4) (.mv (.t 12)) none] [0, 1, 3, 4, 8, 9]) (c54_1))) (.region 0 [.mk4 0 (some 29) (.bin .add (.t 9) (.c (.i 1))) none,
    .mk4 1 (some 9) (.mv (.t 29)) none] [0, 1, 8, 9])
def c54_3 : AC :=
  .seq (.region 0 [.mk4 0 (some 5) (.load1 (.t 1)) none,
    .mk4 1 (some 6) (.nilck (.t 5)) none,
    .mk4 2 (some 7) (.faddr 2 (.t 6)) none,
    .mk4 3 (some 8) (.loadN 96 (.t 7)) none,
    .mk4 4 (some 9) (.mv (.c (.i 0))) none] [0, 1, 8, 9]) (.block 0 (.loop [0, 1, 8, 9] (.seq (.region 0 [.mk4 0 (some 10) (.bin .lss (.t 9) (.c (.i 96))) none] [0, 1, 8, 9, 10]) (.seq (.cond (.t 10) (.skip) (.exit 0)) (c54_2)))))
def c54 : AFn := ⟨2, 30, [],
  (.scope (.seq (.label 0) (c54_3)))⟩
def c55_0 : AC :=
  .region 0 [.mk4 0 (some 20) (.mv (.t 0)) none,
    .mk4 1 (some 21) (.faddr 0 (.t 6)) none,
    .mk4 2 (some 22) (.load1 (.t 21)) none,
    .mk4 3 (some 23) (.nilck (.t 20)) none,
    .mk4 4 (some 24) (.faddr 32 (.t 23)) none,
    .mk4 5 (some 25) (.ixaA 32 1 (.t 24) (.t 22)) none,
    .mk4 6 none (.store 1 (.t 25) (.c (.i 0))) none] [0, 3, 14, 15, 16]
def c55_1 : AC :=
  .seq (.block 3 (.seq (.region 0 [.mk4 0 (some 18) (.ixaS 2 (.t 14) (.t 16)) none,
    .mk4 1 (some 19) (.loadN 2 (.t 18)) none,
    .mk4 2 (some 6) (.alloc 2 [.i 0, .i 0]) none,
    .mk4 3 none (.store 2 (.t 6) (.t 19)) none] [0, 3, 6, 14, 15, 16]) (c55_0))) (.region 0 [.mk4 0 (some 26) (.bin .add (.t 16) (.c (.i 1))) none,
    .mk4 1 (some 16) (.mv (.t 26)) none] [0, 3, 14, 15, 16])
def c55_2 : AC :=
  .rangeFunc (.t 8) [9] [3] (.region 0 [.mk4 0 (some 4) (.alloc 2 [.i 0, .i 0]) none,
    .mk4 1 none (.store 2 (.t 4) (.t 9)) none] [3, 4]) (.block 1 (.region 0 [.mk4 0 (some 10) (.load1 (.t 3)) none,
    .mk4 1 (some 11) (.loadN 2 (.t 4)) none,
    .mk4 2 (some 12) (.bslice 2 1 [.i 0, .i 0] [(0, (.t 11))]) none,
    .mk4 3 (some 13) (.append 2 16 (.t 10) (.t 12)) none,
    .mk4 4 none (.store 1 (.t 3) (.t 13)) none] []))
def c55_3 : AC :=
  .seq (.seq (.region 0 [.mk4 0 (some 14) (.load1 (.t 3)) none,
    .mk4 1 (some 15) (.lenL (.t 14)) none,
    .mk4 2 (some 16) (.mv (.c (.i 0))) none] [0, 3, 14, 15, 16]) (.block 2 (.loop [0, 3, 14, 15, 16] (.seq (.region 0 [.mk4 0 (some 17) (.bin .lss (.t 16) (.t 15)) none] [0, 3, 14, 15, 16, 17]) (.seq (.cond (.t 17) (.skip) (.exit 2)) (c55_1)))))) (.seq (.region 0 [.mk4 0 (some 27) (.load1 (.t 3)) none,
    .mk4 1 (some 2) (.mv (.t 27)) none] [2]) (.ret))
def c55 : AFn := ⟨1, 28, [.tmp 2],
  (.seq (.region 0 [.mk4 0 (some 2) (.mv (.c (.nils))) none] [0]) (.seq (.region 0 [.mk4 0 (some 3) (.alloc 1 [.nils]) none] [0, 3]) (.seq (.seq (.region 0 [.mk4 0 (some 7) (.mv (.t 0)) none,
    .mk4 1 (some 8) (.call 71 [(.t 7)]) none] [0, 3, 8]) (.block 0 (c55_2))) (c55_3))))⟩
def c56_0 : AC :=
  .rangeFunc (.t 6) [7] [3] (.region 0 [.mk4 0 (some 4) (.alloc 2 [.i 0, .i 0]) none,
    .mk4 1 none (.store 2 (.t 4) (.t 7)) none] [3, 4]) (.block 1 (.region 0 [.mk4 0 (some 8) (.load1 (.t 3)) none,
    .mk4 1 (some 9) (.faddr 1 (.t 4)) none,
    .mk4 2 (some 10) (.load1 (.t 9)) none,
    .mk4 3 (some 11) (.bin .add (.t 8) (.t 10)) none,
    .mk4 4 none (.store 1 (.t 3) (.t 11)) none] []))
def c56_1 : AC :=
  .seq (.region 0 [.mk4 0 (some 3) (.alloc 1 [.i 0]) none,
    .mk4 1 none (.store 1 (.t 3) (.c (.i 0))) none] [0, 3]) (.seq (.seq (.region 0 [.mk4 0 (some 5) (.mv (.t 0)) none,
    .mk4 1 (some 6) (.call 71 [(.t 5)]) none] [3, 6]) (.block 0 (c56_0))) (.seq (.region 0 [.mk4 0 (some 12) (.load1 (.t 3)) none,
    .mk4 1 (some 2) (.mv (.t 12)) none] [2]) (.ret)))
def c56 : AFn := ⟨1, 13, [.tmp 2],
  (.seq (.region 0 [.mk4 0 (some 2) (.mv (.c (.i 0))) none] [0]) (c56_1))⟩
def c57_0 : AC :=
  .seq (.region 0 [.mk4 0 (some 2) (.mv (.c (.i 0))) none] [0]) (.seq (.region 0 [.mk4 0 (some 3) (.mv (.t 0)) none,
    .mk4 1 (some 4) (.mv (.t 0)) none,
    .mk4 2 (some 5) (.call 58 [(.t 4)]) none,
    .mk4 3 (some 6) (.call 72 [(.t 3), (.t 5)]) none,
    .mk4 4 (some 7) (.lenL (.t 6)) none,
    .mk4 5 (some 2) (.mv (.t 7)) none] [2]) (.ret))
def c57 : AFn := ⟨1, 8, [.tmp 2],
  (c57_0)⟩
def c58_0 : AC :=
  .seq (.seq (.region 0 [.mk4 0 (some 3) (.mv (.t 0)) none,
    .mk4 1 (some 4) (.call 73 [(.t 3)]) none] [0, 4]) (.cond (.t 4) (.seq (.region 0 [.mk4 0 (some 2) (.mv (.c (.i 0))) none] [2]) (.ret)) (.skip))) (.seq (.region 0 [.mk4 0 (some 5) (.mv (.t 0)) none,
    .mk4 1 (some 6) (.nilck (.t 5)) none,
    .mk4 2 (some 7) (.faddr 2 (.t 6)) none,
    .mk4 3 (some 8) (.load1 (.t 7)) none,
    .mk4 4 (some 2) (.mv (.t 8)) none] [2]) (.ret))
def c58 : AFn := ⟨1, 9, [.tmp 2],
  (.seq (.region 0 [.mk4 0 (some 2) (.mv (.c (.i 0))) none] [0]) (c58_0))⟩
def c59_0 : AC :=
  .cond (.t 5) (.seq (.region 0 [.mk4 0 (some 4) (.mv (.c (.i 1))) none] [4]) (.ret)) (.seq (.region 0 [.mk4 0 (some 9) (.mv (.t 1)) none,
    .mk4 1 (some 10) (.call 74 [(.t 9)]) none,
    .mk4 2 (some 11) (.un .not (.t 10)) none,
    .mk4 3 (some 8) (.mv (.t 11)) none] [8]) (.cond (.t 8) (.seq (.region 0 [.mk4 0 (some 4) (.mv (.c (.i 100))) none] [4]) (.ret)) (.skip)))
def c59_1 : AC :=
  .seq (.region 0 [.mk4 0 (some 4) (.mv (.c (.i 0))) none] [0, 1]) (.seq (.block 0 (.seq (.region 0 [.mk4 0 (some 6) (.mv (.t 0)) none,
    .mk4 1 (some 7) (.eq .ptr false (.t 6) (.c (.ptr none))) none,
    .mk4 2 (some 5) (.mv (.t 7)) none] [1, 5]) (c59_0))) (.seq (.region 0 [.mk4 0 (some 4) (.mv (.c (.i 0))) none] [4]) (.ret)))
def c59 : AFn := ⟨2, 12, [.tmp 4],
  (c59_1)⟩
def c60 : AFn := ⟨1, 4, [.tmp 2],
  (.seq (.region 0 [.mk4 0 (some 1) (.box 1 (.t 0)) none,
    .mk4 1 (some 2) (.mv (.c (.nilfn))) none] [1]) (.seq (.region 0 [.mk4 0 (some 3) (.mkClo 75 [(.t 1)]) none,
    .mk4 1 (some 2) (.mv (.t 3)) none] [2]) (.ret)))⟩
def c61_0 : AC :=
  .seq (.region 0 [.mk4 0 (some 5) (.mv (.t 0)) none,
    .mk4 1 (some 6) (.nilck (.t 5)) none,
    .mk4 2 (some 7) (.faddr 0 (.t 6)) none,
    .mk4 3 (some 8) (.load1 (.t 7)) none,
    .mk4 4 (some 9) (.lenL (.t 8)) none,
    .mk4 5 (some 10) (.mv (.t 0)) none,
    .mk4 6 (some 11) (.nilck (.t 10)) none,
    .mk4 7 (some 12) (.faddr 2 (.t 11)) none,
    .mk4 8 (some 13) (.load1 (.t 12)) none,
    .mk4 9 (some 14) (.bin .sub (.t 9) (.t 13)) none,
    .mk4 10 (some 2) (.mv (.t 14)) none] [2]) (.ret)
def c61 : AFn := ⟨1, 15, [.tmp 2],
  (.seq (.region 0 [.mk4 0 (some 2) (.mv (.c (.i 0))) none] [0]) (.seq (.seq (.region 0 [.mk4 0 (some 3) (.mv (.t 0)) none,
    .mk4 1 (some 4) (.call 73 [(.t 3)]) none] [0, 4]) (.cond (.t 4) (.seq (.region 0 [.mk4 0 (some 2) (.mv (.c (.i 0))) none] [2]) (.ret)) (.skip))) (c61_0)))⟩
def c62_0 : AC :=
  .seq (.region 0 [.mk4 0 (some 3) (.box 1 (.t 0)) none,
    .mk4 1 (some 4) (.box 1 (.t 1)) none,
    .mk4 2 (some 5) (.box 1 (.t 2)) none,
    .mk4 3 (some 6) (.mv (.c (.nilfn))) none] [3, 4, 5]) (.seq (.region 0 [.mk4 0 (some 7) (.mkClo 76 [(.t 5), (.t 4), (.t 3)]) none,
    .mk4 1 (some 6) (.mv (.t 7)) none] [6]) (.ret))
def c62 : AFn := ⟨3, 8, [.tmp 6],
  (c62_0)⟩
def c63_0 : AC :=
  .seq (.region 0 [.mk4 0 (some 5) (.mv (.t 0)) none,
    .mk4 1 (some 6) (.mv (.t 1)) none,
    .mk4 2 (some 7) (.bin .sub (.c (.i 1)) (.t 6)) none,
    .mk4 3 (some 8) (.nilck (.t 5)) none,
    .mk4 4 (some 9) (.faddr 0 (.t 8)) none,
    .mk4 5 (some 10) (.ixaA 2 7 (.t 9) (.t 7)) none,
    .mk4 6 (some 11) (.faddr 0 (.t 10)) none,
    .mk4 7 (some 12) (.load1 (.t 11)) none,
    .mk4 8 (some 13) (.bin .eql (.t 12) (.c (.i 3))) none,
    .mk4 9 (some 14) (.mv (.t 13)) none,
    .mk4 10 (some 15) (.mv (.t 0)) (some (14, false)),
    .mk4 11 (some 16) (.mv (.t 1)) (some (14, false)),
    .mk4 12 (some 17) (.bin .sub (.c (.i 1)) (.t 16)) (some (14, false)),
    .mk4 13 (some 18) (.nilck (.t 15)) (some (14, false)),
    .mk4 14 (some 19) (.faddr 0 (.t 18)) (some (14, false)),
    .mk4 15 (some 20) (.ixaA 2 7 (.t 19) (.t 17)) (some (14, false)),
    .mk4 16 (some 21) (.faddr 4 (.t 20)) (some (14, false)),
    .mk4 17 (some 22) (.load1 (.t 21)) (some (14, false)),
    .mk4 18 (some 23) (.pick (.t 14) (.c (.bool true)) (.t 22)) none,
    .mk4 19 (some 4) (.mv (.t 23)) none] [4]) (.ret)
def c63 : AFn := ⟨2, 24, [.tmp 4],
  (.seq (.region 0 [.mk4 0 (some 4) (.mv (.c (.bool false))) none] [0, 1]) (c63_0))⟩
def c64_0 : AC :=
  .seq (.region 0 [.mk4 0 (some 4) (.mv (.c (.bool false))) none] [0, 1]) (.seq (.region 0 [.mk4 0 (some 5) (.mv (.t 0)) none,
    .mk4 1 (some 6) (.mv (.t 1)) none,
    .mk4 2 (some 7) (.call 77 [(.t 5), (.t 6)]) none,
    .mk4 3 (some 8) (.bin .geq (.t 7) (.c (.i 0))) none,
    .mk4 4 (some 4) (.mv (.t 8)) none] [4]) (.ret))
def c64 : AFn := ⟨2, 9, [.tmp 4],
  (c64_0)⟩
def c65_0 : AC :=
  .seq (.region 0 [.mk4 0 (some 1) (.box 4 (.t 0)) none,
    .mk4 1 (some 2) (.mv (.c (.bool false))) none] [1]) (.seq (.region 0 [.mk4 0 (some 3) (.loadN 4 (.t 1)) none,
    .mk4 1 (some 4) (.call 66 [(.t 3)]) none,
    .mk4 2 (some 5) (.bin .neq (.t 4) (.c (.i 0))) none,
    .mk4 3 (some 2) (.mv (.t 5)) none] [2]) (.ret))
def c65 : AFn := ⟨1, 6, [.tmp 2],
  (c65_0)⟩
def c66_0 : AC :=
  .seq (.seq (.region 0 [.mk4 0 (some 4) (.faddr 3 (.t 1)) none,
    .mk4 1 (some 5) (.load1 (.t 4)) none,
    .mk4 2 (some 6) (.lenL (.t 5)) none,
    .mk4 3 (some 7) (.bin .gtr (.t 6) (.c (.i 50))) none,
    .mk4 4 (some 8) (.mv (.t 7)) none,
    .mk4 5 (some 9) (.faddr 2 (.t 1)) (some (8, false)),
    .mk4 6 (some 10) (.load1 (.t 9)) (some (8, false)),
    .mk4 7 (some 11) (.lenL (.t 10)) (some (8, false)),
    .mk4 8 (some 12) (.bin .gtr (.t 11) (.c (.i 50))) (some (8, false)),
    .mk4 9 (some 13) (.pick (.t 8) (.c (.bool true)) (.t 12)) none,
    .mk4 10 (some 14) (.mv (.t 13)) none,
    .mk4 11 (some 15) (.faddr 2 (.t 1)) (some (14, false)),
    .mk4 12 (some 16) (.load1 (.t 15)) (some (14, false)),
    .mk4 13 (some 17) (.mv (.t 3)) (some (14, false)),
    .mk4 14 (some 18) (.call 79 [(.t 16), (.t 17)]) (some (14, false)),
    .mk4 15 (some 19) (.pick (.t 14) (.c (.bool true)) (.t 18)) none,
    .mk4 16 (some 20) (.mv (.t 19)) none,
    .mk4 17 (some 21) (.faddr 3 (.t 1)) (some (20, false)),
    .mk4 18 (some 22) (.load1 (.t 21)) (some (20, false)),
    .mk4 19 (some 23) (.call 80 [(.t 22), (.c (.clo 81 []))]) (some (20, false)),
    .mk4 20 (some 24) (.pick (.t 20) (.c (.bool true)) (.t 23)) none] [24]) (.cond (.t 24) (.seq (.region 0 [.mk4 0 (some 2) (.mv (.c (.i 120))) none] [2]) (.ret)) (.skip))) (.seq (.region 0 [.mk4 0 (some 2) (.mv (.c (.i 0))) none] [2]) (.ret))
def c66 : AFn := ⟨1, 25, [.tmp 2],
  (.seq (.region 0 [.mk4 0 (some 1) (.box 4 (.t 0)) none,
    .mk4 1 (some 2) (.mv (.c (.i 0))) none] [1]) (.seq (.region 0 [.mk4 0 (some 3) (.mv (.c (.clo 78 []))) none] [1, 3]) (c66_0)))⟩
def c67_0 : AC :=
  .region 0 [.mk4 0 (some 18) (.faddr 3 (.t 1)) none,
    .mk4 1 (some 19) (.load1 (.t 18)) none,
    .mk4 2 (some 20) (.mv (.t 3)) none,
    .mk4 3 (some 21) (.faddr 3 (.t 1)) none,
    .mk4 4 (some 22) (.load1 (.t 21)) none,
    .mk4 5 (some 23) (.mv (.t 3)) none,
    .mk4 6 (some 24) (.ixaS 4 (.t 22) (.t 23)) none,
    .mk4 7 (some 25) (.faddr 3 (.t 24)) none,
    .mk4 8 (some 26) (.load1 (.t 25)) none,
    ⟨9, (some 27), .call 85 [(.t 26)], none, none, [(19, .load1 (.t 18), none)]⟩,
    .mk4 10 (some 28) (.ixaS 4 (.t 19) (.t 20)) none,
    .mk4 11 (some 29) (.faddr 3 (.t 28)) none,
    .mk4 12 none (.store 1 (.t 29) (.t 27)) none] [1, 2, 14, 15]
def c67_1 : AC :=
  .seq (.cond (.t 16) (.skip) (.exit 0)) (.seq (.block 1 (.seq (.region 0 [.mk4 0 (some 17) (.mv (.t 15)) none,
    .mk4 1 (some 3) (.mv (.t 17)) none] [1, 2, 3, 14, 15]) (c67_0))) (.region 0 [.mk4 0 (some 30) (.bin .add (.t 15) (.c (.i 1))) none,
    .mk4 1 (some 15) (.mv (.t 30)) none] [1, 2, 14, 15]))
def c67_2 : AC :=
  .seq (.seq (.region 0 [.mk4 0 (some 12) (.faddr 3 (.t 1)) none,
    .mk4 1 (some 13) (.load1 (.t 12)) none,
    .mk4 2 (some 14) (.lenL (.t 13)) none,
    .mk4 3 (some 15) (.mv (.c (.i 0))) none] [1, 2, 14, 15]) (.block 0 (.loop [1, 2, 14, 15] (.seq (.region 0 [.mk4 0 (some 16) (.bin .lss (.t 15) (.t 14)) none] [1, 2, 14, 15, 16]) (c67_1))))) (.seq (.region 0 [.mk4 0 (some 31) (.loadN 4 (.t 1)) none,
    .mk4 1 none (.store 4 (.t 2) (.t 31)) none] [2]) (.ret))
def c67_3 : AC :=
  .seq (.region 0 [.mk4 0 (some 4) (.faddr 2 (.t 1)) none,
    .mk4 1 (some 5) (.load1 (.t 4)) none,
    .mk4 3 (some 7) (.faddr 3 (.t 1)) none,
    .mk4 4 (some 8) (.load1 (.t 7)) none,
    ⟨2, (some 6), .call 83 [(.t 5)], none, none, [(8, .load1 (.t 7), none)]⟩,
    .mk4 5 (some 9) (.call 84 [(.t 8)]) none,
    .mk4 6 (some 10) (.faddr 2 (.t 1)) none,
    .mk4 7 none (.store 1 (.t 10) (.t 6)) none,
    .mk4 8 (some 11) (.faddr 3 (.t 1)) none,
    .mk4 9 none (.store 1 (.t 11) (.t 9)) none] [1, 2]) (c67_2)
def c67 : AFn := ⟨1, 32, [.cellN 2 4],
  (.seq (.region 0 [.mk4 0 (some 1) (.box 4 (.t 0)) none,
    .mk4 1 (some 2) (.alloc 4 [.int .u64 0, .bool false, .nils, .nils]) none] [1, 2]) (c67_3))⟩
def c68_0 : AC :=
  .seq (.region 0 [.mk4 0 (some 3) (.mv (.t 0)) none,
    .mk4 1 (some 4) (.bin .geq (.t 3) (.c (.i 0))) none,
    .mk4 2 (some 5) (.mv (.t 4)) none,
    .mk4 3 (some 6) (.mv (.t 0)) (some (5, true)),
    .mk4 4 (some 7) (.bin .lss (.t 6) (.c (.i 64))) (some (5, true)),
    .mk4 5 (some 8) (.pick (.t 5) (.t 7) (.c (.bool false))) none,
    .mk4 6 (some 2) (.mv (.t 8)) none] [2]) (.ret)
def c68 : AFn := ⟨1, 9, [.tmp 2],
  (.seq (.region 0 [.mk4 0 (some 2) (.mv (.c (.bool false))) none] [0]) (c68_0))⟩
def c69_0 : AC :=
  .seq (.region 0 [.mk4 0 (some 10) (.mv (.t 0)) none,
    .mk4 1 (some 11) (.mv (.t 1)) none,
    .mk4 2 (some 12) (.call 33 [(.t 10), (.t 11)]) none,
    .mk4 3 (some 9) (.mv (.t 12)) none,
    .mk4 4 (some 13) (.extract (.t 9) 0) none,
    .mk4 5 (some 14) (.extract (.t 9) 1) none,
    .mk4 6 (some 15) (.extract (.t 9) 2) none,
    .mk4 7 (some 6) (.alloc 3 [.bool false, .i 0, .i 0]) none,
    .mk4 8 none (.store 3 (.t 6) (.t 13)) none,
    .mk4 9 (some 7) (.mv (.t 14)) none,
    .mk4 10 (some 8) (.mv (.t 15)) none] [6, 8]) (.seq (.region 0 [.mk4 0 (some 16) (.faddr 1 (.t 6)) none,
    .mk4 1 (some 17) (.load1 (.t 16)) none,
    .mk4 2 (some 18) (.mv (.t 8)) none,
    .mk4 3 (some 4) (.mv (.t 17)) none,
    .mk4 4 (some 5) (.mv (.t 18)) none] [4, 5]) (.ret))
def c69 : AFn := ⟨2, 19, [.tmp 4, .tmp 5],
  (.seq (.region 0 [.mk4 0 (some 4) (.mv (.c (.i 0))) none,
    .mk4 1 (some 5) (.mv (.c (.i 0))) none] [0, 1]) (c69_0))⟩
def c70_0 : AC :=
  .seq (.region 0 [.mk4 0 (some 59) (.mv (.t 0)) none,
    .mk4 1 (some 60) (.faddr 1 (.t 3)) none,
    .mk4 2 (some 61) (.load1 (.t 60)) none,
    .mk4 3 (some 62) (.faddr 2 (.t 3)) none,
    .mk4 4 (some 63) (.load1 (.t 62)) none,
    .mk4 5 (some 64) (.call 90 [(.t 59), (.t 61), (.t 63)]) none,
    .mk4 6 (some 65) (.extract (.t 64) 0) none,
    .mk4 7 (some 66) (.extract (.t 64) 1) none,
    .mk4 8 (some 4) (.mv (.t 65)) none,
    .mk4 9 (some 5) (.mv (.t 66)) none] [4, 5]) (.ret)
def c70_1 : AC :=
  .cond (.t 51) (.seq (.region 0 [.mk4 0 (some 53) (.mv (.t 0)) none,
    .mk4 1 (some 54) (.faddr 1 (.t 3)) none,
    .mk4 2 (some 55) (.load1 (.t 54)) none,
    .mk4 3 (some 56) (.call 89 [(.t 53), (.t 55)]) none,
    .mk4 4 (some 4) (.mv (.c (.i 0))) none,
    .mk4 5 (some 5) (.mv (.t 56)) none] [4, 5]) (.ret)) (.seq (.region 0 [.mk4 0 (some 58) (.bin .eql (.t 14) (.c (.i 6))) none,
    .mk4 1 (some 57) (.mv (.t 58)) none] [0, 3, 57]) (.cond (.t 57) (c70_0) (.skip)))
def c70_2 : AC :=
  .cond (.t 45) (.seq (.region 0 [.mk4 0 (some 47) (.mv (.t 0)) none,
    .mk4 1 (some 48) (.faddr 1 (.t 3)) none,
    .mk4 2 (some 49) (.load1 (.t 48)) none,
    .mk4 3 (some 50) (.call 88 [(.t 47), (.t 49)]) none,
    .mk4 4 (some 4) (.mv (.c (.i 0))) none,
    .mk4 5 (some 5) (.mv (.t 50)) none] [4, 5]) (.ret)) (.seq (.region 0 [.mk4 0 (some 52) (.bin .eql (.t 14) (.c (.i 5))) none,
    .mk4 1 (some 51) (.mv (.t 52)) none] [0, 3, 14, 51]) (c70_1))
def c70_3 : AC :=
  .cond (.t 39) (.seq (.region 0 [.mk4 0 (some 41) (.mv (.t 0)) none,
    .mk4 1 (some 42) (.faddr 1 (.t 3)) none,
    .mk4 2 (some 43) (.load1 (.t 42)) none,
    .mk4 3 (some 44) (.call 87 [(.t 41), (.t 43)]) none,
    .mk4 4 (some 4) (.mv (.c (.i 0))) none,
    .mk4 5 (some 5) (.mv (.t 44)) none] [4, 5]) (.ret)) (.seq (.region 0 [.mk4 0 (some 46) (.bin .eql (.t 14) (.c (.i 4))) none,
    .mk4 1 (some 45) (.mv (.t 46)) none] [0, 3, 14, 45]) (c70_2))
def c70_4 : AC :=
  .seq (.region 0 [.mk4 0 (some 28) (.mv (.t 0)) none,
    .mk4 1 (some 29) (.faddr 1 (.t 3)) none,
    .mk4 2 (some 30) (.load1 (.t 29)) none,
    .mk4 3 (some 31) (.faddr 2 (.t 3)) none,
    .mk4 4 (some 32) (.load1 (.t 31)) none,
    .mk4 5 (some 33) (.call 86 [(.t 28), (.t 30), (.t 32)]) none,
    .mk4 6 (some 27) (.mv (.t 33)) none,
    .mk4 7 (some 34) (.extract (.t 27) 0) none,
    .mk4 8 (some 35) (.extract (.t 27) 1) none,
    .mk4 9 (some 6) (.mv (.t 34)) none,
    .mk4 10 (some 7) (.mv (.t 35)) none] [6, 7]) (.seq (.region 0 [.mk4 0 (some 36) (.mv (.t 6)) none,
    .mk4 1 (some 37) (.lenL (.t 36)) none,
    .mk4 2 (some 38) (.mv (.t 7)) none,
    .mk4 3 (some 4) (.mv (.t 37)) none,
    .mk4 4 (some 5) (.mv (.t 38)) none] [4, 5]) (.ret))
def c70_5 : AC :=
  .seq (.region 0 [.mk4 0 (some 17) (.mv (.t 0)) none,
    .mk4 1 (some 18) (.faddr 1 (.t 3)) none,
    .mk4 2 (some 19) (.load1 (.t 18)) none,
    .mk4 3 (some 20) (.faddr 3 (.t 3)) none,
    .mk4 4 (some 21) (.load1 (.t 20)) none,
    .mk4 5 (some 22) (.call 7 [(.t 17), (.t 19), (.t 21)]) none,
    .mk4 6 (some 23) (.extract (.t 22) 0) none,
    .mk4 7 (some 24) (.extract (.t 22) 1) none,
    .mk4 8 (some 4) (.mv (.t 23)) none,
    .mk4 9 (some 5) (.mv (.t 24)) none] [4, 5]) (.ret)
def c70_6 : AC :=
  .cond (.t 15) (c70_5) (.seq (.region 0 [.mk4 0 (some 26) (.bin .eql (.t 14) (.c (.i 2))) none,
    .mk4 1 (some 25) (.mv (.t 26)) none] [0, 3, 14, 25]) (.cond (.t 25) (c70_4) (.seq (.region 0 [.mk4 0 (some 40) (.bin .eql (.t 14) (.c (.i 3))) none,
    .mk4 1 (some 39) (.mv (.t 40)) none] [0, 3, 14, 39]) (c70_3))))
def c70_7 : AC :=
  .seq (.seq (.region 0 [.mk4 0 (some 13) (.faddr 0 (.t 3)) none,
    .mk4 1 (some 14) (.load1 (.t 13)) none] [0, 3, 14]) (.block 0 (.seq (.region 0 [.mk4 0 (some 16) (.bin .eql (.t 14) (.c (.i 1))) none,
    .mk4 1 (some 15) (.mv (.t 16)) none] [0, 3, 14, 15]) (c70_6)))) (.seq (.region 0 [.mk4 0 (some 67) (.mv (.t 0)) none,
    .mk4 1 (some 68) (.faddr 2 (.t 3)) none,
    .mk4 2 (some 69) (.load1 (.t 68)) none,
    .mk4 3 (some 70) (.call 16 [(.t 67), (.t 69)]) none,
    .mk4 4 (some 4) (.mv (.c (.i 0))) none,
    .mk4 5 (some 5) (.mv (.t 70)) none] [4, 5]) (.ret))
def c70_8 : AC :=
  .seq (.seq (.region 0 [.mk4 0 (some 10) (.loadN 4 (.t 3)) none,
    .mk4 1 (some 11) (.call 82 [(.t 10)]) none,
    .mk4 2 (some 12) (.un .not (.t 11)) none] [0, 3, 12]) (.cond (.t 12) (.seq (.region 0 [.mk4 0 (some 4) (.mv (.c (.i 0))) none,
    .mk4 1 (some 5) (.mv (.c (.i 120))) none] [4, 5]) (.ret)) (.skip))) (c70_7)
def c70_9 : AC :=
  .seq (.region 0 [.mk4 0 (some 3) (.box 4 (.t 1)) none,
    .mk4 1 (some 4) (.mv (.c (.i 0))) none,
    .mk4 2 (some 5) (.mv (.c (.i 0))) none] [0, 3]) (.seq (.seq (.region 0 [.mk4 0 (some 8) (.mv (.t 0)) none,
    .mk4 1 (some 9) (.call 51 [(.t 8)]) none] [0, 3, 9]) (.cond (.t 9) (.seq (.region 0 [.mk4 0 (some 4) (.mv (.c (.i 0))) none,
    .mk4 1 (some 5) (.mv (.c (.i 1))) none] [4, 5]) (.ret)) (.skip))) (c70_8))
def c70 : AFn := ⟨2, 71, [.tmp 4, .tmp 5],
  (c70_9)⟩
def c71 : AFn := ⟨1, 4, [.tmp 2],
  (.seq (.region 0 [.mk4 0 (some 1) (.box 1 (.t 0)) none,
    .mk4 1 (some 2) (.mv (.c (.nilfn))) none] [1]) (.seq (.region 0 [.mk4 0 (some 3) (.mkClo 91 [(.t 1)]) none,
    .mk4 1 (some 2) (.mv (.t 3)) none] [2]) (.ret)))⟩
def c72_0 : AC :=
  .region 0 [.mk4 0 (some 37) (.mv (.t 0)) none,
    .mk4 1 (some 38) (.nilck (.t 37)) none,
    .mk4 2 (some 39) (.faddr 4 (.t 38)) none,
    .mk4 3 (some 40) (.load1 (.t 39)) none,
    .mk4 4 (some 41) (.mv (.t 5)) none,
    .mk4 5 (some 42) (.lenL (.t 41)) none,
    .mk4 6 (some 43) (.convInt .u64 (.t 42)) none,
    .mk4 7 (some 44) (.bin .add (.t 40) (.t 43)) none,
    .mk4 8 (some 45) (.nilck (.t 37)) none,
    .mk4 9 (some 46) (.faddr 4 (.t 45)) none,
    .mk4 10 none (.store 1 (.t 46) (.t 44)) none] [5]
def c72_1 : AC :=
  .seq (.region 0 [.mk4 0 (some 28) (.mv (.t 0)) none,
    .mk4 1 (some 29) (.nilck (.t 28)) none,
    .mk4 2 (some 30) (.faddr 2 (.t 29)) none,
    .mk4 3 (some 31) (.load1 (.t 30)) none,
    .mk4 4 (some 32) (.mv (.t 5)) none,
    .mk4 5 (some 33) (.lenL (.t 32)) none,
    .mk4 6 (some 34) (.bin .sub (.t 31) (.t 33)) none,
    .mk4 7 (some 35) (.nilck (.t 28)) none,
    .mk4 8 (some 36) (.faddr 2 (.t 35)) none,
    .mk4 9 none (.store 1 (.t 36) (.t 34)) none] [0, 5]) (c72_0)
def c72_2 : AC :=
  .seq (.region 0 [.mk4 0 (some 12) (.mv (.t 0)) none,
    .mk4 1 (some 13) (.mv (.t 0)) none,
    .mk4 2 (some 14) (.nilck (.t 13)) none,
    .mk4 3 (some 15) (.faddr 1 (.t 14)) none,
    .mk4 4 (some 16) (.load1 (.t 15)) none,
    .mk4 5 (some 17) (.mv (.t 5)) none,
    .mk4 6 (some 18) (.lenL (.t 17)) none,
    .mk4 7 (some 19) (.bin .add (.t 16) (.t 18)) none,
    .mk4 8 (some 20) (.mv (.t 0)) none,
    .mk4 9 (some 21) (.nilck (.t 20)) none,
    .mk4 10 (some 22) (.faddr 0 (.t 21)) none,
    .mk4 11 (some 23) (.load1 (.t 22)) none,
    .mk4 12 (some 24) (.lenL (.t 23)) none,
    .mk4 13 (some 25) (.bin .rem (.t 19) (.t 24)) none,
    .mk4 14 (some 26) (.nilck (.t 12)) none,
    .mk4 15 (some 27) (.faddr 1 (.t 26)) none,
    .mk4 16 none (.store 1 (.t 27) (.t 25)) none] [0, 5]) (c72_1)
def c72_3 : AC :=
  .seq (.seq (.region 0 [.mk4 0 (some 9) (.mv (.t 5)) none,
    .mk4 1 (some 10) (.lenL (.t 9)) none,
    .mk4 2 (some 11) (.bin .gtr (.t 10) (.c (.i 0))) none] [0, 5, 11]) (.cond (.t 11) (c72_2) (.skip))) (.seq (.region 0 [.mk4 0 (some 47) (.mv (.t 5)) none,
    .mk4 1 (some 4) (.mv (.t 47)) none] [4]) (.ret))
def c72 : AFn := ⟨2, 48, [.tmp 4],
  (.seq (.region 0 [.mk4 0 (some 4) (.mv (.c (.nils))) none] [0, 1]) (.seq (.region 0 [.mk4 0 (some 6) (.mv (.t 0)) none,
    .mk4 1 (some 7) (.mv (.t 1)) none,
    .mk4 2 (some 8) (.call 93 [(.t 6), (.t 7)]) none,
    .mk4 3 (some 5) (.mv (.t 8)) none] [0, 5]) (c72_3)))⟩
def c73_0 : AC :=
  .seq (.region 0 [.mk4 0 (some 3) (.mv (.t 0)) none,
    .mk4 1 (some 4) (.eq .ptr false (.t 3) (.c (.ptr none))) none,
    .mk4 2 (some 5) (.mv (.t 4)) none,
    .mk4 3 (some 6) (.mv (.t 0)) (some (5, false)),
    .mk4 4 (some 7) (.nilck (.t 6)) (some (5, false)),
    .mk4 5 (some 8) (.faddr 5 (.t 7)) (some (5, false)),
    .mk4 6 (some 9) (.load1 (.t 8)) (some (5, false)),
    .mk4 7 (some 10) (.un .not (.t 9)) (some (5, false)),
    .mk4 8 (some 11) (.pick (.t 5) (.c (.bool true)) (.t 10)) none,
    .mk4 9 (some 2) (.mv (.t 11)) none] [2]) (.ret)
def c73 : AFn := ⟨1, 12, [.tmp 2],
  (.seq (.region 0 [.mk4 0 (some 2) (.mv (.c (.bool false))) none] [0]) (c73_0))⟩
def c74_0 : AC :=
  .seq (.region 0 [.mk4 0 (some 3) (.mv (.t 0)) none,
    .mk4 1 (some 4) (.bin .geq (.t 3) (.c (.i 1))) none,
    .mk4 2 (some 5) (.mv (.t 4)) none,
    .mk4 3 (some 6) (.mv (.t 0)) (some (5, true)),
    .mk4 4 (some 7) (.bin .leq (.t 6) (.c (.i 31))) (some (5, true)),
    .mk4 5 (some 8) (.pick (.t 5) (.t 7) (.c (.bool false))) none,
    .mk4 6 (some 2) (.mv (.t 8)) none] [2]) (.ret)
def c74 : AFn := ⟨1, 9, [.tmp 2],
  (.seq (.region 0 [.mk4 0 (some 2) (.mv (.c (.bool false))) none] [0]) (c74_0))⟩
def c75_0 : AC :=
  .seq (.region 0 [.mk4 0 (some 13) (.faddr 0 (.t 4)) none,
    .mk4 1 (some 14) (.load1 (.t 13)) none,
    .mk4 2 (some 15) (.un .not (.t 14)) none,
    .mk4 3 (some 16) (.mv (.t 15)) none,
    .mk4 4 (some 17) (.mv (.t 0)) (some (16, true)),
    .mk4 5 (some 18) (.mv (.t 3)) (some (16, true)),
    .mk4 6 (some 19) (.callv (.t 17) [(.t 18)]) (some (16, true)),
    .mk4 7 (some 20) (.un .not (.t 19)) (some (16, true)),
    .mk4 8 (some 21) (.pick (.t 16) (.t 20) (.c (.bool false))) none] [0, 8, 9, 21]) (.cond (.t 21) (.ret) (.skip))
def c75_1 : AC :=
  .seq (.block 1 (.seq (.region 0 [.mk4 0 (some 11) (.mv (.t 9)) none,
    .mk4 1 (some 12) (.ixA 96 3 (some 3) (.t 8) (.t 9)) none,
    .mk4 2 (some 4) (.alloc 3 [.bool false, .i 0, .i 0]) none,
    .mk4 3 (some 3) (.mv (.t 11)) none,
    .mk4 4 none (.store 3 (.t 4) (.t 12)) none] [0, 3, 4, 8, 9]) (c75_0))) (.region 0 [.mk4 0 (some 22) (.bin .add (.t 9) (.c (.i 1))) none,
    .mk4 1 (some 9) (.mv (.t 22)) none] [0, 8, 9])
def c75_2 : AC :=
  .seq (.region 0 [.mk4 0 (some 5) (.load1 (.t 1)) none,
    .mk4 1 (some 6) (.nilck (.t 5)) none,
    .mk4 2 (some 7) (.faddr 0 (.t 6)) none,
    .mk4 3 (some 8) (.loadN 288 (.t 7)) none,
    .mk4 4 (some 9) (.mv (.c (.i 0))) none] [0, 8, 9]) (.block 0 (.loop [0, 8, 9] (.seq (.region 0 [.mk4 0 (some 10) (.bin .lss (.t 9) (.c (.i 96))) none] [0, 8, 9, 10]) (.seq (.cond (.t 10) (.skip) (.exit 0)) (c75_1)))))
def c75 : AFn := ⟨2, 23, [],
  (c75_2)⟩
def c76_0 : AC :=
  .seq (.region 0 [.mk4 0 (some 35) (.load1 (.t 2)) none,
    .mk4 1 (some 36) (.mv (.t 6)) none,
    .mk4 2 (some 37) (.lenL (.t 36)) none,
    .mk4 3 (some 38) (.bin .add (.t 35) (.t 37)) none,
    .mk4 4 none (.store 1 (.t 2) (.t 38)) none] [0, 1, 2, 3, 6]) (.region 0 [.mk4 0 (some 39) (.load1 (.t 1)) none,
    .mk4 1 (some 40) (.mv (.t 6)) none,
    .mk4 2 (some 41) (.lenL (.t 40)) none,
    .mk4 3 (some 42) (.bin .sub (.t 39) (.t 41)) none,
    .mk4 4 none (.store 1 (.t 1) (.t 42)) none] [0, 1, 2, 3])
def c76_1 : AC :=
  .seq (.region 0 [.mk4 0 (some 16) (.load1 (.t 3)) none,
    .mk4 1 (some 17) (.nilck (.t 16)) none,
    .mk4 2 (some 18) (.faddr 0 (.t 17)) none,
    .mk4 3 (some 19) (.load1 (.t 18)) none,
    .mk4 4 (some 20) (.mv (.t 5)) none,
    .mk4 5 (some 21) (.mv (.t 5)) none,
    .mk4 6 (some 22) (.load1 (.t 1)) none,
    .mk4 7 (some 23) (.bin .add (.t 21) (.t 22)) none,
    .mk4 8 (some 24) (.load1 (.t 3)) none,
    .mk4 9 (some 25) (.nilck (.t 24)) none,
    .mk4 10 (some 26) (.faddr 0 (.t 25)) none,
    .mk4 11 (some 27) (.load1 (.t 26)) none,
    .mk4 12 (some 28) (.lenL (.t 27)) none,
    .mk4 13 (some 29) (.minI [(.t 23), (.t 28)]) none,
    .mk4 14 (some 30) (.slice 1 (.t 19) (some (.t 20)) (some (.t 29)) none) none,
    .mk4 15 (some 6) (.mv (.t 30)) none] [0, 1, 2, 3, 6]) (.seq (.seq (.region 0 [.mk4 0 (some 31) (.mv (.t 0)) none,
    .mk4 1 (some 32) (.mv (.t 6)) none,
    .mk4 2 (some 33) (.callv (.t 31) [(.t 32)]) none,
    .mk4 3 (some 34) (.un .not (.t 33)) none] [0, 1, 2, 3, 6, 34]) (.cond (.t 34) (.exit 0) (.skip))) (c76_0))
def c76_2 : AC :=
  .seq (.region 0 [.mk4 0 (some 9) (.load1 (.t 2)) none,
    .mk4 1 (some 10) (.load1 (.t 3)) none,
    .mk4 2 (some 11) (.nilck (.t 10)) none,
    .mk4 3 (some 12) (.faddr 0 (.t 11)) none,
    .mk4 4 (some 13) (.load1 (.t 12)) none,
    .mk4 5 (some 14) (.lenL (.t 13)) none,
    .mk4 6 (some 15) (.bin .rem (.t 9) (.t 14)) none,
    .mk4 7 (some 5) (.mv (.t 15)) none] [0, 1, 2, 3, 5]) (c76_1)
def c76 : AFn := ⟨4, 43, [],
  (.scope (.seq (.label 0) (.block 0 (.loop [0, 1, 2, 3] (.seq (.seq (.region 0 [.mk4 0 (some 7) (.load1 (.t 1)) none,
    .mk4 1 (some 8) (.bin .gtr (.t 7) (.c (.i 0))) none] [0, 1, 2, 3, 8]) (.cond (.t 8) (.skip) (.exit 0))) (.block 1 (c76_2)))))))⟩
def c77_0 : AC :=
  .seq (.region 0 [.mk4 0 (some 11) (.mv (.t 1)) none,
    .mk4 1 (some 12) (.mv (.t 0)) none,
    .mk4 2 (some 13) (.mv (.t 5)) none,
    .mk4 3 (some 14) (.ixaS 4 (.t 12) (.t 13)) none,
    .mk4 4 (some 15) (.loadN 4 (.t 14)) none,
    .mk4 5 (some 16) (.callv (.t 11) [(.t 15)]) none] [0, 1, 5, 7, 8, 16]) (.cond (.t 16) (.seq (.region 0 [.mk4 0 (some 17) (.mv (.t 5)) none,
    .mk4 1 (some 4) (.mv (.t 17)) none] [4]) (.ret)) (.skip))
def c77_1 : AC :=
  .seq (.region 0 [.mk4 0 (some 9) (.bin .lss (.t 8) (.t 7)) none] [0, 1, 7, 8, 9]) (.seq (.cond (.t 9) (.skip) (.exit 0)) (.seq (.block 1 (.seq (.region 0 [.mk4 0 (some 10) (.mv (.t 8)) none,
    .mk4 1 (some 5) (.mv (.t 10)) none] [0, 1, 5, 7, 8]) (c77_0))) (.region 0 [.mk4 0 (some 18) (.bin .add (.t 8) (.c (.i 1))) none,
    .mk4 1 (some 8) (.mv (.t 18)) none] [0, 1, 7, 8])))
def c77_2 : AC :=
  .seq (.region 0 [.mk4 0 (some 4) (.mv (.c (.i 0))) none] [0, 1]) (.seq (.seq (.region 0 [.mk4 0 (some 6) (.mv (.t 0)) none,
    .mk4 1 (some 7) (.lenL (.t 6)) none,
    .mk4 2 (some 8) (.mv (.c (.i 0))) none] [0, 1, 7, 8]) (.block 0 (.loop [0, 1, 7, 8] (c77_1)))) (.seq (.region 0 [.mk4 0 (some 4) (.mv (.c (.i (-1)))) none] [4]) (.ret)))
def c77 : AFn := ⟨2, 19, [.tmp 4],
  (c77_2)⟩
def c78_0 : AC :=
  .seq (.region 0 [.mk4 0 (some 3) (.mv (.t 0)) none,
    .mk4 1 (some 4) (.bin .lss (.t 3) (.c (.i 0))) none,
    .mk4 2 (some 5) (.mv (.t 4)) none,
    .mk4 3 (some 6) (.mv (.t 0)) (some (5, false)),
    .mk4 4 (some 7) (.bin .gtr (.t 6) (.c (.i 999))) (some (5, false)),
    .mk4 5 (some 8) (.pick (.t 5) (.c (.bool true)) (.t 7)) none,
    .mk4 6 (some 2) (.mv (.t 8)) none] [2]) (.ret)
def c78 : AFn := ⟨1, 9, [.tmp 2],
  (.seq (.region 0 [.mk4 0 (some 2) (.mv (.c (.bool false))) none] [0]) (c78_0))⟩
def c79_0 : AC :=
  .seq (.region 0 [.mk4 0 (some 4) (.mv (.c (.bool false))) none] [0, 1]) (.seq (.region 0 [.mk4 0 (some 5) (.mv (.t 0)) none,
    .mk4 1 (some 6) (.mv (.t 1)) none,
    .mk4 2 (some 7) (.call 94 [(.t 5), (.t 6)]) none,
    .mk4 3 (some 8) (.bin .geq (.t 7) (.c (.i 0))) none,
    .mk4 4 (some 4) (.mv (.t 8)) none] [4]) (.ret))
def c79 : AFn := ⟨2, 9, [.tmp 4],
  (c79_0)⟩
def c80_0 : AC :=
  .seq (.region 0 [.mk4 0 (some 4) (.mv (.c (.bool false))) none] [0, 1]) (.seq (.region 0 [.mk4 0 (some 5) (.mv (.t 0)) none,
    .mk4 1 (some 6) (.mv (.t 1)) none,
    .mk4 2 (some 7) (.call 95 [(.t 5), (.t 6)]) none,
    .mk4 3 (some 8) (.bin .geq (.t 7) (.c (.i 0))) none,
    .mk4 4 (some 4) (.mv (.t 8)) none] [4]) (.ret))
def c80 : AFn := ⟨2, 9, [.tmp 4],
  (c80_0)⟩
def c81_0 : AC :=
  .seq (.region 0 [.mk4 0 (some 1) (.box 4 (.t 0)) none,
    .mk4 1 (some 2) (.mv (.c (.bool false))) none] [1]) (.seq (.region 0 [.mk4 0 (some 3) (.loadN 4 (.t 1)) none,
    .mk4 1 (some 4) (.call 82 [(.t 3)]) none,
    .mk4 2 (some 5) (.un .not (.t 4)) none,
    .mk4 3 (some 2) (.mv (.t 5)) none] [2]) (.ret))
def c81 : AFn := ⟨1, 6, [.tmp 2],
  (c81_0)⟩
def c82_0 : AC :=
  .region 0 [.mk4 0 (some 24) (.mv (.t 3)) none,
    .mk4 1 (some 25) (.callv (.t 24) [(.c (.str [110]))]) none,
    .mk4 2 (some 26) (.un .not (.t 25)) none,
    .mk4 3 (some 27) (.mv (.t 26)) none,
    .mk4 4 (some 28) (.faddr 2 (.t 1)) (some (27, true)),
    .mk4 5 (some 29) (.load1 (.t 28)) (some (27, true)),
    .mk4 6 (some 30) (.bin .neq (.t 29) (.c (.i 0))) (some (27, true)),
    .mk4 7 (some 31) (.pick (.t 27) (.t 30) (.c (.bool false))) none,
    .mk4 8 (some 5) (.mv (.t 31)) none] [1, 3, 5]
def c82_1 : AC :=
  .seq (.region 0 [.mk4 0 (some 16) (.mv (.t 3)) none,
    .mk4 1 (some 17) (.callv (.t 16) [(.c (.str [119]))]) none,
    .mk4 2 (some 18) (.un .not (.t 17)) none,
    .mk4 3 (some 19) (.mv (.t 18)) none,
    .mk4 4 (some 20) (.faddr 1 (.t 1)) (some (19, true)),
    .mk4 5 (some 21) (.load1 (.t 20)) (some (19, true)),
    .mk4 6 (some 22) (.bin .neq (.t 21) (.c (.i 0))) (some (19, true)),
    .mk4 7 (some 23) (.pick (.t 19) (.t 22) (.c (.bool false))) none,
    .mk4 8 (some 5) (.mv (.t 23)) none] [1, 3, 5]) (.cond (.t 5) (.skip) (c82_0))
def c82_2 : AC :=
  .seq (.region 0 [.mk4 0 (some 10) (.faddr 1 (.t 1)) none,
    .mk4 1 (some 11) (.load1 (.t 10)) none,
    .mk4 2 (some 12) (.bin .lss (.t 11) (.c (.i 0))) none,
    .mk4 3 (some 5) (.mv (.t 12)) none] [1, 3, 5]) (.cond (.t 5) (.skip) (.seq (.region 0 [.mk4 0 (some 13) (.faddr 2 (.t 1)) none,
    .mk4 1 (some 14) (.load1 (.t 13)) none,
    .mk4 2 (some 15) (.bin .lss (.t 14) (.c (.i 0))) none,
    .mk4 3 (some 5) (.mv (.t 15)) none] [1, 3, 5]) (.cond (.t 5) (.skip) (c82_1))))
def c82_3 : AC :=
  .seq (.seq (.region 0 [.mk4 0 (some 6) (.faddr 0 (.t 1)) none,
    .mk4 1 (some 7) (.load1 (.t 6)) none,
    .mk4 2 (some 8) (.call 98 [(.t 7)]) none,
    .mk4 3 (some 9) (.bin .eql (.t 8) (.c (.str []))) none,
    .mk4 4 (some 5) (.mv (.t 9)) none] [1, 3, 5]) (.cond (.t 5) (.skip) (c82_2))) (.cond (.t 5) (.seq (.region 0 [.mk4 0 (some 2) (.mv (.c (.bool false))) none] [2]) (.ret)) (.skip))
def c82_4 : AC :=
  .seq (.region 0 [.mk4 0 (some 32) (.mv (.t 3)) none,
    .mk4 2 (some 34) (.faddr 3 (.t 1)) none,
    .mk4 3 (some 35) (.load1 (.t 34)) none,
    .mk4 4 (some 36) (.lenL (.t 35)) none,
    .mk4 5 (some 37) (.bin .gtr (.t 36) (.c (.i 0))) none,
    ⟨1, (some 33), .callv (.t 32) [(.c (.str [100]))], none, none, [(35, .load1 (.t 34), none)]⟩,
    .mk4 6 (some 38) (.eq .bool false (.t 33) (.t 37)) none,
    .mk4 7 (some 39) (.mv (.t 38)) none,
    .mk4 8 (some 40) (.faddr 3 (.t 1)) (some (39, true)),
    .mk4 9 (some 41) (.load1 (.t 40)) (some (39, true)),
    .mk4 10 (some 42) (.lenL (.t 41)) (some (39, true)),
    .mk4 11 (some 43) (.bin .leq (.t 42) (.c (.i 1000))) (some (39, true)),
    .mk4 12 (some 44) (.pick (.t 39) (.t 43) (.c (.bool false))) none,
    .mk4 13 (some 2) (.mv (.t 44)) none] [2]) (.ret)
def c82 : AFn := ⟨1, 45, [.tmp 2],
  (.seq (.region 0 [.mk4 0 (some 1) (.box 4 (.t 0)) none,
    .mk4 1 (some 2) (.mv (.c (.bool false))) none] [1]) (.seq (.region 0 [.mk4 0 (some 4) (.mkClo 96 [(.t 1)]) none,
    .mk4 1 (some 3) (.mv (.t 4)) none] [1, 3]) (.seq (.block 0 (c82_3)) (c82_4))))⟩
def c83_0 : AC :=
  .seq (.seq (.region 0 [.mk4 0 (some 3) (.mv (.t 0)) none,
    .mk4 1 (some 4) (.eq .slice false (.t 3) (.c (.nils))) none] [0, 4]) (.cond (.t 4) (.seq (.region 0 [.mk4 0 (some 2) (.mv (.c (.nils))) none] [2]) (.ret)) (.skip))) (.seq (.region 0 [.mk4 0 (some 5) (.bslice 1 0 [] []) none,
    .mk4 1 (some 6) (.mv (.t 0)) none,
    .mk4 2 (some 7) (.append 1 8 (.t 5) (.t 6)) none,
    .mk4 3 (some 2) (.mv (.t 7)) none] [2]) (.ret))
def c83 : AFn := ⟨1, 8, [.tmp 2],
  (.seq (.region 0 [.mk4 0 (some 2) (.mv (.c (.nils))) none] [0]) (c83_0))⟩
def c84_0 : AC :=
  .seq (.seq (.region 0 [.mk4 0 (some 3) (.mv (.t 0)) none,
    .mk4 1 (some 4) (.eq .slice false (.t 3) (.c (.nils))) none] [0, 4]) (.cond (.t 4) (.seq (.region 0 [.mk4 0 (some 2) (.mv (.c (.nils))) none] [2]) (.ret)) (.skip))) (.seq (.region 0 [.mk4 0 (some 5) (.bslice 4 0 [] []) none,
    .mk4 1 (some 6) (.mv (.t 0)) none,
    .mk4 2 (some 7) (.append 4 48 (.t 5) (.t 6)) none,
    .mk4 3 (some 2) (.mv (.t 7)) none] [2]) (.ret))
def c84 : AFn := ⟨1, 8, [.tmp 2],
  (.seq (.region 0 [.mk4 0 (some 2) (.mv (.c (.nils))) none] [0]) (c84_0))⟩
def c85_0 : AC :=
  .seq (.seq (.region 0 [.mk4 0 (some 3) (.mv (.t 0)) none,
    .mk4 1 (some 4) (.eq .slice false (.t 3) (.c (.nils))) none] [0, 4]) (.cond (.t 4) (.seq (.region 0 [.mk4 0 (some 2) (.mv (.c (.nils))) none] [2]) (.ret)) (.skip))) (.seq (.region 0 [.mk4 0 (some 5) (.bslice 1 0 [] []) none,
    .mk4 1 (some 6) (.mv (.t 0)) none,
    .mk4 2 (some 7) (.append 1 1 (.t 5) (.t 6)) none,
    .mk4 3 (some 2) (.mv (.t 7)) none] [2]) (.ret))
def c85 : AFn := ⟨1, 8, [.tmp 2],
  (.seq (.region 0 [.mk4 0 (some 2) (.mv (.c (.nils))) none] [0]) (c85_0))⟩
def c86_0 : AC :=
  .seq (.region 0 [.mk4 0 (some 24) (.mv (.t 8)) none,
    .mk4 1 (some 25) (.nilck (.t 24)) none,
    .mk4 2 (some 26) (.faddr 14 (.t 25)) none,
    .mk4 3 (some 27) (.load1 (.t 26)) none,
    .mk4 4 (some 23) (.mv (.t 27)) none] [2, 8, 23]) (.cond (.t 23) (.seq (.region 0 [.mk4 0 (some 6) (.mv (.c (.nils))) none,
    .mk4 1 (some 7) (.mv (.c (.i 115))) none] [6, 7]) (.ret)) (.skip))
def c86_1 : AC :=
  .seq (.region 0 [.mk4 0 (some 21) (.mv (.t 2)) none,
    .mk4 1 (some 22) (.bin .lss (.t 21) (.c (.i 0))) none,
    .mk4 2 (some 20) (.mv (.t 22)) none] [2, 8, 20]) (.cond (.t 20) (.seq (.region 0 [.mk4 0 (some 6) (.mv (.c (.nils))) none,
    .mk4 1 (some 7) (.mv (.c (.i 2))) none] [6, 7]) (.ret)) (c86_0))
def c86_2 : AC :=
  .seq (.region 0 [.mk4 0 (some 17) (.mv (.t 9)) none,
    .mk4 1 (some 18) (.bin .neq (.t 17) (.c (.i 0))) none,
    .mk4 2 (some 16) (.mv (.t 18)) none] [2, 8, 9, 16]) (.cond (.t 16) (.seq (.region 0 [.mk4 0 (some 19) (.mv (.t 9)) none,
    .mk4 1 (some 6) (.mv (.c (.nils))) none,
    .mk4 2 (some 7) (.mv (.t 19)) none] [6, 7]) (.ret)) (c86_1))
def c86_3 : AC :=
  .seq (.region 0 [.mk4 0 (some 11) (.mv (.t 0)) none,
    .mk4 1 (some 12) (.mv (.t 1)) none,
    .mk4 2 (some 13) (.call 22 [(.t 11), (.t 12)]) none,
    .mk4 3 (some 10) (.mv (.t 13)) none,
    .mk4 4 (some 14) (.extract (.t 10) 0) none,
    .mk4 5 (some 15) (.extract (.t 10) 1) none,
    .mk4 6 (some 8) (.mv (.t 14)) none,
    .mk4 7 (some 9) (.mv (.t 15)) none] [2, 8, 9]) (.seq (.block 0 (c86_2)) (.seq (.region 0 [.mk4 0 (some 28) (.mv (.t 8)) none,
    .mk4 1 (some 29) (.mv (.t 2)) none,
    .mk4 2 (some 30) (.call 99 [(.t 28), (.c (.i 1)), (.t 29)]) none,
    .mk4 3 (some 6) (.mv (.t 30)) none,
    .mk4 4 (some 7) (.mv (.c (.i 0))) none] [6, 7]) (.ret)))
def c86 : AFn := ⟨3, 31, [.tmp 6, .tmp 7],
  (.seq (.region 0 [.mk4 0 (some 6) (.mv (.c (.nils))) none,
    .mk4 1 (some 7) (.mv (.c (.i 0))) none] [0, 1, 2]) (c86_3))⟩
def c87_0 : AC :=
  .seq (.seq (.region 0 [.mk4 0 (some 13) (.mv (.t 6)) none,
    .mk4 1 (some 14) (.bin .eql (.t 13) (.c (.i 0))) none] [5, 6, 14]) (.cond (.t 14) (.region 0 [.mk4 0 (some 15) (.mv (.t 5)) none,
    .mk4 1 (some 16) (.call 100 [(.t 15), (.c (.i 1))]) none] [6]) (.skip))) (.seq (.region 0 [.mk4 0 (some 17) (.mv (.t 6)) none,
    .mk4 1 (some 4) (.mv (.t 17)) none] [4]) (.ret))
def c87_1 : AC :=
  .seq (.region 0 [.mk4 0 (some 8) (.mv (.t 0)) none,
    .mk4 1 (some 9) (.mv (.t 1)) none,
    .mk4 2 (some 10) (.call 22 [(.t 8), (.t 9)]) none,
    .mk4 3 (some 7) (.mv (.t 10)) none,
    .mk4 4 (some 11) (.extract (.t 7) 0) none,
    .mk4 5 (some 12) (.extract (.t 7) 1) none,
    .mk4 6 (some 5) (.mv (.t 11)) none,
    .mk4 7 (some 6) (.mv (.t 12)) none] [5, 6]) (c87_0)
def c87 : AFn := ⟨2, 18, [.tmp 4],
  (.seq (.region 0 [.mk4 0 (some 4) (.mv (.c (.i 0))) none] [0, 1]) (c87_1))⟩
def c88_0 : AC :=
  .seq (.seq (.region 0 [.mk4 0 (some 13) (.mv (.t 6)) none,
    .mk4 1 (some 14) (.bin .eql (.t 13) (.c (.i 0))) none] [5, 6, 14]) (.cond (.t 14) (.region 0 [.mk4 0 (some 15) (.mv (.t 5)) none,
    .mk4 1 (some 16) (.call 38 [(.t 15), (.c (.i 1))]) none] [6]) (.skip))) (.seq (.region 0 [.mk4 0 (some 17) (.mv (.t 6)) none,
    .mk4 1 (some 4) (.mv (.t 17)) none] [4]) (.ret))
def c88_1 : AC :=
  .seq (.region 0 [.mk4 0 (some 8) (.mv (.t 0)) none,
    .mk4 1 (some 9) (.mv (.t 1)) none,
    .mk4 2 (some 10) (.call 22 [(.t 8), (.t 9)]) none,
    .mk4 3 (some 7) (.mv (.t 10)) none,
    .mk4 4 (some 11) (.extract (.t 7) 0) none,
    .mk4 5 (some 12) (.extract (.t 7) 1) none,
    .mk4 6 (some 5) (.mv (.t 11)) none,
    .mk4 7 (some 6) (.mv (.t 12)) none] [5, 6]) (c88_0)
def c88 : AFn := ⟨2, 18, [.tmp 4],
  (.seq (.region 0 [.mk4 0 (some 4) (.mv (.c (.i 0))) none] [0, 1]) (c88_1))⟩
def c89_0 : AC :=
  .seq (.region 0 [.mk4 0 (some 29) (.mv (.t 5)) none,
    .mk4 1 (some 30) (.mv (.t 7)) none,
    .mk4 2 (some 31) (.nilck (.t 29)) none,
    .mk4 3 (some 32) (.faddr 0 (.t 31)) none,
    .mk4 4 (some 33) (.ixaA 2 7 (.t 32) (.t 30)) none,
    .mk4 5 (some 34) (.faddr 2 (.t 33)) none,
    .mk4 6 (some 35) (.load1 (.t 34)) none,
    .mk4 7 (some 36) (.call 57 [(.t 35)]) none] [5, 7, 26]) (.region 0 [.mk4 0 (some 37) (.mv (.t 5)) none,
    .mk4 1 (some 38) (.mv (.t 7)) none,
    .mk4 2 (some 39) (.call 45 [(.t 37), (.t 38), (.c (.bool true)), (.c (.bool true))]) none] [5, 26])
def c89_1 : AC :=
  .seq (.region 0 [.mk4 0 (some 27) (.bin .lss (.t 26) (.c (.i 2))) none] [5, 26, 27]) (.seq (.cond (.t 27) (.skip) (.exit 0)) (.seq (.block 1 (.seq (.region 0 [.mk4 0 (some 28) (.mv (.t 26)) none,
    .mk4 1 (some 7) (.mv (.t 28)) none] [5, 7, 26]) (c89_0))) (.region 0 [.mk4 0 (some 40) (.bin .add (.t 26) (.c (.i 1))) none,
    .mk4 1 (some 26) (.mv (.t 40)) none] [5, 26])))
def c89_2 : AC :=
  .seq (.region 0 [.mk4 0 (some 23) (.mv (.t 5)) none,
    .mk4 1 (some 24) (.nilck (.t 23)) none,
    .mk4 2 (some 25) (.faddr 14 (.t 24)) none,
    .mk4 3 none (.store 1 (.t 25) (.c (.bool true))) none] [5]) (.seq (.seq (.region 0 [.mk4 0 (some 26) (.mv (.c (.i 0))) none] [5, 26]) (.block 0 (.loop [5, 26] (c89_1)))) (.seq (.region 0 [.mk4 0 (some 4) (.mv (.c (.i 0))) none] [4]) (.ret)))
def c89_3 : AC :=
  .seq (.seq (.region 0 [.mk4 0 (some 14) (.mv (.t 6)) none,
    .mk4 1 (some 15) (.bin .neq (.t 14) (.c (.i 0))) none,
    .mk4 2 (some 16) (.mv (.t 15)) none,
    .mk4 3 (some 17) (.mv (.t 5)) (some (16, false)),
    .mk4 4 (some 18) (.nilck (.t 17)) (some (16, false)),
    .mk4 5 (some 19) (.faddr 14 (.t 18)) (some (16, false)),
    .mk4 6 (some 20) (.load1 (.t 19)) (some (16, false)),
    .mk4 7 (some 21) (.pick (.t 16) (.c (.bool true)) (.t 20)) none] [5, 6, 21]) (.cond (.t 21) (.seq (.region 0 [.mk4 0 (some 22) (.mv (.t 6)) none,
    .mk4 1 (some 4) (.mv (.t 22)) none] [4]) (.ret)) (.skip))) (c89_2)
def c89_4 : AC :=
  .seq (.region 0 [.mk4 0 (some 9) (.mv (.t 0)) none,
    .mk4 1 (some 10) (.mv (.t 1)) none,
    .mk4 2 (some 11) (.call 22 [(.t 9), (.t 10)]) none,
    .mk4 3 (some 8) (.mv (.t 11)) none,
    .mk4 4 (some 12) (.extract (.t 8) 0) none,
    .mk4 5 (some 13) (.extract (.t 8) 1) none,
    .mk4 6 (some 5) (.mv (.t 12)) none,
    .mk4 7 (some 6) (.mv (.t 13)) none] [5, 6]) (c89_3)
def c89 : AFn := ⟨2, 41, [.tmp 4],
  (.seq (.region 0 [.mk4 0 (some 4) (.mv (.c (.i 0))) none] [0, 1]) (c89_4))⟩
def c90_0 : AC :=
  .seq (.region 0 [.mk4 0 (some 137) (.mv (.t 0)) none,
    .mk4 1 (some 138) (.nilck (.t 137)) none,
    .mk4 2 (some 139) (.faddr 288 (.t 138)) none,
    .mk4 3 (some 140) (.load1 (.t 139)) none,
    .mk4 4 (some 141) (.lenL (.t 140)) none,
    .mk4 5 (some 142) (.bin .sub (.t 141) (.c (.i 1))) none,
    .mk4 6 (some 6) (.mv (.t 142)) none,
    .mk4 7 (some 7) (.mv (.c (.i 0))) none] [6, 7]) (.ret)
def c90_1 : AC :=
  .seq (.region 0 [.mk4 0 (some 127) (.mv (.t 0)) none,
    .mk4 1 (some 128) (.mv (.t 0)) none,
    .mk4 2 (some 129) (.nilck (.t 128)) none,
    .mk4 3 (some 130) (.faddr 288 (.t 129)) none,
    .mk4 4 (some 131) (.load1 (.t 130)) none,
    .mk4 5 (some 132) (.mv (.t 8)) none,
    .mk4 6 (some 133) (.bslice 1 1 [.ptr none] [(0, (.t 132))]) none,
    .mk4 7 (some 134) (.append 1 8 (.t 131) (.t 133)) none,
    .mk4 8 (some 135) (.nilck (.t 127)) none,
    .mk4 9 (some 136) (.faddr 288 (.t 135)) none,
    .mk4 10 none (.store 1 (.t 136) (.t 134)) none] [0]) (c90_0)
def c90_2 : AC :=
  .seq (.region 0 [.mk4 0 (some 116) (.mv (.t 9)) none,
    .mk4 1 (some 117) (.nilck (.t 116)) none,
    .mk4 2 (some 118) (.faddr 0 (.t 117)) none,
    .mk4 3 (some 119) (.ixaA 2 7 (.t 118) (.c (.i 0))) none,
    .mk4 4 (some 120) (.faddr 5 (.t 119)) none,
    .mk4 5 (some 121) (.load1 (.t 120)) none,
    .mk4 6 (some 122) (.bin .add (.t 121) (.c (.int .u64 1))) none,
    .mk4 7 (some 123) (.nilck (.t 116)) none,
    .mk4 8 (some 124) (.faddr 0 (.t 123)) none,
    .mk4 9 (some 125) (.ixaA 2 7 (.t 124) (.c (.i 0))) none,
    .mk4 10 (some 126) (.faddr 5 (.t 125)) none,
    .mk4 11 none (.store 1 (.t 126) (.t 122)) none] [0, 8]) (c90_1)
def c90_3 : AC :=
  .seq (.region 1 [.mk4 0 (some 101) (.mv (.t 9)) none,
    .mk4 1 (some 102) (.mv (.t 9)) none,
    .mk4 2 (some 103) (.nilck (.t 102)) none,
    .mk4 3 (some 104) (.faddr 16 (.t 103)) none,
    .mk4 4 (some 105) (.load1 (.t 104)) none,
    .mk4 6 (some 107) (.mv (.t 0)) none,
    .mk4 7 (some 108) (.nilck (.t 107)) none,
    .mk4 8 (some 109) (.faddr 288 (.t 108)) none,
    .mk4 9 (some 110) (.load1 (.t 109)) none,
    .mk4 10 (some 111) (.lenL (.t 110)) none,
    ⟨5, (some 106), .call 83 [(.t 105)], none, none, [(110, .load1 (.t 109), none)]⟩,
    ⟨11, (some 112), .bslice 1 1 [.i 0] [(0, (.t 111))], none, some 0, []⟩,
    .mk4 12 (some 113) (.append 1 8 (.t 106) (.t 112)) none,
    .mk4 13 (some 114) (.nilck (.t 101)) none,
    .mk4 14 (some 115) (.faddr 16 (.t 114)) none,
    .mk4 15 none (.store 1 (.t 115) (.t 113)) none] [0, 8, 9]) (c90_2)
def c90_4 : AC :=
  .seq (.region 0 [.mk4 0 (some 94) (.mv (.t 0)) none,
    .mk4 1 (some 95) (.nilck (.t 94)) none,
    .mk4 2 (some 96) (.faddr 288 (.t 95)) none,
    .mk4 3 (some 97) (.load1 (.t 96)) none,
    .mk4 4 (some 98) (.mv (.t 1)) none,
    .mk4 5 (some 99) (.ixaS 1 (.t 97) (.t 98)) none,
    .mk4 6 (some 100) (.load1 (.t 99)) none,
    .mk4 7 (some 9) (.mv (.t 100)) none] [0, 8, 9]) (c90_3)
def c90_5 : AC :=
  .seq (.region 0 [.mk4 0 (some 89) (.mv (.t 8)) none,
    .mk4 1 (some 90) (.nilck (.t 89)) none,
    .mk4 2 (some 91) (.faddr 0 (.t 90)) none,
    .mk4 3 (some 92) (.ixaA 2 7 (.t 91) (.c (.i 1))) none,
    .mk4 4 (some 93) (.faddr 0 (.t 92)) none,
    .mk4 5 none (.store 1 (.t 93) (.c (.i 2))) none] [0, 1, 8]) (c90_4)
def c90_6 : AC :=
  .seq (.region 0 [.mk4 0 (some 81) (.mv (.t 0)) none,
    .mk4 1 (some 82) (.nilck (.t 81)) none,
    .mk4 2 (some 83) (.faddr 288 (.t 82)) none,
    .mk4 3 (some 84) (.load1 (.t 83)) none,
    .mk4 4 (some 85) (.lenL (.t 84)) none,
    .mk4 5 (some 86) (.bin .geq (.t 85) (.c (.i 1000))) none,
    .mk4 6 (some 80) (.mv (.t 86)) none] [0, 1, 2, 80]) (.cond (.t 80) (.seq (.region 0 [.mk4 0 (some 6) (.mv (.c (.i 0))) none,
    .mk4 1 (some 7) (.mv (.c (.i 112))) none] [6, 7]) (.ret)) (.skip))
def c90_7 : AC :=
  .seq (.region 0 [.mk4 0 (some 58) (.mv (.t 0)) none,
    .mk4 1 (some 59) (.nilck (.t 58)) none,
    .mk4 2 (some 60) (.faddr 288 (.t 59)) none,
    .mk4 3 (some 61) (.load1 (.t 60)) none,
    .mk4 4 (some 62) (.mv (.t 1)) none,
    .mk4 5 (some 63) (.ixaS 1 (.t 61) (.t 62)) none,
    .mk4 6 (some 64) (.load1 (.t 63)) none,
    .mk4 7 (some 65) (.nilck (.t 64)) none,
    .mk4 8 (some 66) (.faddr 16 (.t 65)) none,
    .mk4 9 (some 67) (.load1 (.t 66)) none,
    .mk4 10 (some 68) (.lenL (.t 67)) none,
    .mk4 11 (some 69) (.mv (.t 0)) none,
    .mk4 12 (some 70) (.nilck (.t 69)) none,
    .mk4 13 (some 71) (.faddr 288 (.t 70)) none,
    .mk4 14 (some 72) (.load1 (.t 71)) none,
    .mk4 15 (some 73) (.mv (.t 1)) none,
    .mk4 16 (some 74) (.ixaS 1 (.t 72) (.t 73)) none,
    .mk4 17 (some 75) (.load1 (.t 74)) none,
    .mk4 18 (some 76) (.nilck (.t 75)) none,
    .mk4 19 (some 77) (.faddr 15 (.t 76)) none,
    .mk4 20 (some 78) (.load1 (.t 77)) none,
    .mk4 21 (some 79) (.bin .geq (.t 68) (.t 78)) none,
    .mk4 22 (some 57) (.mv (.t 79)) none] [0, 1, 2, 57]) (.cond (.t 57) (.seq (.region 0 [.mk4 0 (some 6) (.mv (.c (.i 0))) none,
    .mk4 1 (some 7) (.mv (.c (.i 113))) none] [6, 7]) (.ret)) (c90_6))
def c90_8 : AC :=
  .seq (.region 0 [.mk4 0 (some 54) (.mv (.t 2)) none,
    .mk4 1 (some 55) (.call 41 [(.t 54)]) none,
    .mk4 2 (some 56) (.un .not (.t 55)) none,
    .mk4 3 (some 53) (.mv (.t 56)) none] [0, 1, 2, 53]) (.cond (.t 53) (.seq (.region 0 [.mk4 0 (some 6) (.mv (.c (.i 0))) none,
    .mk4 1 (some 7) (.mv (.c (.i 2))) none] [6, 7]) (.ret)) (c90_7))
def c90_9 : AC :=
  .seq (.region 0 [.mk4 0 (some 14) (.mv (.t 1)) none,
    .mk4 1 (some 15) (.bin .lss (.t 14) (.c (.i 0))) none,
    .mk4 2 (some 16) (.mv (.t 15)) none,
    .mk4 3 (some 17) (.mv (.t 1)) (some (16, false)),
    .mk4 4 (some 18) (.mv (.t 0)) (some (16, false)),
    .mk4 5 (some 19) (.nilck (.t 18)) (some (16, false)),
    .mk4 6 (some 20) (.faddr 288 (.t 19)) (some (16, false)),
    .mk4 7 (some 21) (.load1 (.t 20)) (some (16, false)),
    .mk4 8 (some 22) (.lenL (.t 21)) (some (16, false)),
    .mk4 9 (some 23) (.bin .geq (.t 17) (.t 22)) (some (16, false)),
    .mk4 10 (some 24) (.pick (.t 16) (.c (.bool true)) (.t 23)) none,
    .mk4 11 (some 25) (.mv (.t 24)) none,
    .mk4 12 (some 26) (.mv (.t 0)) (some (25, false)),
    .mk4 13 (some 27) (.nilck (.t 26)) (some (25, false)),
    .mk4 14 (some 28) (.faddr 288 (.t 27)) (some (25, false)),
    .mk4 15 (some 29) (.load1 (.t 28)) (some (25, false)),
    .mk4 16 (some 30) (.mv (.t 1)) (some (25, false)),
    .mk4 17 (some 31) (.ixaS 1 (.t 29) (.t 30)) (some (25, false)),
    .mk4 18 (some 32) (.load1 (.t 31)) (some (25, false)),
    .mk4 19 (some 33) (.nilck (.t 32)) (some (25, false)),
    .mk4 20 (some 34) (.faddr 15 (.t 33)) (some (25, false)),
    .mk4 21 (some 35) (.load1 (.t 34)) (some (25, false)),
    .mk4 22 (some 36) (.bin .eql (.t 35) (.c (.i 0))) (some (25, false)),
    .mk4 23 (some 37) (.pick (.t 25) (.c (.bool true)) (.t 36)) none,
    .mk4 24 (some 38) (.mv (.t 37)) none,
    .mk4 25 (some 39) (.mv (.t 0)) (some (38, false)),
    .mk4 26 (some 40) (.nilck (.t 39)) (some (38, false)),
    .mk4 27 (some 41) (.faddr 288 (.t 40)) (some (38, false)),
    .mk4 28 (some 42) (.load1 (.t 41)) (some (38, false)),
    .mk4 29 (some 43) (.mv (.t 1)) (some (38, false)),
    .mk4 30 (some 44) (.ixaS 1 (.t 42) (.t 43)) (some (38, false)),
    .mk4 31 (some 45) (.load1 (.t 44)) (some (38, false)),
    .mk4 32 (some 46) (.nilck (.t 45)) (some (38, false)),
    .mk4 33 (some 47) (.faddr 0 (.t 46)) (some (38, false)),
    .mk4 34 (some 48) (.ixaA 2 7 (.t 47) (.c (.i 0))) (some (38, false)),
    .mk4 35 (some 49) (.faddr 0 (.t 48)) (some (38, false)),
    .mk4 36 (some 50) (.load1 (.t 49)) (some (38, false)),
    .mk4 37 (some 51) (.bin .neq (.t 50) (.c (.i 1))) (some (38, false)),
    .mk4 38 (some 52) (.pick (.t 38) (.c (.bool true)) (.t 51)) none,
    .mk4 39 (some 13) (.mv (.t 52)) none] [0, 1, 2, 13]) (.cond (.t 13) (.seq (.region 0 [.mk4 0 (some 6) (.mv (.c (.i 0))) none,
    .mk4 1 (some 7) (.mv (.c (.i 116))) none] [6, 7]) (.ret)) (c90_8))
def c90_10 : AC :=
  .seq (.block 0 (.seq (.region 0 [.mk4 0 (some 11) (.mv (.t 0)) none,
    .mk4 1 (some 12) (.call 35 [(.t 11)]) none,
    .mk4 2 (some 10) (.mv (.t 12)) none] [0, 1, 2, 10]) (.cond (.t 10) (.seq (.region 0 [.mk4 0 (some 6) (.mv (.c (.i 0))) none,
    .mk4 1 (some 7) (.mv (.c (.i 1))) none] [6, 7]) (.ret)) (c90_9)))) (.seq (.region 0 [.mk4 0 (some 87) (.mv (.t 2)) none,
    .mk4 1 (some 88) (.call 20 [(.t 87)]) none,
    .mk4 2 (some 8) (.mv (.t 88)) none] [0, 1, 8]) (c90_5))
def c90 : AFn := ⟨3, 143, [.tmp 6, .tmp 7],
  (.seq (.region 0 [.mk4 0 (some 6) (.mv (.c (.i 0))) none,
    .mk4 1 (some 7) (.mv (.c (.i 0))) none] [0, 1, 2]) (c90_10))⟩
def c91_0 : AC :=
  .seq (.region 0 [.mk4 0 (some 13) (.mv (.t 0)) none,
    .mk4 1 (some 14) (.mv (.t 3)) none,
    .mk4 2 (some 15) (.mv (.t 4)) none,
    .mk4 3 (some 16) (.build [.i 0, .i 0] [(0, 1, (.t 14)), (1, 1, (.t 15))]) none,
    .mk4 4 (some 17) (.callv (.t 13) [(.t 16)]) none,
    .mk4 5 (some 18) (.un .not (.t 17)) none] [0, 1, 5, 18]) (.cond (.t 18) (.ret) (.skip))
def c91_1 : AC :=
  .seq (.region 0 [.mk4 0 (some 8) (.load1 (.t 1)) none,
    .mk4 1 (some 9) (.mv (.t 3)) none,
    .mk4 2 (some 10) (.call 92 [(.t 8), (.t 9)]) none,
    .mk4 3 (some 4) (.mv (.t 10)) none] [0, 1, 3, 4, 5]) (.seq (.seq (.region 0 [.mk4 0 (some 11) (.mv (.t 4)) none,
    .mk4 1 (some 12) (.bin .eql (.t 11) (.c (.i 0))) none] [0, 1, 3, 4, 5, 12]) (.cond (.t 12) (.exit 1) (.skip))) (c91_0))
def c91_2 : AC :=
  .seq (.region 0 [.mk4 0 (some 6) (.bin .lss (.t 5) (.c (.i 32))) none] [0, 1, 5, 6]) (.seq (.cond (.t 6) (.skip) (.exit 0)) (.seq (.block 1 (.seq (.region 0 [.mk4 0 (some 7) (.mv (.t 5)) none,
    .mk4 1 (some 3) (.mv (.t 7)) none] [0, 1, 3, 5]) (c91_1))) (.region 0 [.mk4 0 (some 19) (.bin .add (.t 5) (.c (.i 1))) none,
    .mk4 1 (some 5) (.mv (.t 19)) none] [0, 1, 5])))
def c91 : AFn := ⟨2, 20, [],
  (.scope (.seq (.label 0) (.seq (.region 0 [.mk4 0 (some 5) (.mv (.c (.i 0))) none] [0, 1, 5]) (.block 0 (.loop [0, 1, 5] (c91_2))))))⟩
def c92_0 : AC :=
  .seq (.region 0 [.mk4 0 (some 9) (.mv (.t 0)) none,
    .mk4 1 (some 10) (.mv (.t 1)) none,
    .mk4 2 (some 11) (.nilck (.t 9)) none,
    .mk4 3 (some 12) (.faddr 32 (.t 11)) none,
    .mk4 4 (some 13) (.ixaA 32 1 (.t 12) (.t 10)) none,
    .mk4 5 (some 14) (.load1 (.t 13)) none,
    .mk4 6 (some 4) (.mv (.t 14)) none] [4]) (.ret)
def c92_1 : AC :=
  .seq (.seq (.region 0 [.mk4 0 (some 5) (.mv (.t 0)) none,
    .mk4 1 (some 6) (.mv (.t 1)) none,
    .mk4 2 (some 7) (.call 59 [(.t 5), (.t 6)]) none,
    .mk4 3 (some 8) (.bin .neq (.t 7) (.c (.i 0))) none] [0, 1, 8]) (.cond (.t 8) (.seq (.region 0 [.mk4 0 (some 4) (.mv (.c (.i 0))) none] [4]) (.ret)) (.skip))) (c92_0)
def c92 : AFn := ⟨2, 15, [.tmp 4],
  (.seq (.region 0 [.mk4 0 (some 4) (.mv (.c (.i 0))) none] [0, 1]) (c92_1))⟩
def c93_0 : AC :=
  .block 0 (.rangeFunc (.t 19) [20] [5] (.region 0 [.mk4 0 (some 6) (.mv (.t 20)) none] [5, 6]) (.block 1 (.region 0 [.mk4 0 (some 21) (.load1 (.t 5)) none,
    .mk4 1 (some 22) (.mv (.t 6)) none,
    .mk4 2 (some 23) (.append 1 1 (.t 21) (.t 22)) none,
    .mk4 3 none (.store 1 (.t 5) (.t 23)) none] [])))
def c93_1 : AC :=
  .seq (.region 0 [.mk4 0 (some 13) (.mv (.t 0)) none,
    .mk4 1 (some 14) (.mv (.t 0)) none,
    .mk4 2 (some 15) (.nilck (.t 14)) none,
    .mk4 3 (some 16) (.faddr 1 (.t 15)) none,
    .mk4 4 (some 17) (.load1 (.t 16)) none,
    .mk4 5 (some 18) (.mv (.t 1)) none,
    .mk4 6 (some 19) (.call 62 [(.t 13), (.t 17), (.t 18)]) none] [5, 19]) (c93_0)
def c93_2 : AC :=
  .seq (.seq (.region 0 [.mk4 0 (some 7) (.mv (.t 1)) none,
    .mk4 1 (some 8) (.mv (.t 0)) none,
    .mk4 2 (some 9) (.call 58 [(.t 8)]) none,
    .mk4 3 (some 10) (.minI [(.t 7), (.t 9)]) none,
    .mk4 4 (some 1) (.mv (.t 10)) none] [0, 1, 5]) (.seq (.region 0 [.mk4 0 (some 11) (.mv (.t 1)) none,
    .mk4 1 (some 12) (.bin .gtr (.t 11) (.c (.i 0))) none] [0, 1, 5, 12]) (.cond (.t 12) (c93_1) (.skip)))) (.seq (.region 0 [.mk4 0 (some 24) (.load1 (.t 5)) none,
    .mk4 1 (some 4) (.mv (.t 24)) none] [4]) (.ret))
def c93 : AFn := ⟨2, 25, [.tmp 4],
  (.seq (.region 0 [.mk4 0 (some 4) (.mv (.c (.nils))) none] [0, 1]) (.seq (.region 0 [.mk4 0 (some 5) (.alloc 1 [.nils]) none] [0, 1, 5]) (c93_2)))⟩
def c94_0 : AC :=
  .seq (.region 0 [.mk4 0 (some 11) (.mv (.t 1)) none,
    .mk4 1 (some 12) (.mv (.t 0)) none,
    .mk4 2 (some 13) (.mv (.t 5)) none,
    .mk4 3 (some 14) (.ixaS 1 (.t 12) (.t 13)) none,
    .mk4 4 (some 15) (.load1 (.t 14)) none,
    .mk4 5 (some 16) (.callv (.t 11) [(.t 15)]) none] [0, 1, 5, 7, 8, 16]) (.cond (.t 16) (.seq (.region 0 [.mk4 0 (some 17) (.mv (.t 5)) none,
    .mk4 1 (some 4) (.mv (.t 17)) none] [4]) (.ret)) (.skip))
def c94_1 : AC :=
  .seq (.region 0 [.mk4 0 (some 9) (.bin .lss (.t 8) (.t 7)) none] [0, 1, 7, 8, 9]) (.seq (.cond (.t 9) (.skip) (.exit 0)) (.seq (.block 1 (.seq (.region 0 [.mk4 0 (some 10) (.mv (.t 8)) none,
    .mk4 1 (some 5) (.mv (.t 10)) none] [0, 1, 5, 7, 8]) (c94_0))) (.region 0 [.mk4 0 (some 18) (.bin .add (.t 8) (.c (.i 1))) none,
    .mk4 1 (some 8) (.mv (.t 18)) none] [0, 1, 7, 8])))
def c94_2 : AC :=
  .seq (.region 0 [.mk4 0 (some 4) (.mv (.c (.i 0))) none] [0, 1]) (.seq (.seq (.region 0 [.mk4 0 (some 6) (.mv (.t 0)) none,
    .mk4 1 (some 7) (.lenL (.t 6)) none,
    .mk4 2 (some 8) (.mv (.c (.i 0))) none] [0, 1, 7, 8]) (.block 0 (.loop [0, 1, 7, 8] (c94_1)))) (.seq (.region 0 [.mk4 0 (some 4) (.mv (.c (.i (-1)))) none] [4]) (.ret)))
def c94 : AFn := ⟨2, 19, [.tmp 4],
  (c94_2)⟩
def c95_0 : AC :=
  .seq (.region 0 [.mk4 0 (some 11) (.mv (.t 1)) none,
    .mk4 1 (some 12) (.mv (.t 0)) none,
    .mk4 2 (some 13) (.mv (.t 5)) none,
    .mk4 3 (some 14) (.ixaS 4 (.t 12) (.t 13)) none,
    .mk4 4 (some 15) (.loadN 4 (.t 14)) none,
    .mk4 5 (some 16) (.callv (.t 11) [(.t 15)]) none] [0, 1, 5, 7, 8, 16]) (.cond (.t 16) (.seq (.region 0 [.mk4 0 (some 17) (.mv (.t 5)) none,
    .mk4 1 (some 4) (.mv (.t 17)) none] [4]) (.ret)) (.skip))
def c95_1 : AC :=
  .seq (.region 0 [.mk4 0 (some 9) (.bin .lss (.t 8) (.t 7)) none] [0, 1, 7, 8, 9]) (.seq (.cond (.t 9) (.skip) (.exit 0)) (.seq (.block 1 (.seq (.region 0 [.mk4 0 (some 10) (.mv (.t 8)) none,
    .mk4 1 (some 5) (.mv (.t 10)) none] [0, 1, 5, 7, 8]) (c95_0))) (.region 0 [.mk4 0 (some 18) (.bin .add (.t 8) (.c (.i 1))) none,
    .mk4 1 (some 8) (.mv (.t 18)) none] [0, 1, 7, 8])))
def c95_2 : AC :=
  .seq (.region 0 [.mk4 0 (some 4) (.mv (.c (.i 0))) none] [0, 1]) (.seq (.seq (.region 0 [.mk4 0 (some 6) (.mv (.t 0)) none,
    .mk4 1 (some 7) (.lenL (.t 6)) none,
    .mk4 2 (some 8) (.mv (.c (.i 0))) none] [0, 1, 7, 8]) (.block 0 (.loop [0, 1, 7, 8] (c95_1)))) (.seq (.region 0 [.mk4 0 (some 4) (.mv (.c (.i (-1)))) none] [4]) (.ret)))
def c95 : AFn := ⟨2, 19, [.tmp 4],
  (c95_2)⟩
def c96_0 : AC :=
  .seq (.region 0 [.mk4 0 (some 3) (.mv (.c (.bool false))) none] [0, 1]) (.seq (.region 0 [.mk4 0 (some 4) (.faddr 0 (.t 1)) none,
    .mk4 1 (some 5) (.load1 (.t 4)) none,
    .mk4 2 (some 6) (.call 98 [(.t 5)]) none,
    .mk4 3 (some 7) (.mv (.t 0)) none,
    .mk4 4 (some 8) (.call 97 [(.t 6), (.t 7)]) none,
    .mk4 5 (some 3) (.mv (.t 8)) none] [3]) (.ret))
def c96 : AFn := ⟨2, 9, [.tmp 3],
  (c96_0)⟩
def c97_0 : AC :=
  .seq (.region 0 [.mk4 0 (some 4) (.mv (.c (.bool false))) none] [0, 1]) (.seq (.region 0 [.mk4 0 (some 5) (.mv (.t 0)) none,
    .mk4 1 (some 6) (.mv (.t 1)) none,
    .mk4 2 (some 7) (.call 101 [(.t 5), (.t 6)]) none,
    .mk4 3 (some 8) (.bin .geq (.t 7) (.c (.i 0))) none,
    .mk4 4 (some 4) (.mv (.t 8)) none] [4]) (.ret))
def c97 : AFn := ⟨2, 9, [.tmp 4],
  (c97_0)⟩
def c98_0 : AC :=
  .cond (.t 9) (.seq (.region 0 [.mk4 0 (some 2) (.mv (.c (.str [119]))) none] [2]) (.ret)) (.seq (.region 0 [.mk4 0 (some 14) (.bin .eql (.t 3) (.c (.i 7))) none,
    .mk4 1 (some 13) (.mv (.t 14)) none] [13]) (.cond (.t 13) (.seq (.region 0 [.mk4 0 (some 2) (.mv (.c (.str [110]))) none] [2]) (.ret)) (.skip)))
def c98_1 : AC :=
  .seq (.seq (.region 0 [.mk4 0 (some 10) (.bin .eql (.t 3) (.c (.i 3))) none,
    .mk4 1 (some 9) (.mv (.t 10)) none] [3, 9]) (.cond (.t 9) (.skip) (.seq (.region 0 [.mk4 0 (some 11) (.bin .eql (.t 3) (.c (.i 4))) none,
    .mk4 1 (some 9) (.mv (.t 11)) none] [3, 9]) (.cond (.t 9) (.skip) (.region 0 [.mk4 0 (some 12) (.bin .eql (.t 3) (.c (.i 5))) none,
    .mk4 1 (some 9) (.mv (.t 12)) none] [3, 9]))))) (c98_0)
def c98_2 : AC :=
  .seq (.seq (.region 0 [.mk4 0 (some 7) (.bin .eql (.t 3) (.c (.i 2))) none,
    .mk4 1 (some 6) (.mv (.t 7)) none] [3, 6]) (.cond (.t 6) (.skip) (.region 0 [.mk4 0 (some 8) (.bin .eql (.t 3) (.c (.i 6))) none,
    .mk4 1 (some 6) (.mv (.t 8)) none] [3, 6]))) (.cond (.t 6) (.seq (.region 0 [.mk4 0 (some 2) (.mv (.c (.str [119, 110]))) none] [2]) (.ret)) (c98_1))
def c98_3 : AC :=
  .seq (.seq (.region 0 [.mk4 0 (some 3) (.mv (.t 0)) none] [3]) (.block 0 (.seq (.region 0 [.mk4 0 (some 5) (.bin .eql (.t 3) (.c (.i 1))) none,
    .mk4 1 (some 4) (.mv (.t 5)) none] [3, 4]) (.cond (.t 4) (.seq (.region 0 [.mk4 0 (some 2) (.mv (.c (.str [119, 100]))) none] [2]) (.ret)) (c98_2))))) (.seq (.region 0 [.mk4 0 (some 2) (.mv (.c (.str []))) none] [2]) (.ret))
def c98 : AFn := ⟨1, 15, [.tmp 2],
  (.seq (.region 0 [.mk4 0 (some 2) (.mv (.c (.str []))) none] [0]) (c98_3))⟩
def c99_0 : AC :=
  .seq (.region 0 [.mk4 0 (some 17) (.mv (.t 0)) none,
    .mk4 1 (some 18) (.mv (.t 1)) none,
    .mk4 2 (some 19) (.bin .sub (.c (.i 1)) (.t 18)) none,
    .mk4 3 (some 20) (.mv (.t 7)) none,
    .mk4 4 (some 21) (.lenL (.t 20)) none,
    .mk4 5 (some 22) (.bin .gtr (.t 21) (.c (.i 0))) none,
    .mk4 6 (some 23) (.call 45 [(.t 17), (.t 19), (.c (.bool false)), (.t 22)]) none] [7]) (.seq (.region 0 [.mk4 0 (some 24) (.mv (.t 7)) none,
    .mk4 1 (some 6) (.mv (.t 24)) none] [6]) (.ret))
def c99_1 : AC :=
  .seq (.region 0 [.mk4 0 (some 8) (.mv (.t 0)) none,
    .mk4 1 (some 9) (.mv (.t 1)) none,
    .mk4 2 (some 10) (.nilck (.t 8)) none,
    .mk4 3 (some 11) (.faddr 0 (.t 10)) none,
    .mk4 4 (some 12) (.ixaA 2 7 (.t 11) (.t 9)) none,
    .mk4 5 (some 13) (.faddr 2 (.t 12)) none,
    .mk4 6 (some 14) (.load1 (.t 13)) none,
    .mk4 7 (some 15) (.mv (.t 2)) none,
    .mk4 8 (some 16) (.call 72 [(.t 14), (.t 15)]) none,
    .mk4 9 (some 7) (.mv (.t 16)) none] [0, 1, 7]) (c99_0)
def c99 : AFn := ⟨3, 25, [.tmp 6],
  (.seq (.region 0 [.mk4 0 (some 6) (.mv (.c (.nils))) none] [0, 1, 2]) (c99_1))⟩
def c100_0 : AC :=
  .seq (.region 0 [.mk4 0 (some 12) (.mv (.t 0)) none,
    .mk4 1 (some 13) (.mv (.t 1)) none,
    .mk4 2 (some 14) (.nilck (.t 12)) none,
    .mk4 3 (some 15) (.faddr 0 (.t 14)) none,
    .mk4 4 (some 16) (.ixaA 2 7 (.t 15) (.t 13)) none,
    .mk4 5 (some 17) (.faddr 4 (.t 16)) none,
    .mk4 6 none (.store 1 (.t 17) (.c (.bool true))) none] [0, 1]) (.region 0 [.mk4 0 (some 18) (.mv (.t 0)) none,
    .mk4 1 (some 19) (.mv (.t 1)) none,
    .mk4 2 (some 20) (.bin .sub (.c (.i 1)) (.t 19)) none,
    .mk4 3 (some 21) (.call 45 [(.t 18), (.t 20), (.c (.bool true)), (.c (.bool false))]) none] [])
def c100_1 : AC :=
  .seq (.region 0 [.mk4 0 (some 4) (.mv (.t 0)) none,
    .mk4 1 (some 5) (.mv (.t 1)) none,
    .mk4 2 (some 6) (.nilck (.t 4)) none,
    .mk4 3 (some 7) (.faddr 0 (.t 6)) none,
    .mk4 4 (some 8) (.ixaA 2 7 (.t 7) (.t 5)) none,
    .mk4 5 (some 9) (.faddr 4 (.t 8)) none,
    .mk4 6 (some 10) (.load1 (.t 9)) none,
    .mk4 7 (some 11) (.un .not (.t 10)) none] [0, 1, 11]) (.cond (.t 11) (c100_0) (.skip))
def c100 : AFn := ⟨2, 22, [],
  (c100_1)⟩
def c101 : AFn := ⟨2, 8, [.tmp 4],
  (.seq (.region 0 [.mk4 0 (some 4) (.mv (.c (.i 0))) none] [0, 1]) (.seq (.region 0 [.mk4 0 (some 5) (.mv (.t 0)) none,
    .mk4 1 (some 6) (.mv (.t 1)) none,
    .mk4 2 (some 7) (.call 102 [(.t 5), (.t 6)]) none,
    .mk4 3 (some 4) (.mv (.t 7)) none] [4]) (.ret)))⟩
def c102_0 : AC :=
  .seq (.seq (.region 0 [.mk4 0 (some 113) (.mv (.t 12)) none,
    .mk4 1 (some 114) (.bin .geq (.t 113) (.c (.i 0))) none] [8, 12, 114]) (.cond (.t 114) (.seq (.region 0 [.mk4 0 (some 115) (.mv (.t 12)) none,
    .mk4 1 (some 116) (.mv (.t 8)) none,
    .mk4 2 (some 117) (.bin .add (.t 115) (.t 116)) none,
    .mk4 3 (some 4) (.mv (.t 117)) none] [4]) (.ret)) (.skip))) (.seq (.region 0 [.mk4 0 (some 4) (.mv (.c (.i (-1)))) none] [4]) (.ret))
def c102_1 : AC :=
  .seq (.seq (.region 0 [.mk4 0 (some 138) (.mv (.t 13)) none,
    .mk4 1 (some 139) (.bin .lss (.t 138) (.c (.i 0))) none] [8, 13, 139]) (.cond (.t 139) (.seq (.region 0 [.mk4 0 (some 4) (.mv (.c (.i (-1)))) none] [4]) (.ret)) (.skip))) (.seq (.region 0 [.mk4 0 (some 140) (.mv (.t 8)) none,
    .mk4 1 (some 141) (.mv (.t 13)) none,
    .mk4 2 (some 142) (.bin .add (.t 140) (.t 141)) none,
    .mk4 3 (some 4) (.mv (.t 142)) none] [4]) (.ret))
def c102_2 : AC :=
  .seq (.region 0 [.mk4 0 (some 133) (.mv (.t 0)) none,
    .mk4 1 (some 134) (.mv (.t 8)) none,
    .mk4 2 (some 135) (.sliceS (.t 133) (some (.t 134)) none) none,
    .mk4 3 (some 136) (.mv (.t 1)) none,
    .mk4 4 (some 137) (.call 106 [(.t 135), (.t 136)]) none,
    .mk4 5 (some 13) (.mv (.t 137)) none] [8, 13]) (c102_1)
def c102_3 : AC :=
  .seq (.region 0 [.mk4 0 (some 108) (.mv (.t 0)) none,
    .mk4 1 (some 109) (.mv (.t 8)) none,
    .mk4 2 (some 110) (.sliceS (.t 108) (some (.t 109)) none) none,
    .mk4 3 (some 111) (.mv (.t 1)) none,
    .mk4 4 (some 112) (.call 104 [(.t 110), (.t 111)]) none,
    .mk4 5 (some 12) (.mv (.t 112)) none] [8, 12]) (c102_0)
def c102_4 : AC :=
  .seq (.region 0 [.mk4 0 (some 118) (.mv (.t 5)) none,
    .mk4 1 (some 119) (.fail) none,
    .mk4 2 (some 120) (.bin .gtr (.t 118) (.t 119)) none,
    .mk4 3 (some 121) (.mv (.t 120)) none,
    .mk4 4 (some 122) (.mv (.t 10)) (some (121, true)),
    .mk4 5 (some 123) (.mv (.t 8)) (some (121, true)),
    .mk4 6 (some 124) (.bin .shr (.t 123) (.c (.int .u64 4))) (some (121, true)),
    .mk4 7 (some 125) (.bin .add (.c (.i 4)) (.t 124)) (some (121, true)),
    .mk4 8 (some 126) (.bin .geq (.t 122) (.t 125)) (some (121, true)),
    .mk4 9 (some 127) (.pick (.t 121) (.t 126) (.c (.bool false))) none,
    .mk4 10 (some 128) (.mv (.t 127)) none,
    .mk4 11 (some 129) (.mv (.t 8)) (some (128, true)),
    .mk4 12 (some 130) (.mv (.t 9)) (some (128, true)),
    .mk4 13 (some 131) (.bin .lss (.t 129) (.t 130)) (some (128, true)),
    .mk4 14 (some 132) (.pick (.t 128) (.t 131) (.c (.bool false))) none] [0, 1, 5, 6, 7, 8, 9, 10, 132]) (.cond (.t 132) (c102_2) (.skip))
def c102_5 : AC :=
  .seq (.region 0 [.mk4 0 (some 99) (.mv (.t 5)) none,
    .mk4 1 (some 100) (.fail) none,
    .mk4 2 (some 101) (.bin .leq (.t 99) (.t 100)) none,
    .mk4 3 (some 102) (.mv (.t 101)) none,
    .mk4 4 (some 103) (.mv (.t 10)) (some (102, true)),
    .mk4 5 (some 104) (.mv (.t 8)) (some (102, true)),
    .mk4 6 (some 105) (.call 105 [(.t 104)]) (some (102, true)),
    .mk4 7 (some 106) (.bin .gtr (.t 103) (.t 105)) (some (102, true)),
    .mk4 8 (some 107) (.pick (.t 102) (.t 106) (.c (.bool false))) none] [0, 1, 5, 6, 7, 8, 9, 10, 107]) (.cond (.t 107) (c102_3) (c102_4))
def c102_6 : AC :=
  .seq (.region 0 [.mk4 0 (some 95) (.mv (.t 8)) none,
    .mk4 1 (some 96) (.bin .add (.t 95) (.c (.i 1))) none,
    .mk4 2 (some 8) (.mv (.t 96)) none] [0, 1, 5, 6, 7, 8, 9, 10]) (.seq (.region 0 [.mk4 0 (some 97) (.mv (.t 10)) none,
    .mk4 1 (some 98) (.bin .add (.t 97) (.c (.i 1))) none,
    .mk4 2 (some 10) (.mv (.t 98)) none] [0, 1, 5, 6, 7, 8, 9, 10]) (c102_5))
def c102_7 : AC :=
  .seq (.seq (.region 0 [.mk4 0 (some 72) (.mv (.t 11)) none,
    .mk4 1 (some 73) (.bin .lss (.t 72) (.c (.i 0))) none] [0, 1, 5, 6, 7, 8, 9, 10, 11, 73]) (.cond (.t 73) (.seq (.region 0 [.mk4 0 (some 4) (.mv (.c (.i (-1)))) none] [4]) (.ret)) (.skip))) (.region 0 [.mk4 0 (some 74) (.mv (.t 8)) none,
    .mk4 1 (some 75) (.mv (.t 11)) none,
    .mk4 2 (some 76) (.bin .add (.t 75) (.c (.i 1))) none,
    .mk4 3 (some 77) (.bin .add (.t 74) (.t 76)) none,
    .mk4 4 (some 8) (.mv (.t 77)) none] [0, 1, 5, 6, 7, 8, 9, 10])
def c102_8 : AC :=
  .seq (.region 0 [.mk4 0 (some 65) (.mv (.t 0)) none,
    .mk4 1 (some 66) (.mv (.t 8)) none,
    .mk4 2 (some 67) (.bin .add (.t 66) (.c (.i 1))) none,
    .mk4 3 (some 68) (.mv (.t 9)) none,
    .mk4 4 (some 69) (.sliceS (.t 65) (some (.t 67)) (some (.t 68))) none,
    .mk4 5 (some 70) (.mv (.t 6)) none,
    .mk4 6 (some 71) (.call 103 [(.t 69), (.t 70)]) none,
    .mk4 7 (some 11) (.mv (.t 71)) none] [0, 1, 5, 6, 7, 8, 9, 10, 11]) (c102_7)
def c102_9 : AC :=
  .seq (.seq (.region 0 [.mk4 0 (some 78) (.mv (.t 0)) none,
    .mk4 1 (some 79) (.mv (.t 8)) none,
    .mk4 2 (some 80) (.bin .add (.t 79) (.c (.i 1))) none,
    .mk4 3 (some 81) (.ixStr (.t 78) (.t 80)) none,
    .mk4 4 (some 82) (.mv (.t 7)) none,
    .mk4 5 (some 83) (.bin .eql (.t 81) (.t 82)) none,
    .mk4 6 (some 84) (.mv (.t 83)) none,
    .mk4 7 (some 85) (.mv (.t 0)) (some (84, true)),
    .mk4 8 (some 86) (.mv (.t 8)) (some (84, true)),
    .mk4 9 (some 87) (.mv (.t 8)) (some (84, true)),
    .mk4 10 (some 88) (.mv (.t 5)) (some (84, true)),
    .mk4 11 (some 89) (.bin .add (.t 87) (.t 88)) (some (84, true)),
    .mk4 12 (some 90) (.sliceS (.t 85) (some (.t 86)) (some (.t 89))) (some (84, true)),
    .mk4 13 (some 91) (.mv (.t 1)) (some (84, true)),
    .mk4 14 (some 92) (.bin .eql (.t 90) (.t 91)) (some (84, true)),
    .mk4 15 (some 93) (.pick (.t 84) (.t 92) (.c (.bool false))) none] [0, 1, 5, 6, 7, 8, 9, 10, 93]) (.cond (.t 93) (.seq (.region 0 [.mk4 0 (some 94) (.mv (.t 8)) none,
    .mk4 1 (some 4) (.mv (.t 94)) none] [4]) (.ret)) (.skip))) (c102_6)
def c102_10 : AC :=
  .seq (.seq (.region 0 [.mk4 0 (some 60) (.mv (.t 0)) none,
    .mk4 1 (some 61) (.mv (.t 8)) none,
    .mk4 2 (some 62) (.ixStr (.t 60) (.t 61)) none,
    .mk4 3 (some 63) (.mv (.t 6)) none,
    .mk4 4 (some 64) (.bin .neq (.t 62) (.t 63)) none] [0, 1, 5, 6, 7, 8, 9, 10, 64]) (.cond (.t 64) (c102_8) (.skip))) (c102_9)
def c102_11 : AC :=
  .seq (.block 1 (.loop [0, 1, 5, 6, 7, 8, 9, 10] (.seq (.seq (.region 0 [.mk4 0 (some 57) (.mv (.t 8)) none,
    .mk4 1 (some 58) (.mv (.t 9)) none,
    .mk4 2 (some 59) (.bin .lss (.t 57) (.t 58)) none] [0, 1, 5, 6, 7, 8, 9, 10, 59]) (.cond (.t 59) (.skip) (.exit 1))) (.block 2 (c102_10))))) (.seq (.region 0 [.mk4 0 (some 4) (.mv (.c (.i (-1)))) none] [4]) (.ret))
def c102_12 : AC :=
  .seq (.region 0 [.mk4 0 (some 52) (.mv (.t 0)) none,
    .mk4 1 (some 53) (.lenS (.t 52)) none,
    .mk4 2 (some 54) (.mv (.t 5)) none,
    .mk4 3 (some 55) (.bin .sub (.t 53) (.t 54)) none,
    .mk4 4 (some 56) (.bin .add (.t 55) (.c (.i 1))) none,
    .mk4 5 (some 9) (.mv (.t 56)) none] [0, 1, 5, 6, 7, 8, 9]) (.seq (.region 0 [.mk4 0 (some 10) (.mv (.c (.i 0))) none] [0, 1, 5, 6, 7, 8, 9, 10]) (c102_11))
def c102_13 : AC :=
  .seq (.region 0 [.mk4 0 (some 37) (.mv (.t 5)) none,
    .mk4 1 (some 38) (.fail) none,
    .mk4 2 (some 39) (.bin .leq (.t 37) (.t 38)) none,
    .mk4 3 (some 40) (.mv (.t 39)) none,
    .mk4 4 (some 41) (.mv (.t 0)) (some (40, true)),
    .mk4 5 (some 42) (.lenS (.t 41)) (some (40, true)),
    .mk4 6 (some 43) (.bin .leq (.t 42) (.c (.i 64))) (some (40, true)),
    .mk4 7 (some 44) (.pick (.t 40) (.t 43) (.c (.bool false))) none,
    .mk4 8 (some 36) (.mv (.t 44)) none] [0, 1, 5, 36]) (.cond (.t 36) (.seq (.region 0 [.mk4 0 (some 45) (.mv (.t 0)) none,
    .mk4 1 (some 46) (.mv (.t 1)) none,
    .mk4 2 (some 47) (.call 104 [(.t 45), (.t 46)]) none,
    .mk4 3 (some 4) (.mv (.t 47)) none] [4]) (.ret)) (.skip))
def c102_14 : AC :=
  .seq (.region 0 [.mk4 0 (some 32) (.mv (.t 5)) none,
    .mk4 1 (some 33) (.mv (.t 0)) none,
    .mk4 2 (some 34) (.lenS (.t 33)) none,
    .mk4 3 (some 35) (.bin .geq (.t 32) (.t 34)) none,
    .mk4 4 (some 31) (.mv (.t 35)) none] [0, 1, 5, 31]) (.cond (.t 31) (.seq (.region 0 [.mk4 0 (some 4) (.mv (.c (.i (-1)))) none] [4]) (.ret)) (c102_13))
def c102_15 : AC :=
  .seq (.region 0 [.mk4 0 (some 25) (.mv (.t 5)) none,
    .mk4 1 (some 26) (.bin .eql (.t 25) (.c (.i 1))) none,
    .mk4 2 (some 24) (.mv (.t 26)) none] [0, 1, 5, 24]) (.cond (.t 24) (.seq (.region 0 [.mk4 0 (some 27) (.mv (.t 0)) none,
    .mk4 1 (some 28) (.mv (.t 1)) none,
    .mk4 2 (some 29) (.ixStr (.t 28) (.c (.i 0))) none,
    .mk4 3 (some 30) (.call 103 [(.t 27), (.t 29)]) none,
    .mk4 4 (some 4) (.mv (.t 30)) none] [4]) (.ret)) (c102_14))
def c102_16 : AC :=
  .seq (.region 0 [.mk4 0 (some 17) (.mv (.t 5)) none,
    .mk4 1 (some 18) (.bin .eql (.t 17) (.c (.i 0))) none,
    .mk4 2 (some 19) (.mv (.t 18)) none,
    .mk4 3 (some 20) (.mv (.t 1)) (some (19, false)),
    .mk4 4 (some 21) (.mv (.t 0)) (some (19, false)),
    .mk4 5 (some 22) (.bin .eql (.t 20) (.t 21)) (some (19, false)),
    .mk4 6 (some 23) (.pick (.t 19) (.c (.bool true)) (.t 22)) none,
    .mk4 7 (some 16) (.mv (.t 23)) none] [0, 1, 5, 16]) (.cond (.t 16) (.seq (.region 0 [.mk4 0 (some 4) (.mv (.c (.i 0))) none] [4]) (.ret)) (c102_15))
def c102_17 : AC :=
  .seq (.region 0 [.mk4 0 (some 48) (.mv (.t 1)) none,
    .mk4 1 (some 49) (.ixStr (.t 48) (.c (.i 0))) none,
    .mk4 2 (some 6) (.mv (.t 49)) none] [0, 1, 5, 6]) (.seq (.region 0 [.mk4 0 (some 50) (.mv (.t 1)) none,
    .mk4 1 (some 51) (.ixStr (.t 50) (.c (.i 1))) none,
    .mk4 2 (some 7) (.mv (.t 51)) none] [0, 1, 5, 6, 7]) (.seq (.region 0 [.mk4 0 (some 8) (.mv (.c (.i 0))) none] [0, 1, 5, 6, 7, 8]) (c102_12)))
def c102 : AFn := ⟨2, 143, [.tmp 4],
  (.seq (.region 0 [.mk4 0 (some 4) (.mv (.c (.i 0))) none] [0, 1]) (.seq (.region 0 [.mk4 0 (some 14) (.mv (.t 1)) none,
    .mk4 1 (some 15) (.lenS (.t 14)) none,
    .mk4 2 (some 5) (.mv (.t 15)) none] [0, 1, 5]) (.seq (.block 0 (c102_16)) (c102_17))))⟩
def c103 : AFn := ⟨2, 8, [.tmp 4],
  (.seq (.region 0 [.mk4 0 (some 4) (.mv (.c (.i 0))) none] [0, 1]) (.seq (.region 0 [.mk4 0 (some 5) (.mv (.t 0)) none,
    .mk4 1 (some 6) (.mv (.t 1)) none,
    .mk4 2 (some 7) (.call 107 [(.t 5), (.t 6)]) none,
    .mk4 3 (some 4) (.mv (.t 7)) none] [4]) (.ret)))⟩
def c105 : AFn := ⟨1, 6, [.tmp 2],
  (.seq (.region 0 [.mk4 0 (some 2) (.mv (.c (.i 0))) none] [0]) (.seq (.region 0 [.mk4 0 (some 3) (.mv (.t 0)) none,
    .mk4 1 (some 4) (.bin .add (.t 3) (.c (.i 16))) none,
    .mk4 2 (some 5) (.bin .quo (.t 4) (.c (.i 8))) none,
    .mk4 3 (some 2) (.mv (.t 5)) none] [2]) (.ret)))⟩
def c106_0 : AC :=
  .seq (.region 0 [.mk4 0 (some 65) (.mv (.t 8)) none,
    .mk4 1 (some 66) (.mv (.t 5)) none,
    .mk4 2 (some 67) (.bin .eql (.t 65) (.t 66)) none,
    .mk4 3 (some 68) (.mv (.t 67)) none,
    .mk4 4 (some 69) (.mv (.t 0)) (some (68, true)),
    .mk4 5 (some 70) (.mv (.t 10)) (some (68, true)),
    .mk4 6 (some 71) (.mv (.t 7)) (some (68, true)),
    .mk4 7 (some 72) (.bin .sub (.t 70) (.t 71)) (some (68, true)),
    .mk4 8 (some 73) (.mv (.t 10)) (some (68, true)),
    .mk4 9 (some 74) (.sliceS (.t 69) (some (.t 72)) (some (.t 73))) (some (68, true)),
    .mk4 10 (some 75) (.mv (.t 1)) (some (68, true)),
    .mk4 11 (some 76) (.bin .eql (.t 74) (.t 75)) (some (68, true)),
    .mk4 12 (some 77) (.pick (.t 68) (.t 76) (.c (.bool false))) none] [0, 1, 5, 6, 7, 8, 10, 77]) (.cond (.t 77) (.seq (.region 0 [.mk4 0 (some 78) (.mv (.t 10)) none,
    .mk4 1 (some 79) (.mv (.t 7)) none,
    .mk4 2 (some 80) (.bin .sub (.t 78) (.t 79)) none,
    .mk4 3 (some 4) (.mv (.t 80)) none] [4]) (.ret)) (.skip))
def c106_1 : AC :=
  .seq (.region 0 [.mk4 0 (some 53) (.mv (.t 8)) none,
    .mk4 1 (some 54) (.mv (.t 6)) none,
    .mk4 2 (some 55) (.mv (.t 0)) none,
    .mk4 3 (some 56) (.mv (.t 10)) none,
    .mk4 4 (some 57) (.mv (.t 7)) none,
    .mk4 5 (some 58) (.bin .sub (.t 56) (.t 57)) none,
    .mk4 6 (some 59) (.ixStr (.t 55) (.t 58)) none,
    .mk4 7 (some 60) (.convInt .u32 (.t 59)) none,
    .mk4 8 (some 61) (.bin .mul (.t 54) (.t 60)) none,
    .mk4 9 (some 62) (.bin .sub (.t 53) (.t 61)) none,
    .mk4 10 (some 8) (.mv (.t 62)) none] [0, 1, 5, 6, 7, 8, 10]) (.seq (.region 0 [.mk4 0 (some 63) (.mv (.t 10)) none,
    .mk4 1 (some 64) (.bin .add (.t 63) (.c (.i 1))) none,
    .mk4 2 (some 10) (.mv (.t 64)) none] [0, 1, 5, 6, 7, 8, 10]) (c106_0))
def c106_2 : AC :=
  .seq (.region 0 [.mk4 0 (some 47) (.mv (.t 8)) none,
    .mk4 1 (some 48) (.mv (.t 0)) none,
    .mk4 2 (some 49) (.mv (.t 10)) none,
    .mk4 3 (some 50) (.ixStr (.t 48) (.t 49)) none,
    .mk4 4 (some 51) (.convInt .u32 (.t 50)) none,
    .mk4 5 (some 52) (.bin .add (.t 47) (.t 51)) none,
    .mk4 6 (some 8) (.mv (.t 52)) none] [0, 1, 5, 6, 7, 8, 10]) (c106_1)
def c106_3 : AC :=
  .seq (.seq (.region 0 [.mk4 0 (some 41) (.mv (.t 10)) none,
    .mk4 1 (some 42) (.mv (.t 0)) none,
    .mk4 2 (some 43) (.lenS (.t 42)) none,
    .mk4 3 (some 44) (.bin .lss (.t 41) (.t 43)) none] [0, 1, 5, 6, 7, 8, 10, 44]) (.cond (.t 44) (.skip) (.exit 2))) (.block 3 (.seq (.region 0 [.mk4 0 (some 45) (.mv (.t 8)) none,
    .mk4 1 (some 46) (.bin .mul (.t 45) (.c (.int .u32 16777619))) none,
    .mk4 2 (some 8) (.mv (.t 46)) none] [0, 1, 5, 6, 7, 8, 10]) (c106_2)))
def c106_4 : AC :=
  .region 0 [.mk4 0 (some 23) (.mv (.t 8)) none,
    .mk4 1 (some 24) (.bin .mul (.t 23) (.c (.int .u32 16777619))) none,
    .mk4 2 (some 25) (.mv (.t 0)) none,
    .mk4 3 (some 26) (.mv (.t 9)) none,
    .mk4 4 (some 27) (.ixStr (.t 25) (.t 26)) none,
    .mk4 5 (some 28) (.convInt .u32 (.t 27)) none,
    .mk4 6 (some 29) (.bin .add (.t 24) (.t 28)) none,
    .mk4 7 (some 8) (.mv (.t 29)) none] [0, 1, 5, 6, 7, 8, 9]
def c106_5 : AC :=
  .seq (.seq (.region 0 [.mk4 0 (some 18) (.mv (.t 9)) none,
    .mk4 1 (some 19) (.mv (.t 7)) none,
    .mk4 2 (some 20) (.bin .lss (.t 18) (.t 19)) none] [0, 1, 5, 6, 7, 8, 9, 20]) (.cond (.t 20) (.skip) (.exit 0))) (.seq (.block 1 (c106_4)) (.region 0 [.mk4 0 (some 21) (.mv (.t 9)) none,
    .mk4 1 (some 22) (.bin .add (.t 21) (.c (.i 1))) none,
    .mk4 2 (some 9) (.mv (.t 22)) none] [0, 1, 5, 6, 7, 8, 9]))
def c106_6 : AC :=
  .seq (.seq (.region 0 [.mk4 0 (some 30) (.mv (.t 8)) none,
    .mk4 1 (some 31) (.mv (.t 5)) none,
    .mk4 2 (some 32) (.bin .eql (.t 30) (.t 31)) none,
    .mk4 3 (some 33) (.mv (.t 32)) none,
    .mk4 4 (some 34) (.mv (.t 0)) (some (33, true)),
    .mk4 5 (some 35) (.mv (.t 7)) (some (33, true)),
    .mk4 6 (some 36) (.sliceS (.t 34) none (some (.t 35))) (some (33, true)),
    .mk4 7 (some 37) (.mv (.t 1)) (some (33, true)),
    .mk4 8 (some 38) (.bin .eql (.t 36) (.t 37)) (some (33, true)),
    .mk4 9 (some 39) (.pick (.t 33) (.t 38) (.c (.bool false))) none] [0, 1, 5, 6, 7, 8, 39]) (.cond (.t 39) (.seq (.region 0 [.mk4 0 (some 4) (.mv (.c (.i 0))) none] [4]) (.ret)) (.skip))) (.seq (.seq (.region 0 [.mk4 0 (some 40) (.mv (.t 7)) none,
    .mk4 1 (some 10) (.mv (.t 40)) none] [0, 1, 5, 6, 7, 8, 10]) (.block 2 (.loop [0, 1, 5, 6, 7, 8, 10] (c106_3)))) (.seq (.region 0 [.mk4 0 (some 4) (.mv (.c (.i (-1)))) none] [4]) (.ret)))
def c106_7 : AC :=
  .seq (.region 0 [.mk4 0 (some 16) (.mv (.t 1)) none,
    .mk4 1 (some 17) (.lenS (.t 16)) none,
    .mk4 2 (some 7) (.mv (.t 17)) none] [0, 1, 5, 6, 7]) (.seq (.region 0 [.mk4 0 (some 8) (.mv (.c (.int .u32 0))) none] [0, 1, 5, 6, 7, 8]) (.seq (.seq (.region 0 [.mk4 0 (some 9) (.mv (.c (.i 0))) none] [0, 1, 5, 6, 7, 8, 9]) (.block 0 (.loop [0, 1, 5, 6, 7, 8, 9] (c106_5)))) (c106_6)))
def c106_8 : AC :=
  .seq (.region 0 [.mk4 0 (some 12) (.mv (.t 1)) none,
    .mk4 1 (some 13) (.call 108 [(.t 12)]) none,
    .mk4 2 (some 11) (.mv (.t 13)) none,
    .mk4 3 (some 14) (.extract (.t 11) 0) none,
    .mk4 4 (some 15) (.extract (.t 11) 1) none,
    .mk4 5 (some 5) (.mv (.t 14)) none,
    .mk4 6 (some 6) (.mv (.t 15)) none] [0, 1, 5, 6]) (c106_7)
def c106 : AFn := ⟨2, 81, [.tmp 4],
  (.seq (.region 0 [.mk4 0 (some 4) (.mv (.c (.i 0))) none] [0, 1]) (c106_8))⟩
def c108_0 : AC :=
  .seq (.seq (.region 0 [.mk4 0 (some 28) (.mv (.t 8)) none,
    .mk4 1 (some 29) (.bin .and (.t 28) (.c (.i 1))) none,
    .mk4 2 (some 30) (.bin .neq (.t 29) (.c (.i 0))) none] [4, 6, 7, 8, 30]) (.cond (.t 30) (.region 0 [.mk4 0 (some 31) (.mv (.t 6)) none,
    .mk4 1 (some 32) (.mv (.t 7)) none,
    .mk4 2 (some 33) (.bin .mul (.t 31) (.t 32)) none,
    .mk4 3 (some 6) (.mv (.t 33)) none] [4, 6, 7, 8]) (.skip))) (.region 0 [.mk4 0 (some 34) (.mv (.t 7)) none,
    .mk4 1 (some 35) (.mv (.t 7)) none,
    .mk4 2 (some 36) (.bin .mul (.t 34) (.t 35)) none,
    .mk4 3 (some 7) (.mv (.t 36)) none] [4, 6, 7, 8])
def c108_1 : AC :=
  .seq (.seq (.region 0 [.mk4 0 (some 24) (.mv (.t 8)) none,
    .mk4 1 (some 25) (.bin .gtr (.t 24) (.c (.i 0))) none] [4, 6, 7, 8, 25]) (.cond (.t 25) (.skip) (.exit 2))) (.seq (.block 3 (c108_0)) (.region 0 [.mk4 0 (some 26) (.mv (.t 8)) none,
    .mk4 1 (some 27) (.bin .shr (.t 26) (.c (.int .u64 1))) none,
    .mk4 2 (some 8) (.mv (.t 27)) none] [4, 6, 7, 8]))
def c108_2 : AC :=
  .seq (.seq (.region 0 [.mk4 0 (some 22) (.mv (.t 0)) none,
    .mk4 1 (some 23) (.lenS (.t 22)) none,
    .mk4 2 (some 8) (.mv (.t 23)) none] [4, 6, 7, 8]) (.block 2 (.loop [4, 6, 7, 8] (c108_1)))) (.seq (.region 0 [.mk4 0 (some 37) (.mv (.t 4)) none,
    .mk4 1 (some 38) (.mv (.t 6)) none,
    .mk4 2 (some 2) (.mv (.t 37)) none,
    .mk4 3 (some 3) (.mv (.t 38)) none] [2, 3]) (.ret))
def c108_3 : AC :=
  .region 0 [.mk4 0 (some 15) (.mv (.t 4)) none,
    .mk4 1 (some 16) (.bin .mul (.t 15) (.c (.int .u32 16777619))) none,
    .mk4 2 (some 17) (.mv (.t 0)) none,
    .mk4 3 (some 18) (.mv (.t 5)) none,
    .mk4 4 (some 19) (.ixStr (.t 17) (.t 18)) none,
    .mk4 5 (some 20) (.convInt .u32 (.t 19)) none,
    .mk4 6 (some 21) (.bin .add (.t 16) (.t 20)) none,
    .mk4 7 (some 4) (.mv (.t 21)) none] [0, 4, 5]
def c108_4 : AC :=
  .seq (.seq (.region 0 [.mk4 0 (some 9) (.mv (.t 5)) none,
    .mk4 1 (some 10) (.mv (.t 0)) none,
    .mk4 2 (some 11) (.lenS (.t 10)) none,
    .mk4 3 (some 12) (.bin .lss (.t 9) (.t 11)) none] [0, 4, 5, 12]) (.cond (.t 12) (.skip) (.exit 0))) (.seq (.block 1 (c108_3)) (.region 0 [.mk4 0 (some 13) (.mv (.t 5)) none,
    .mk4 1 (some 14) (.bin .add (.t 13) (.c (.i 1))) none,
    .mk4 2 (some 5) (.mv (.t 14)) none] [0, 4, 5]))
def c108_5 : AC :=
  .seq (.region 0 [.mk4 0 (some 4) (.mv (.c (.int .u32 0))) none] [0, 4]) (.seq (.seq (.region 0 [.mk4 0 (some 5) (.mv (.c (.i 0))) none] [0, 4, 5]) (.block 0 (.loop [0, 4, 5] (c108_4)))) (.seq (.region 0 [.mk4 0 (some 6) (.mv (.c (.int .u32 1))) none,
    .mk4 1 (some 7) (.mv (.c (.int .u32 16777619))) none] [0, 4, 6, 7]) (c108_2)))
def c108 : AFn := ⟨1, 39, [.tmp 2, .tmp 3],
  (.seq (.region 0 [.mk4 0 (some 2) (.mv (.c (.int .u32 0))) none,
    .mk4 1 (some 3) (.mv (.c (.int .u32 0))) none] [0]) (c108_5))⟩
def c128_0 : AC :=
  .seq (.region 0 [.mk4 0 (some 5) (.mv (.t 1)) none,
    .mk4 1 (some 6) (.faddr 0 (.t 2)) none,
    .mk4 2 (some 7) (.loadN 2 (.t 6)) none,
    .mk4 3 (some 8) (.faddr 2 (.t 2)) none,
    .mk4 4 (some 9) (.loadN 2 (.t 8)) none,
    .mk4 6 (some 11) (.faddr 0 (.t 2)) none,
    .mk4 7 (some 12) (.loadN 2 (.t 11)) none,
    .mk4 8 (some 13) (.faddr 2 (.t 2)) none,
    .mk4 9 (some 14) (.loadN 2 (.t 13)) none,
    ⟨5, (some 10), .call 131 [(.t 7), (.t 9)], none, none, [(12, .loadN 2 (.t 11), none), (14, .loadN 2 (.t 13), none)]⟩,
    .mk4 10 (some 15) (.call 130 [(.t 5), (.t 10), (.t 12), (.t 14)]) none,
    .mk4 11 (some 4) (.mv (.t 15)) none] [4]) (.ret)
def c128 : AFn := ⟨2, 16, [.tmp 4],
  (.seq (.region 0 [.mk4 0 (some 2) (.box 4 (.t 0)) none,
    .mk4 1 (some 4) (.mv (.c (.bool false))) none] [1, 2]) (c128_0))⟩
def c129_0 : AC :=
  .region 0 [.mk4 0 (some 54) (.mv (.t 10)) none,
    .mk4 1 (some 55) (.mv (.t 14)) none,
    .mk4 2 (some 56) (.lookup (.leaf (.int .i64)) (.i 0) false (.t 54) (.t 55)) none,
    .mk4 3 (some 57) (.bin .or (.t 56) (.c (.i 4))) none,
    .mk4 4 none (.mput (.leaf (.int .i64)) (.t 54) (.t 55) (.t 57)) none] [10, 48, 49, 50]
def c129_1 : AC :=
  .seq (.block 3 (.seq (.region 0 [.mk4 0 (some 52) (.ixaS 1 (.t 48) (.t 50)) none,
    .mk4 1 (some 53) (.load1 (.t 52)) none,
    .mk4 2 (some 14) (.mv (.t 53)) none] [10, 14, 48, 49, 50]) (c129_0))) (.region 0 [.mk4 0 (some 58) (.bin .add (.t 50) (.c (.i 1))) none,
    .mk4 1 (some 50) (.mv (.t 58)) none] [10, 48, 49, 50])
def c129_2 : AC :=
  .region 0 [.mk4 0 (some 42) (.mv (.t 10)) none,
    .mk4 1 (some 43) (.mv (.t 12)) none,
    .mk4 2 (some 44) (.lookup (.leaf (.int .i64)) (.i 0) false (.t 42) (.t 43)) none,
    .mk4 3 (some 45) (.bin .or (.t 44) (.c (.i 2))) none,
    .mk4 4 none (.mput (.leaf (.int .i64)) (.t 42) (.t 43) (.t 45)) none] [7, 10, 36, 37, 38]
def c129_3 : AC :=
  .seq (.block 1 (.seq (.region 0 [.mk4 0 (some 40) (.ixaS 1 (.t 36) (.t 38)) none,
    .mk4 1 (some 41) (.load1 (.t 40)) none,
    .mk4 2 (some 12) (.mv (.t 41)) none] [7, 10, 12, 36, 37, 38]) (c129_2))) (.region 0 [.mk4 0 (some 46) (.bin .add (.t 38) (.c (.i 1))) none,
    .mk4 1 (some 38) (.mv (.t 46)) none] [7, 10, 36, 37, 38])
def c129_4 : AC :=
  .seq (.seq (.region 0 [.mk4 0 (some 47) (.loadN 2 (.t 7)) none,
    .mk4 1 (some 48) (.call 133 [(.t 47)]) none,
    .mk4 2 (some 49) (.lenL (.t 48)) none,
    .mk4 3 (some 50) (.mv (.c (.i 0))) none] [10, 48, 49, 50]) (.block 2 (.loop [10, 48, 49, 50] (.seq (.region 0 [.mk4 0 (some 51) (.bin .lss (.t 50) (.t 49)) none] [10, 48, 49, 50, 51]) (.seq (.cond (.t 51) (.skip) (.exit 2)) (c129_1)))))) (.seq (.region 0 [.mk4 0 (some 59) (.mv (.t 10)) none,
    .mk4 1 (some 4) (.mv (.t 59)) none,
    .mk4 2 (some 5) (.mv (.c (.i 0))) none] [4, 5]) (.ret))
def c129_5 : AC :=
  .seq (.seq (.region 0 [.mk4 0 (some 35) (.loadN 2 (.t 6)) none,
    .mk4 1 (some 36) (.call 133 [(.t 35)]) none,
    .mk4 2 (some 37) (.lenL (.t 36)) none,
    .mk4 3 (some 38) (.mv (.c (.i 0))) none] [7, 10, 36, 37, 38]) (.block 0 (.loop [7, 10, 36, 37, 38] (.seq (.region 0 [.mk4 0 (some 39) (.bin .lss (.t 38) (.t 37)) none] [7, 10, 36, 37, 38, 39]) (.seq (.cond (.t 39) (.skip) (.exit 0)) (c129_3)))))) (c129_4)
def c129_6 : AC :=
  .seq (.seq (.region 0 [.mk4 0 (some 31) (.mv (.t 9)) none,
    .mk4 1 (some 32) (.bin .neq (.t 31) (.c (.i 0))) none] [6, 7, 9, 32]) (.cond (.t 32) (.seq (.region 0 [.mk4 0 (some 33) (.mv (.t 9)) none,
    .mk4 1 (some 4) (.mv (.c (.map none))) none,
    .mk4 2 (some 5) (.mv (.t 33)) none] [4, 5]) (.ret)) (.skip))) (.seq (.region 0 [.mk4 0 (some 34) (.mkMap) none,
    .mk4 1 (some 10) (.mv (.t 34)) none] [6, 7, 10]) (c129_5))
def c129_7 : AC :=
  .seq (.region 2 [.mk4 0 (some 16) (.mv (.t 1)) none,
    .mk4 1 (some 17) (.faddr 0 (.t 2)) none,
    .mk4 2 (some 18) (.loadN 2 (.t 17)) none,
    .mk4 3 (some 19) (.faddr 2 (.t 2)) none,
    .mk4 4 (some 20) (.loadN 2 (.t 19)) none,
    .mk4 6 (some 22) (.faddr 0 (.t 2)) none,
    .mk4 7 (some 23) (.loadN 2 (.t 22)) none,
    .mk4 8 (some 24) (.faddr 2 (.t 2)) none,
    .mk4 9 (some 25) (.loadN 2 (.t 24)) none,
    ⟨5, (some 21), .call 131 [(.t 18), (.t 20)], none, none, [(23, .loadN 2 (.t 22), none), (25, .loadN 2 (.t 24), none)]⟩,
    .mk4 10 (some 26) (.call 132 [(.t 16), (.t 21), (.t 23), (.t 25)]) none,
    .mk4 11 (some 15) (.mv (.t 26)) none,
    .mk4 12 (some 27) (.extract (.t 15) 0) none,
    .mk4 13 (some 28) (.extract (.t 15) 1) none,
    .mk4 14 (some 29) (.extract (.t 15) 2) none,
    .mk4 15 (some 30) (.extract (.t 15) 3) none,
    ⟨16, (some 6), .alloc 2 [.int .u32 0, .int .u32 0], none, some 0, []⟩,
    ⟨17, (some 7), .alloc 2 [.int .u32 0, .int .u32 0], none, some 1, []⟩,
    .mk4 18 none (.store 2 (.t 6) (.t 27)) none,
    .mk4 19 none (.store 2 (.t 7) (.t 28)) none,
    .mk4 20 (some 8) (.mv (.t 29)) none,
    .mk4 21 (some 9) (.mv (.t 30)) none] [6, 7, 9]) (c129_6)
def c129 : AFn := ⟨2, 60, [.tmp 4, .tmp 5],
  (.seq (.region 0 [.mk4 0 (some 2) (.box 4 (.t 0)) none,
    .mk4 1 (some 4) (.mv (.c (.map none))) none,
    .mk4 2 (some 5) (.mv (.c (.i 0))) none] [1, 2]) (c129_7))⟩
def c130_0 : AC :=
  .seq (.region 0 [.mk4 0 (some 23) (.mv (.t 12)) none,
    .mk4 1 (some 24) (.bin .neq (.t 23) (.c (.i 0))) none,
    .mk4 2 (some 25) (.mv (.t 24)) none,
    .mk4 3 (some 26) (.mv (.t 11)) (some (25, false)),
    .mk4 4 (some 27) (.bin .gtr (.t 26) (.c (.i 0))) (some (25, false)),
    .mk4 5 (some 28) (.pick (.t 25) (.c (.bool true)) (.t 27)) none,
    .mk4 6 (some 8) (.mv (.t 28)) none] [8]) (.ret)
def c130_1 : AC :=
  .seq (.region 0 [.mk4 0 (some 14) (.mv (.t 0)) none,
    .mk4 1 (some 15) (.mv (.t 1)) none,
    .mk4 2 (some 16) (.loadN 2 (.t 6)) none,
    .mk4 3 (some 17) (.loadN 2 (.t 7)) none,
    .mk4 4 (some 18) (.call 132 [(.t 14), (.t 15), (.t 16), (.t 17)]) none,
    .mk4 5 (some 13) (.mv (.t 18)) none,
    .mk4 6 (some 19) (.extract (.t 13) 0) none,
    .mk4 7 (some 20) (.extract (.t 13) 1) none,
    .mk4 8 (some 21) (.extract (.t 13) 2) none,
    .mk4 9 (some 22) (.extract (.t 13) 3) none,
    .mk4 10 (some 9) (.alloc 2 [.int .u32 0, .int .u32 0]) none,
    .mk4 11 (some 10) (.alloc 2 [.int .u32 0, .int .u32 0]) none,
    .mk4 12 none (.store 2 (.t 9) (.t 19)) none,
    .mk4 13 none (.store 2 (.t 10) (.t 20)) none,
    .mk4 14 (some 11) (.mv (.t 21)) none,
    .mk4 15 (some 12) (.mv (.t 22)) none] [11, 12]) (c130_0)
def c130 : AFn := ⟨4, 29, [.tmp 8],
  (.seq (.region 0 [.mk4 0 (some 6) (.box 2 (.t 2)) none,
    .mk4 1 (some 7) (.box 2 (.t 3)) none,
    .mk4 2 (some 8) (.mv (.c (.bool false))) none] [0, 1, 6, 7]) (c130_1))⟩
def c131_0 : AC :=
  .seq (.region 0 [.mk4 0 (some 5) (.loadN 2 (.t 2)) none,
    .mk4 1 (some 6) (.loadN 2 (.t 3)) none,
    .mk4 2 (some 7) (.call 134 [(.t 5), (.t 6)]) none,
    .mk4 3 (some 8) (.call 135 [(.t 7)]) none,
    .mk4 4 (some 9) (.bin .add (.t 8) (.c (.i 1))) none,
    .mk4 5 (some 4) (.mv (.t 9)) none] [4]) (.ret)
def c131 : AFn := ⟨2, 10, [.tmp 4],
  (.seq (.region 0 [.mk4 0 (some 2) (.box 2 (.t 0)) none,
    .mk4 1 (some 3) (.box 2 (.t 1)) none,
    .mk4 2 (some 4) (.mv (.c (.i 0))) none] [2, 3]) (c131_0))⟩
def c132_0 : AC :=
  .seq (.region 0 [.mk4 0 (some 63) (.loadN 2 (.t 9)) none,
    .mk4 1 (some 64) (.mv (.t 12)) none,
    .mk4 2 (some 65) (.call 49 [(.t 63), (.t 64)]) none,
    .mk4 3 (some 62) (.mv (.t 65)) none,
    .mk4 4 (some 66) (.extract (.t 62) 0) none,
    .mk4 5 (some 67) (.extract (.t 62) 1) none,
    .mk4 6 none (.store 2 (.t 9) (.t 66)) none] [10]) (.region 0 [.mk4 0 (some 68) (.load1 (.t 10)) none,
    .mk4 1 (some 69) (.bin .add (.t 68) (.c (.i 1))) none,
    .mk4 2 none (.store 1 (.t 10) (.t 69)) none] [])
def c132_1 : AC :=
  .seq (.region 0 [.mk4 0 (some 52) (.loadN 2 (.t 8)) none,
    .mk4 1 (some 53) (.mv (.t 12)) none,
    .mk4 2 (some 54) (.call 49 [(.t 52), (.t 53)]) none,
    .mk4 3 (some 51) (.mv (.t 54)) none,
    .mk4 4 (some 55) (.extract (.t 51) 0) none,
    .mk4 5 (some 56) (.extract (.t 51) 1) none,
    .mk4 6 none (.store 2 (.t 8) (.t 55)) none] [9, 10, 12, 13]) (.region 0 [.mk4 0 (some 57) (.load1 (.t 10)) none,
    .mk4 1 (some 58) (.bin .add (.t 57) (.c (.i 1))) none,
    .mk4 2 none (.store 1 (.t 10) (.t 58)) none] [9, 10, 12, 13])
def c132_2 : AC :=
  .seq (.seq (.region 0 [.mk4 0 (some 48) (.mv (.t 13)) none,
    .mk4 1 (some 49) (.bin .and (.t 48) (.c (.i 2))) none,
    .mk4 2 (some 50) (.bin .neq (.t 49) (.c (.i 0))) none] [8, 9, 10, 12, 13, 50]) (.cond (.t 50) (c132_1) (.skip))) (.seq (.region 0 [.mk4 0 (some 59) (.mv (.t 13)) none,
    .mk4 1 (some 60) (.bin .and (.t 59) (.c (.i 4))) none,
    .mk4 2 (some 61) (.bin .neq (.t 60) (.c (.i 0))) none] [9, 10, 12, 61]) (.cond (.t 61) (c132_0) (.skip)))
def c132_3 : AC :=
  .seq (.region 0 [.mk4 0 (some 42) (.mv (.t 13)) none,
    .mk4 1 (some 43) (.load1 (.t 4)) none,
    .mk4 2 (some 44) (.mv (.t 12)) none,
    .mk4 3 (some 45) (.call 46 [(.t 43), (.t 44)]) none,
    .mk4 4 (some 46) (.call 138 [(.t 45)]) none,
    .mk4 5 (some 47) (.bin .and (.t 42) (.t 46)) none,
    .mk4 6 (some 13) (.mv (.t 47)) none] [8, 9, 10, 12, 13]) (c132_2)
def c132_4 : AC :=
  .seq (.region 0 [.mk4 0 (some 70) (.loadN 2 (.t 8)) none,
    .mk4 1 (some 71) (.loadN 2 (.t 9)) none,
    .mk4 2 (some 72) (.load1 (.t 10)) none,
    ⟨3, none, .store 2 (.t 8) (.t 70), none, none, [(71, .loadN 2 (.t 9), none), (72, .load1 (.t 10), none)]⟩,
    ⟨4, none, .store 2 (.t 9) (.t 71), none, none, [(72, .load1 (.t 10), none)]⟩,
    .mk4 5 none (.store 1 (.t 10) (.t 72)) none,
    .mk4 6 (some 11) (.mv (.c (.i 0))) none] [8, 9, 10, 11]) (.ret)
def c132_5 : AC :=
  .seq (.region 0 [.mk4 0 (some 34) (.loadN 2 (.t 8)) none,
    .mk4 1 (some 35) (.loadN 2 (.t 9)) none,
    ⟨2, none, .store 2 (.t 8) (.t 34), none, none, [(35, .loadN 2 (.t 9), none)]⟩,
    .mk4 3 none (.store 2 (.t 9) (.t 35)) none,
    .mk4 4 none (.store 1 (.t 10) (.c (.i 0))) none,
    .mk4 5 (some 11) (.mv (.c (.i 110))) none] [8, 9, 10, 11]) (.ret)
def c132_6 : AC :=
  .seq (.region 0 [.mk4 0 (some 26) (.loadN 2 (.t 8)) none,
    .mk4 1 (some 27) (.loadN 2 (.t 9)) none,
    ⟨2, none, .store 2 (.t 8) (.t 26), none, none, [(27, .loadN 2 (.t 9), none)]⟩,
    .mk4 3 none (.store 2 (.t 9) (.t 27)) none,
    .mk4 4 none (.store 1 (.t 10) (.c (.i 0))) none,
    .mk4 5 (some 11) (.mv (.c (.i 2))) none] [8, 9, 10, 11]) (.ret)
def c132_7 : AC :=
  .seq (.region 0 [.mk4 0 (some 29) (.load1 (.t 4)) none,
    .mk4 1 (some 30) (.mv (.t 1)) none,
    .mk4 2 (some 31) (.loadN 2 (.t 6)) none,
    .mk4 3 (some 32) (.loadN 2 (.t 7)) none,
    .mk4 4 (some 33) (.call 136 [(.t 29), (.t 30), (.t 31), (.t 32)]) none,
    .mk4 5 (some 28) (.mv (.t 33)) none] [1, 4, 6, 7, 8, 9, 10, 28]) (.cond (.t 28) (c132_5) (.skip))
def c132_8 : AC :=
  .seq (.region 0 [.mk4 0 (some 17) (.loadN 2 (.t 8)) none,
    .mk4 1 (some 18) (.loadN 2 (.t 9)) none,
    ⟨2, none, .store 2 (.t 8) (.t 17), none, none, [(18, .loadN 2 (.t 9), none)]⟩,
    .mk4 3 none (.store 2 (.t 9) (.t 18)) none,
    .mk4 4 none (.store 1 (.t 10) (.c (.i 0))) none,
    .mk4 5 (some 11) (.mv (.c (.i 1))) none] [8, 9, 10, 11]) (.ret)
def c132_9 : AC :=
  .seq (.region 0 [.mk4 0 (some 20) (.mv (.t 1)) none,
    .mk4 1 (some 21) (.bin .lss (.t 20) (.c (.i 0))) none,
    .mk4 2 (some 22) (.mv (.t 21)) none,
    .mk4 3 (some 23) (.mv (.t 1)) (some (22, false)),
    .mk4 4 (some 24) (.bin .gtr (.t 23) (.c (.i 64))) (some (22, false)),
    .mk4 5 (some 25) (.pick (.t 22) (.c (.bool true)) (.t 24)) none,
    .mk4 6 (some 19) (.mv (.t 25)) none] [1, 4, 6, 7, 8, 9, 10, 19]) (.cond (.t 19) (c132_6) (c132_7))
def c132_10 : AC :=
  .seq (.seq (.region 0 [.mk4 0 (some 36) (.mv (.t 1)) none,
    .mk4 1 (some 37) (.loadN 2 (.t 6)) none,
    .mk4 2 (some 38) (.loadN 2 (.t 7)) none,
    .mk4 3 (some 39) (.call 137 [(.t 36), (.t 37), (.t 38)]) none] [4, 8, 9, 10, 39]) (.block 1 (.rangeFunc (.t 39) [40, 41] [4, 8, 9, 10] (.seq (.region 0 [.mk4 0 (some 12) (.mv (.t 40)) none] [4, 8, 9, 10, 12, 41]) (.region 0 [.mk4 0 (some 13) (.mv (.t 41)) none] [4, 8, 9, 10, 12, 13])) (.block 2 (c132_3))))) (c132_4)
def c132_11 : AC :=
  .seq (.region 0 [.mk4 0 (some 4) (.box 1 (.t 0)) none,
    .mk4 1 (some 6) (.box 2 (.t 2)) none,
    .mk4 2 (some 7) (.box 2 (.t 3)) none,
    .mk4 3 (some 8) (.alloc 2 [.int .u32 0, .int .u32 0]) none,
    .mk4 4 (some 9) (.alloc 2 [.int .u32 0, .int .u32 0]) none,
    .mk4 5 (some 10) (.alloc 1 [.i 0]) none,
    .mk4 6 (some 11) (.mv (.c (.i 0))) none] [1, 4, 6, 7, 8, 9, 10]) (.seq (.block 0 (.seq (.region 0 [.mk4 0 (some 15) (.load1 (.t 4)) none,
    .mk4 1 (some 16) (.eq .ptr false (.t 15) (.c (.ptr none))) none,
    .mk4 2 (some 14) (.mv (.t 16)) none] [1, 4, 6, 7, 8, 9, 10, 14]) (.cond (.t 14) (c132_8) (c132_9)))) (c132_10))
def c132 : AFn := ⟨4, 73, [.cellN 8 2, .cellN 9 2, .cell1 10, .tmp 11],
  (c132_11)⟩
def c133_0 : AC :=
  .seq (.region 0 [.mk4 0 (some 1) (.box 2 (.t 0)) none,
    .mk4 1 (some 2) (.mv (.c (.nils))) none] [1]) (.seq (.region 0 [.mk4 0 (some 3) (.loadN 2 (.t 1)) none,
    .mk4 1 (some 4) (.call 140 [(.t 3)]) none,
    .mk4 2 (some 5) (.call 139 [(.t 4)]) none,
    .mk4 3 (some 2) (.mv (.t 5)) none] [2]) (.ret))
def c133 : AFn := ⟨1, 6, [.tmp 2],
  (c133_0)⟩
def c134_0 : AC :=
  .seq (.region 0 [.mk4 0 (some 5) (.ixaA 2 1 (.t 2) (.c (.i 0))) none,
    .mk4 1 (some 6) (.load1 (.t 5)) none,
    .mk4 2 (some 7) (.ixaA 2 1 (.t 3) (.c (.i 0))) none,
    .mk4 3 (some 8) (.load1 (.t 7)) none,
    .mk4 4 (some 9) (.bin .or (.t 6) (.t 8)) none,
    .mk4 5 (some 10) (.ixaA 2 1 (.t 2) (.c (.i 1))) none,
    .mk4 6 (some 11) (.load1 (.t 10)) none,
    .mk4 7 (some 12) (.ixaA 2 1 (.t 3) (.c (.i 1))) none,
    .mk4 8 (some 13) (.load1 (.t 12)) none,
    .mk4 9 (some 14) (.bin .or (.t 11) (.t 13)) none,
    .mk4 10 (some 15) (.build [.int .u32 0, .int .u32 0] [(0, 1, (.t 9)), (1, 1, (.t 14))]) none,
    .mk4 11 none (.store 2 (.t 4) (.t 15)) none] [4]) (.ret)
def c134 : AFn := ⟨2, 16, [.cellN 4 2],
  (.seq (.region 0 [.mk4 0 (some 2) (.box 2 (.t 0)) none,
    .mk4 1 (some 3) (.box 2 (.t 1)) none,
    .mk4 2 (some 4) (.alloc 2 [.int .u32 0, .int .u32 0]) none] [2, 3, 4]) (c134_0))⟩
def c135_0 : AC :=
  .seq (.region 0 [.mk4 0 (some 6) (.ixaA 2 1 (.t 1) (.c (.i 1))) none,
    .mk4 1 (some 7) (.load1 (.t 6)) none,
    .mk4 2 (some 8) (.call 141 [(.t 7)]) none,
    .mk4 3 (some 9) (.bin .add (.c (.i 32)) (.t 8)) none,
    .mk4 4 (some 10) (.bin .sub (.t 9) (.c (.i 1))) none,
    .mk4 5 (some 2) (.mv (.t 10)) none] [2]) (.ret)
def c135_1 : AC :=
  .seq (.seq (.region 0 [.mk4 0 (some 3) (.ixaA 2 1 (.t 1) (.c (.i 1))) none,
    .mk4 1 (some 4) (.load1 (.t 3)) none,
    .mk4 2 (some 5) (.bin .neq (.t 4) (.c (.int .u32 0))) none] [1, 5]) (.cond (.t 5) (c135_0) (.skip))) (.seq (.region 0 [.mk4 0 (some 11) (.ixaA 2 1 (.t 1) (.c (.i 0))) none,
    .mk4 1 (some 12) (.load1 (.t 11)) none,
    .mk4 2 (some 13) (.call 141 [(.t 12)]) none,
    .mk4 3 (some 14) (.bin .sub (.t 13) (.c (.i 1))) none,
    .mk4 4 (some 2) (.mv (.t 14)) none] [2]) (.ret))
def c135 : AFn := ⟨1, 15, [.tmp 2],
  (.seq (.region 0 [.mk4 0 (some 1) (.box 2 (.t 0)) none,
    .mk4 1 (some 2) (.mv (.c (.i 0))) none] [1]) (c135_1))⟩
def c136_0 : AC :=
  .seq (.region 0 [.mk4 0 (some 17) (.load1 (.t 4)) none,
    .mk4 1 (some 18) (.mv (.t 10)) none,
    .mk4 2 (some 19) (.call 46 [(.t 17), (.t 18)]) none,
    .mk4 3 (some 20) (.field 0 none (.t 19)) none,
    .mk4 4 (some 21) (.un .not (.t 20)) none] [9, 21]) (.cond (.t 21) (.seq (.region 0 [.mk4 0 none (.store 1 (.t 9) (.c (.bool true))) none] []) (.exit 0)) (.skip))
def c136_1 : AC :=
  .seq (.seq (.region 0 [.mk4 0 (some 11) (.mv (.t 1)) none,
    .mk4 1 (some 12) (.loadN 2 (.t 6)) none,
    .mk4 2 (some 13) (.loadN 2 (.t 7)) none,
    .mk4 3 (some 14) (.call 137 [(.t 11), (.t 12), (.t 13)]) none] [4, 9, 14]) (.block 0 (.rangeFunc (.t 14) [15, 16] [4, 9] (.region 0 [.mk4 0 (some 10) (.mv (.t 15)) none] [4, 9, 10]) (.block 1 (c136_0))))) (.seq (.region 0 [.mk4 0 (some 22) (.load1 (.t 9)) none,
    .mk4 1 (some 8) (.mv (.t 22)) none] [8]) (.ret))
def c136_2 : AC :=
  .seq (.region 0 [.mk4 0 (some 4) (.box 1 (.t 0)) none,
    .mk4 1 (some 6) (.box 2 (.t 2)) none,
    .mk4 2 (some 7) (.box 2 (.t 3)) none,
    .mk4 3 (some 8) (.mv (.c (.bool false))) none] [1, 4, 6, 7]) (.scope (.seq (.region 0 [.mk4 0 (some 9) (.alloc 1 [.bool false]) none,
    .mk4 1 none (.store 1 (.t 9) (.c (.bool false))) none] [1, 4, 6, 7, 9]) (.seq (.label 0) (c136_1))))
def c136 : AFn := ⟨4, 23, [.tmp 8],
  (c136_2)⟩
def c137_0 : AC :=
  .seq (.region 0 [.mk4 0 (some 3) (.box 1 (.t 0)) none,
    .mk4 1 (some 4) (.box 2 (.t 1)) none,
    .mk4 2 (some 5) (.box 2 (.t 2)) none,
    .mk4 3 (some 6) (.mv (.c (.nilfn))) none] [3, 4, 5]) (.seq (.region 0 [.mk4 0 (some 7) (.mkClo 142 [(.t 4), (.t 5), (.t 3)]) none,
    .mk4 1 (some 6) (.mv (.t 7)) none] [6]) (.ret))
def c137 : AFn := ⟨3, 8, [.tmp 6],
  (c137_0)⟩
def c138_0 : AC :=
  .seq (.seq (.region 0 [.mk4 0 (some 16) (.faddr 2 (.t 1)) none,
    .mk4 1 (some 17) (.load1 (.t 16)) none,
    .mk4 2 (some 18) (.mv (.t 17)) none,
    .mk4 3 (some 19) (.faddr 3 (.t 1)) (some (18, false)),
    .mk4 4 (some 20) (.load1 (.t 19)) (some (18, false)),
    .mk4 5 (some 21) (.pick (.t 18) (.c (.bool true)) (.t 20)) none,
    .mk4 6 (some 22) (.mv (.t 21)) none,
    .mk4 7 (some 23) (.faddr 4 (.t 1)) (some (22, false)),
    .mk4 8 (some 24) (.load1 (.t 23)) (some (22, false)),
    .mk4 9 (some 25) (.pick (.t 22) (.c (.bool true)) (.t 24)) none] [3, 25]) (.cond (.t 25) (.region 0 [.mk4 0 (some 26) (.mv (.t 3)) none,
    .mk4 1 (some 27) (.bin .or (.t 26) (.c (.i 4))) none,
    .mk4 2 (some 3) (.mv (.t 27)) none] [3]) (.skip))) (.seq (.region 0 [.mk4 0 (some 28) (.mv (.t 3)) none,
    .mk4 1 (some 2) (.mv (.t 28)) none] [2]) (.ret))
def c138_1 : AC :=
  .seq (.seq (.region 0 [.mk4 0 (some 4) (.faddr 1 (.t 1)) none,
    .mk4 1 (some 5) (.load1 (.t 4)) none,
    .mk4 2 (some 6) (.mv (.t 5)) none,
    .mk4 3 (some 7) (.faddr 3 (.t 1)) (some (6, false)),
    .mk4 4 (some 8) (.load1 (.t 7)) (some (6, false)),
    .mk4 5 (some 9) (.pick (.t 6) (.c (.bool true)) (.t 8)) none,
    .mk4 6 (some 10) (.mv (.t 9)) none,
    .mk4 7 (some 11) (.faddr 4 (.t 1)) (some (10, false)),
    .mk4 8 (some 12) (.load1 (.t 11)) (some (10, false)),
    .mk4 9 (some 13) (.pick (.t 10) (.c (.bool true)) (.t 12)) none] [1, 3, 13]) (.cond (.t 13) (.region 0 [.mk4 0 (some 14) (.mv (.t 3)) none,
    .mk4 1 (some 15) (.bin .or (.t 14) (.c (.i 2))) none,
    .mk4 2 (some 3) (.mv (.t 15)) none] [1, 3]) (.skip))) (c138_0)
def c138 : AFn := ⟨1, 29, [.tmp 2],
  (.seq (.region 0 [.mk4 0 (some 1) (.box 7 (.t 0)) none,
    .mk4 1 (some 2) (.mv (.c (.i 0))) none] [1]) (.seq (.region 0 [.mk4 0 (some 3) (.mv (.c (.i 0))) none] [1, 3]) (c138_1)))⟩
def c139 : AFn := ⟨1, 5, [.tmp 2],
  (.seq (.region 0 [.mk4 0 (some 2) (.mv (.c (.nils))) none] [0]) (.seq (.region 0 [.mk4 0 (some 3) (.mv (.t 0)) none,
    .mk4 1 (some 4) (.call 145 [(.c (.nils)), (.t 3)]) none,
    .mk4 2 (some 2) (.mv (.t 4)) none] [2]) (.ret)))⟩
def c140 : AFn := ⟨1, 4, [.tmp 2],
  (.seq (.region 0 [.mk4 0 (some 1) (.box 2 (.t 0)) none,
    .mk4 1 (some 2) (.mv (.c (.nilfn))) none] [1]) (.seq (.region 0 [.mk4 0 (some 3) (.mkClo 146 [(.t 1)]) none,
    .mk4 1 (some 2) (.mv (.t 3)) none] [2]) (.ret)))⟩
def c141_0 : AC :=
  .seq (.region 0 [.mk4 0 (some 9) (.mv (.t 0)) none,
    .mk4 1 (some 10) (.bin .shr (.t 9) (.c (.int .u64 8))) none,
    .mk4 2 (some 0) (.mv (.t 10)) none] [0, 2]) (.region 0 [.mk4 0 (some 11) (.mv (.t 2)) none,
    .mk4 1 (some 12) (.bin .add (.t 11) (.c (.i 8))) none,
    .mk4 2 (some 2) (.mv (.t 12)) none] [0, 2])
def c141_1 : AC :=
  .seq (.region 0 [.mk4 0 (some 13) (.mv (.t 2)) none,
    .mk4 1 (some 14) (.mv (.t 0)) none,
    .mk4 2 (some 15) (.convInt .u8 (.t 14)) none,
    .mk4 3 (some 16) (.ixStr (.c (.str [0, 1, 2, 2, 3, 3, 3, 3, 4, 4, 4, 4, 4, 4, 4, 4, 5, 5, 5, 5, 5, 5, 5, 5, 5, 5, 5, 5, 5, 5, 5, 5, 6, 6, 6, 6, 6, 6, 6, 6, 6, 6, 6, 6, 6, 6, 6, 6, 6, 6, 6, 6, 6, 6, 6, 6, 6, 6, 6, 6, 6, 6, 6, 6, 7, 7, 7, 7, 7, 7, 7, 7, 7, 7, 7, 7, 7, 7, 7, 7, 7, 7, 7, 7, 7, 7, 7, 7, 7, 7, 7, 7, 7, 7, 7, 7, 7, 7, 7, 7, 7, 7, 7, 7, 7, 7, 7, 7, 7, 7, 7, 7, 7, 7, 7, 7, 7, 7, 7, 7, 7, 7, 7, 7, 7, 7, 7, 7, 8, 8, 8, 8, 8, 8, 8, 8, 8, 8, 8, 8, 8, 8, 8, 8, 8, 8, 8, 8, 8, 8, 8, 8, 8, 8, 8, 8, 8, 8, 8, 8, 8, 8, 8, 8, 8, 8, 8, 8, 8, 8, 8, 8, 8, 8, 8, 8, 8, 8, 8, 8, 8, 8, 8, 8, 8, 8, 8, 8, 8, 8, 8, 8, 8, 8, 8, 8, 8, 8, 8, 8, 8, 8, 8, 8, 8, 8, 8, 8, 8, 8, 8, 8, 8, 8, 8, 8, 8, 8, 8, 8, 8, 8, 8, 8, 8, 8, 8, 8, 8, 8, 8, 8, 8, 8, 8, 8, 8, 8, 8, 8, 8, 8, 8, 8, 8, 8, 8, 8, 8, 8, 8, 8, 8, 8, 8, 8])) (.t 15)) none,
    .mk4 4 (some 17) (.convInt .i64 (.t 16)) none,
    .mk4 5 (some 18) (.bin .add (.t 13) (.t 17)) none,
    .mk4 6 (some 2) (.mv (.t 18)) none] [2]) (.ret)
def c141_2 : AC :=
  .seq (.seq (.region 0 [.mk4 0 (some 3) (.mv (.t 0)) none,
    .mk4 1 (some 4) (.bin .geq (.t 3) (.c (.int .u32 65536))) none] [0, 2, 4]) (.cond (.t 4) (.seq (.region 0 [.mk4 0 (some 5) (.mv (.t 0)) none,
    .mk4 1 (some 6) (.bin .shr (.t 5) (.c (.int .u64 16))) none,
    .mk4 2 (some 0) (.mv (.t 6)) none] [0]) (.region 0 [.mk4 0 (some 2) (.mv (.c (.i 16))) none] [0, 2])) (.skip))) (.seq (.seq (.region 0 [.mk4 0 (some 7) (.mv (.t 0)) none,
    .mk4 1 (some 8) (.bin .geq (.t 7) (.c (.int .u32 256))) none] [0, 2, 8]) (.cond (.t 8) (c141_0) (.skip))) (c141_1))
def c141 : AFn := ⟨1, 19, [.tmp 2],
  (.seq (.region 0 [.mk4 0 (some 2) (.mv (.c (.i 0))) none] [0, 2]) (c141_2))⟩
def c142_0 : AC :=
  .seq (.seq (.region 0 [.mk4 0 (some 24) (.loadN 2 (.t 2)) none,
    .mk4 1 (some 25) (.mv (.t 6)) none,
    .mk4 2 (some 26) (.call 144 [(.t 24), (.t 25)]) none] [0, 1, 2, 6, 7, 13, 14, 15, 26]) (.cond (.t 26) (.region 0 [.mk4 0 (some 27) (.mv (.t 7)) none,
    .mk4 1 (some 28) (.bin .or (.t 27) (.c (.i 4))) none,
    .mk4 2 (some 7) (.mv (.t 28)) none] [0, 1, 2, 6, 7, 13, 14, 15]) (.skip))) (.seq (.region 0 [.mk4 0 (some 29) (.mv (.t 0)) none,
    .mk4 1 (some 30) (.mv (.t 6)) none,
    .mk4 2 (some 31) (.mv (.t 7)) none,
    .mk4 3 (some 32) (.callv (.t 29) [(.t 30), (.t 31)]) none,
    .mk4 4 (some 33) (.un .not (.t 32)) none] [0, 1, 2, 13, 14, 15, 33]) (.cond (.t 33) (.ret) (.skip)))
def c142_1 : AC :=
  .seq (.seq (.region 0 [.mk4 0 (some 19) (.loadN 2 (.t 1)) none,
    .mk4 1 (some 20) (.mv (.t 6)) none,
    .mk4 2 (some 21) (.call 144 [(.t 19), (.t 20)]) none] [0, 1, 2, 6, 7, 13, 14, 15, 21]) (.cond (.t 21) (.region 0 [.mk4 0 (some 22) (.mv (.t 7)) none,
    .mk4 1 (some 23) (.bin .or (.t 22) (.c (.i 2))) none,
    .mk4 2 (some 7) (.mv (.t 23)) none] [0, 1, 2, 6, 7, 13, 14, 15]) (.skip))) (c142_0)
def c142_2 : AC :=
  .seq (.block 1 (.seq (.region 0 [.mk4 0 (some 17) (.ixaS 1 (.t 13) (.t 15)) none,
    .mk4 1 (some 18) (.load1 (.t 17)) none,
    .mk4 2 (some 6) (.mv (.t 18)) none] [0, 1, 2, 6, 13, 14, 15]) (.seq (.region 0 [.mk4 0 (some 7) (.mv (.c (.i 0))) none] [0, 1, 2, 6, 7, 13, 14, 15]) (c142_1)))) (.region 0 [.mk4 0 (some 34) (.bin .add (.t 15) (.c (.i 1))) none,
    .mk4 1 (some 15) (.mv (.t 34)) none] [0, 1, 2, 13, 14, 15])
def c142_3 : AC :=
  .seq (.region 0 [.mk4 0 (some 8) (.loadN 2 (.t 1)) none,
    .mk4 1 (some 9) (.loadN 2 (.t 2)) none,
    .mk4 3 (some 11) (.load1 (.t 3)) none,
    .mk4 7 (some 15) (.mv (.c (.i 0))) none,
    ⟨2, (some 10), .call 134 [(.t 8), (.t 9)], none, none, [(11, .load1 (.t 3), none)]⟩,
    .mk4 4 (some 12) (.call 143 [(.t 10), (.t 11)]) none,
    .mk4 5 (some 13) (.call 133 [(.t 12)]) none,
    .mk4 6 (some 14) (.lenL (.t 13)) none] [0, 1, 2, 13, 14, 15]) (.block 0 (.loop [0, 1, 2, 13, 14, 15] (.seq (.region 0 [.mk4 0 (some 16) (.bin .lss (.t 15) (.t 14)) none] [0, 1, 2, 13, 14, 15, 16]) (.seq (.cond (.t 16) (.skip) (.exit 0)) (c142_2)))))
def c142 : AFn := ⟨4, 35, [],
  (c142_3)⟩
def c143_0 : AC :=
  .seq (.region 0 [.mk4 0 (some 9) (.mv (.t 5)) none,
    .mk4 1 (some 10) (.load1 (.t 3)) none,
    .mk4 2 (some 11) (.bin .geq (.t 9) (.t 10)) none] [2, 5, 11]) (.cond (.t 11) (.region 0 [.mk4 0 (some 12) (.loadN 2 (.t 2)) none,
    .mk4 1 (some 13) (.mv (.t 5)) none,
    .mk4 2 (some 14) (.call 147 [(.t 12), (.t 13)]) none,
    .mk4 3 none (.store 2 (.t 2) (.t 14)) none] []) (.skip))
def c143_1 : AC :=
  .seq (.seq (.region 0 [.mk4 0 (some 6) (.loadN 2 (.t 2)) none,
    .mk4 1 (some 7) (.call 140 [(.t 6)]) none] [2, 3, 4, 7]) (.block 0 (.rangeFunc (.t 7) [8] [2, 3] (.region 0 [.mk4 0 (some 5) (.mv (.t 8)) none] [2, 3, 5]) (.block 1 (c143_0))))) (.seq (.region 0 [.mk4 0 (some 15) (.loadN 2 (.t 2)) none,
    .mk4 1 none (.store 2 (.t 4) (.t 15)) none] [4]) (.ret))
def c143 : AFn := ⟨2, 16, [.cellN 4 2],
  (.seq (.region 0 [.mk4 0 (some 2) (.box 2 (.t 0)) none,
    .mk4 1 (some 3) (.box 1 (.t 1)) none,
    .mk4 2 (some 4) (.alloc 2 [.int .u32 0, .int .u32 0]) none] [2, 3, 4]) (c143_1))⟩
def c144_0 : AC :=
  .seq (.region 0 [.mk4 0 (some 5) (.mv (.t 1)) none,
    .mk4 1 (some 6) (.call 68 [(.t 5)]) none,
    .mk4 2 (some 7) (.mv (.t 6)) none,
    .mk4 3 (some 8) (.mv (.t 1)) (some (7, true)),
    .mk4 4 (some 9) (.bin .quo (.t 8) (.c (.i 32))) (some (7, true)),
    .mk4 5 (some 10) (.ixaA 2 1 (.t 2) (.t 9)) (some (7, true)),
    .mk4 6 (some 11) (.load1 (.t 10)) (some (7, true)),
    .mk4 7 (some 12) (.mv (.t 1)) (some (7, true)),
    .mk4 8 (some 13) (.bin .rem (.t 12) (.c (.i 32))) (some (7, true)),
    .mk4 9 (some 14) (.bin .shr (.t 11) (.t 13)) (some (7, true)),
    .mk4 10 (some 15) (.bin .and (.t 14) (.c (.int .u32 1))) (some (7, true)),
    .mk4 11 (some 16) (.bin .eql (.t 15) (.c (.int .u32 1))) (some (7, true)),
    .mk4 12 (some 17) (.pick (.t 7) (.t 16) (.c (.bool false))) none,
    .mk4 13 (some 4) (.mv (.t 17)) none] [4]) (.ret)
def c144 : AFn := ⟨2, 18, [.tmp 4],
  (.seq (.region 0 [.mk4 0 (some 2) (.box 2 (.t 0)) none,
    .mk4 1 (some 4) (.mv (.c (.bool false))) none] [1, 2]) (c144_0))⟩
def c145_0 : AC :=
  .rangeFunc (.t 6) [7] [2] (.region 0 [.mk4 0 (some 5) (.mv (.t 7)) none] [2, 5]) (.block 1 (.region 0 [.mk4 0 (some 8) (.load1 (.t 2)) none,
    .mk4 1 (some 9) (.mv (.t 5)) none,
    .mk4 2 (some 10) (.bslice 1 1 [.i 0] [(0, (.t 9))]) none,
    .mk4 3 (some 11) (.append 1 8 (.t 8) (.t 10)) none,
    .mk4 4 none (.store 1 (.t 2) (.t 11)) none] []))
def c145_1 : AC :=
  .seq (.region 0 [.mk4 0 (some 2) (.box 1 (.t 0)) none,
    .mk4 1 (some 4) (.mv (.c (.nils))) none] [1, 2]) (.seq (.seq (.region 0 [.mk4 0 (some 6) (.mv (.t 1)) none] [2, 6]) (.block 0 (c145_0))) (.seq (.region 0 [.mk4 0 (some 12) (.load1 (.t 2)) none,
    .mk4 1 (some 4) (.mv (.t 12)) none] [4]) (.ret)))
def c145 : AFn := ⟨2, 13, [.tmp 4],
  (c145_1)⟩
def c146_0 : AC :=
  .seq (.region 0 [.mk4 0 (some 7) (.loadN 2 (.t 1)) none,
    .mk4 1 (some 8) (.mv (.t 3)) none,
    .mk4 2 (some 9) (.call 144 [(.t 7), (.t 8)]) none,
    .mk4 3 (some 10) (.mv (.t 9)) none,
    .mk4 4 (some 11) (.mv (.t 0)) (some (10, true)),
    .mk4 5 (some 12) (.mv (.t 3)) (some (10, true)),
    .mk4 6 (some 13) (.callv (.t 11) [(.t 12)]) (some (10, true)),
    .mk4 7 (some 14) (.un .not (.t 13)) (some (10, true)),
    .mk4 8 (some 15) (.pick (.t 10) (.t 14) (.c (.bool false))) none] [0, 1, 4, 15]) (.cond (.t 15) (.ret) (.skip))
def c146_1 : AC :=
  .seq (.region 0 [.mk4 0 (some 5) (.bin .lss (.t 4) (.c (.i 64))) none] [0, 1, 4, 5]) (.seq (.cond (.t 5) (.skip) (.exit 0)) (.seq (.block 1 (.seq (.region 0 [.mk4 0 (some 6) (.mv (.t 4)) none,
    .mk4 1 (some 3) (.mv (.t 6)) none] [0, 1, 3, 4]) (c146_0))) (.region 0 [.mk4 0 (some 16) (.bin .add (.t 4) (.c (.i 1))) none,
    .mk4 1 (some 4) (.mv (.t 16)) none] [0, 1, 4])))
def c146 : AFn := ⟨2, 17, [],
  (.seq (.region 0 [.mk4 0 (some 4) (.mv (.c (.i 0))) none] [0, 1, 4]) (.block 0 (.loop [0, 1, 4] (c146_1))))⟩
def c147_0 : AC :=
  .region 0 [.mk4 0 (some 7) (.mv (.t 1)) none,
    .mk4 1 (some 8) (.bin .quo (.t 7) (.c (.i 32))) none,
    .mk4 2 (some 9) (.ixaA 2 1 (.t 2) (.t 8)) none,
    .mk4 3 (some 10) (.load1 (.t 9)) none,
    .mk4 4 (some 11) (.mv (.t 1)) none,
    .mk4 5 (some 12) (.bin .rem (.t 11) (.c (.i 32))) none,
    .mk4 6 (some 13) (.bin .shl (.c (.int .u32 1)) (.t 12)) none,
    .mk4 7 (some 14) (.bin .andNot (.t 10) (.t 13)) none,
    .mk4 8 (some 15) (.ixaA 2 1 (.t 2) (.t 8)) none,
    .mk4 9 none (.store 1 (.t 15) (.t 14)) none] [2, 4]
def c147_1 : AC :=
  .seq (.region 0 [.mk4 0 (some 2) (.box 2 (.t 0)) none,
    .mk4 1 (some 4) (.alloc 2 [.int .u32 0, .int .u32 0]) none] [1, 2, 4]) (.seq (.seq (.region 0 [.mk4 0 (some 5) (.mv (.t 1)) none,
    .mk4 1 (some 6) (.call 68 [(.t 5)]) none] [1, 2, 4, 6]) (.cond (.t 6) (c147_0) (.skip))) (.seq (.region 0 [.mk4 0 (some 16) (.loadN 2 (.t 2)) none,
    .mk4 1 none (.store 2 (.t 4) (.t 16)) none] [4]) (.ret)))
def c147 : AFn := ⟨2, 17, [.cellN 4 2],
  (c147_1)⟩
def c148 : AFn := ⟨2, 8, [.tmp 4],
  (.seq (.region 0 [.mk4 0 (some 4) (.mv (.c (.bool false))) none] [0, 1]) (.seq (.region 0 [.mk4 0 (some 5) (.mv (.t 1)) none,
    .mk4 1 (some 6) (.mv (.t 0)) none,
    .mk4 2 (some 7) (.call 150 [(.t 5), (.t 6)]) none,
    .mk4 3 (some 4) (.mv (.t 7)) none] [4]) (.ret)))⟩
def c149_0 : AC :=
  .region 0 [.mk4 0 (some 57) (.mv (.t 9)) none,
    .mk4 1 (some 58) (.mv (.t 0)) none,
    .mk4 2 (some 59) (.mv (.t 10)) none,
    .mk4 3 (some 60) (.ixaS 2 (.t 58) (.t 59)) none,
    .mk4 4 (some 61) (.faddr 0 (.t 60)) none,
    .mk4 5 (some 62) (.load1 (.t 61)) none,
    .mk4 6 (some 63) (.mv (.t 13)) none,
    .mk4 7 none (.mput (.leaf (.int .i64)) (.t 57) (.t 62) (.t 63)) none] [0, 8, 9, 23, 24, 25]
def c149_1 : AC :=
  .seq (.seq (.region 0 [.mk4 0 (some 54) (.mv (.t 14)) none,
    .mk4 1 (some 55) (.bin .neq (.t 54) (.c (.i 0))) none] [0, 8, 9, 10, 13, 14, 23, 24, 25, 55]) (.cond (.t 55) (.seq (.region 0 [.mk4 0 (some 56) (.mv (.t 14)) none,
    .mk4 1 (some 4) (.mv (.c (.map none))) none,
    .mk4 2 (some 5) (.mv (.t 56)) none] [4, 5]) (.ret)) (.skip))) (c149_0)
def c149_2 : AC :=
  .seq (.region 0 [.mk4 0 (some 49) (.mv (.t 12)) none,
    .mk4 1 (some 50) (.mv (.t 11)) none,
    .mk4 2 (some 51) (.call 152 [(.t 49), (.t 50)]) none,
    .mk4 3 (some 48) (.mv (.t 51)) none,
    .mk4 4 (some 52) (.extract (.t 48) 0) none,
    .mk4 5 (some 53) (.extract (.t 48) 1) none,
    .mk4 6 (some 13) (.mv (.t 52)) none,
    .mk4 7 (some 14) (.mv (.t 53)) none] [0, 8, 9, 10, 13, 14, 23, 24, 25]) (c149_1)
def c149_3 : AC :=
  .seq (.seq (.region 0 [.mk4 0 (some 39) (.mv (.t 0)) none,
    .mk4 1 (some 40) (.mv (.t 10)) none,
    .mk4 2 (some 41) (.ixaS 2 (.t 39) (.t 40)) none,
    .mk4 3 (some 42) (.faddr 1 (.t 41)) none,
    .mk4 4 (some 43) (.load1 (.t 42)) none,
    .mk4 5 (some 44) (.bin .and (.t 43) (.c (.i 4))) none,
    .mk4 6 (some 45) (.bin .neq (.t 44) (.c (.i 0))) none] [0, 8, 9, 10, 11, 12, 23, 24, 25, 45]) (.cond (.t 45) (.region 0 [.mk4 0 (some 46) (.mv (.t 12)) none,
    .mk4 1 (some 47) (.bin .or (.t 46) (.c (.i 4))) none,
    .mk4 2 (some 12) (.mv (.t 47)) none] [0, 8, 9, 10, 11, 12, 23, 24, 25]) (.skip))) (c149_2)
def c149_4 : AC :=
  .seq (.seq (.region 0 [.mk4 0 (some 30) (.mv (.t 0)) none,
    .mk4 1 (some 31) (.mv (.t 10)) none,
    .mk4 2 (some 32) (.ixaS 2 (.t 30) (.t 31)) none,
    .mk4 3 (some 33) (.faddr 1 (.t 32)) none,
    .mk4 4 (some 34) (.load1 (.t 33)) none,
    .mk4 5 (some 35) (.bin .and (.t 34) (.c (.i 1))) none,
    .mk4 6 (some 36) (.bin .neq (.t 35) (.c (.i 0))) none] [0, 8, 9, 10, 11, 12, 23, 24, 25, 36]) (.cond (.t 36) (.region 0 [.mk4 0 (some 37) (.mv (.t 12)) none,
    .mk4 1 (some 38) (.bin .or (.t 37) (.c (.i 2))) none,
    .mk4 2 (some 12) (.mv (.t 38)) none] [0, 8, 9, 10, 11, 12, 23, 24, 25]) (.skip))) (c149_3)
def c149_5 : AC :=
  .seq (.region 0 [.mk4 0 (some 27) (.mv (.t 25)) none,
    .mk4 1 (some 28) (.ixaS 1 (.t 23) (.t 25)) none,
    .mk4 2 (some 29) (.load1 (.t 28)) none,
    .mk4 3 (some 10) (.mv (.t 27)) none,
    .mk4 4 (some 11) (.mv (.t 29)) none] [0, 8, 9, 10, 11, 23, 24, 25]) (.seq (.region 0 [.mk4 0 (some 12) (.mv (.c (.i 0))) none] [0, 8, 9, 10, 11, 12, 23, 24, 25]) (c149_4))
def c149_6 : AC :=
  .loop [0, 8, 9, 23, 24, 25] (.seq (.region 0 [.mk4 0 (some 26) (.bin .lss (.t 25) (.t 24)) none] [0, 8, 9, 23, 24, 25, 26]) (.seq (.cond (.t 26) (.skip) (.exit 0)) (.seq (.block 1 (c149_5)) (.region 0 [.mk4 0 (some 64) (.bin .add (.t 25) (.c (.i 1))) none,
    .mk4 1 (some 25) (.mv (.t 64)) none] [0, 8, 9, 23, 24, 25]))))
def c149_7 : AC :=
  .seq (.seq (.region 0 [.mk4 0 (some 23) (.mv (.t 6)) none,
    .mk4 1 (some 24) (.lenL (.t 23)) none,
    .mk4 2 (some 25) (.mv (.c (.i 0))) none] [0, 8, 9, 23, 24, 25]) (.block 0 (c149_6))) (.seq (.region 0 [.mk4 0 (some 65) (.mv (.t 9)) none,
    .mk4 1 (some 66) (.mv (.t 8)) none,
    .mk4 2 (some 4) (.mv (.t 65)) none,
    .mk4 3 (some 5) (.mv (.t 66)) none] [4, 5]) (.ret))
def c149_8 : AC :=
  .seq (.region 0 [.mk4 0 (some 16) (.mv (.t 1)) none,
    .mk4 1 (some 17) (.mv (.t 0)) none,
    .mk4 2 (some 18) (.call 151 [(.t 16), (.t 17)]) none,
    .mk4 3 (some 15) (.mv (.t 18)) none,
    .mk4 4 (some 19) (.extract (.t 15) 0) none,
    .mk4 5 (some 20) (.extract (.t 15) 1) none,
    .mk4 6 (some 21) (.extract (.t 15) 2) none,
    .mk4 7 (some 6) (.mv (.t 19)) none,
    .mk4 8 (some 7) (.mv (.t 20)) none,
    .mk4 9 (some 8) (.mv (.t 21)) none] [0, 6, 8]) (.seq (.region 0 [.mk4 0 (some 22) (.mkMap) none,
    .mk4 1 (some 9) (.mv (.t 22)) none] [0, 6, 8, 9]) (c149_7))
def c149 : AFn := ⟨2, 67, [.tmp 4, .tmp 5],
  (.seq (.region 0 [.mk4 0 (some 4) (.mv (.c (.map none))) none,
    .mk4 1 (some 5) (.mv (.c (.i 0))) none] [0, 1]) (c149_8))⟩
def c150_0 : AC :=
  .rangeFunc (.t 13) [14] [5] (.region 0 [.mk4 0 (some 6) (.mv (.t 14)) none] [5, 6]) (.block 1 (.seq (.region 0 [.mk4 0 (some 15) (.mv (.t 6)) none,
    .mk4 1 (some 16) (.bin .neq (.t 15) (.c (.i 0))) none] [5, 16]) (.cond (.t 16) (.seq (.region 0 [.mk4 0 none (.store 1 (.t 5) (.c (.bool true))) none] []) (.exit 0)) (.skip))))
def c150_1 : AC :=
  .seq (.label 0) (.seq (.seq (.region 0 [.mk4 0 (some 11) (.mv (.t 0)) none,
    .mk4 1 (some 12) (.mv (.t 1)) none,
    .mk4 2 (some 13) (.call 154 [(.t 11), (.t 12)]) none] [5, 13]) (.block 0 (c150_0))) (.seq (.region 0 [.mk4 0 (some 17) (.load1 (.t 5)) none,
    .mk4 1 (some 4) (.mv (.t 17)) none] [4]) (.ret)))
def c150_2 : AC :=
  .scope (.seq (.seq (.region 0 [.mk4 0 (some 7) (.mv (.t 0)) none,
    .mk4 1 (some 8) (.mv (.t 1)) none,
    .mk4 2 (some 9) (.call 153 [(.t 7), (.t 8)]) none,
    .mk4 3 (some 10) (.bin .neq (.t 9) (.c (.i 0))) none] [0, 1, 10]) (.cond (.t 10) (.seq (.region 0 [.mk4 0 (some 4) (.mv (.c (.bool true))) none] [4]) (.ret)) (.skip))) (.seq (.region 0 [.mk4 0 (some 5) (.alloc 1 [.bool false]) none,
    .mk4 1 none (.store 1 (.t 5) (.c (.bool false))) none] [0, 1, 5]) (c150_1)))
def c150 : AFn := ⟨2, 18, [.tmp 4],
  (.seq (.region 0 [.mk4 0 (some 4) (.mv (.c (.bool false))) none] [0, 1]) (c150_2))⟩
def c151_0 : AC :=
  .seq (.region 0 [.mk4 0 (some 21) (.load1 (.t 8)) none,
    .mk4 1 (some 22) (.mv (.t 10)) none,
    .mk4 2 (some 23) (.bslice 1 1 [.i 0] [(0, (.t 22))]) none,
    .mk4 3 (some 24) (.append 1 8 (.t 21) (.t 23)) none,
    .mk4 4 none (.store 1 (.t 8) (.t 24)) none] [9, 10]) (.region 0 [.mk4 0 (some 25) (.load1 (.t 9)) none,
    .mk4 1 (some 26) (.mv (.t 10)) none,
    .mk4 2 (some 27) (.minI [(.t 26), (.c (.i 1))]) none,
    .mk4 3 (some 28) (.bin .add (.t 25) (.t 27)) none,
    .mk4 4 none (.store 1 (.t 9) (.t 28)) none] [])
def c151_1 : AC :=
  .seq (.seq (.region 0 [.mk4 0 (some 17) (.mv (.t 0)) none,
    .mk4 1 (some 18) (.mv (.t 1)) none,
    .mk4 2 (some 19) (.call 154 [(.t 17), (.t 18)]) none] [8, 9, 19]) (.block 0 (.rangeFunc (.t 19) [20] [8, 9] (.region 0 [.mk4 0 (some 10) (.mv (.t 20)) none] [8, 9, 10]) (.block 1 (c151_0))))) (.seq (.region 0 [.mk4 0 (some 29) (.load1 (.t 8)) none,
    .mk4 1 (some 30) (.load1 (.t 9)) none,
    .mk4 2 (some 4) (.mv (.t 29)) none,
    .mk4 3 (some 5) (.mv (.t 30)) none,
    .mk4 4 (some 6) (.mv (.c (.i 0))) none] [4, 5, 6]) (.ret))
def c151_2 : AC :=
  .seq (.region 0 [.mk4 0 (some 14) (.mv (.t 7)) none,
    .mk4 1 (some 15) (.bin .neq (.t 14) (.c (.i 0))) none] [0, 1, 7, 15]) (.cond (.t 15) (.seq (.region 0 [.mk4 0 (some 16) (.mv (.t 7)) none,
    .mk4 1 (some 4) (.mv (.c (.nils))) none,
    .mk4 2 (some 5) (.mv (.c (.i 0))) none,
    .mk4 3 (some 6) (.mv (.t 16)) none] [4, 5, 6]) (.ret)) (.skip))
def c151_3 : AC :=
  .seq (.seq (.region 0 [.mk4 0 (some 11) (.mv (.t 0)) none,
    .mk4 1 (some 12) (.mv (.t 1)) none,
    .mk4 2 (some 13) (.call 153 [(.t 11), (.t 12)]) none,
    .mk4 3 (some 7) (.mv (.t 13)) none] [0, 1, 7]) (c151_2)) (.seq (.region 0 [.mk4 0 (some 8) (.alloc 1 [.nils]) none] [0, 1, 8]) (.seq (.region 0 [.mk4 0 (some 9) (.alloc 1 [.i 0]) none,
    .mk4 1 none (.store 1 (.t 9) (.c (.i 0))) none] [0, 1, 8, 9]) (c151_1)))
def c151 : AFn := ⟨2, 31, [.tmp 4, .tmp 5, .tmp 6],
  (.seq (.region 0 [.mk4 0 (some 4) (.mv (.c (.nils))) none,
    .mk4 1 (some 5) (.mv (.c (.i 0))) none,
    .mk4 2 (some 6) (.mv (.c (.i 0))) none] [0, 1]) (c151_3))⟩
def c152_0 : AC :=
  .seq (.seq (.region 0 [.mk4 0 (some 15) (.mv (.t 1)) none,
    .mk4 1 (some 16) (.bin .and (.t 15) (.c (.i 28))) none,
    .mk4 2 (some 17) (.bin .neq (.t 16) (.c (.i 0))) none] [0, 6, 17]) (.cond (.t 17) (.region 0 [.mk4 0 (some 18) (.mv (.t 6)) none,
    .mk4 1 (some 19) (.bin .or (.t 18) (.c (.i 4))) none,
    .mk4 2 (some 6) (.mv (.t 19)) none] [0, 6]) (.skip))) (.seq (.region 0 [.mk4 0 (some 20) (.mv (.t 6)) none,
    .mk4 1 (some 21) (.mv (.t 0)) none,
    .mk4 2 (some 22) (.bin .and (.t 20) (.t 21)) none,
    .mk4 3 (some 4) (.mv (.t 22)) none,
    .mk4 4 (some 5) (.mv (.c (.i 0))) none] [4, 5]) (.ret))
def c152_1 : AC :=
  .seq (.seq (.region 0 [.mk4 0 (some 10) (.mv (.t 1)) none,
    .mk4 1 (some 11) (.bin .and (.t 10) (.c (.i 25))) none,
    .mk4 2 (some 12) (.bin .neq (.t 11) (.c (.i 0))) none] [0, 1, 6, 12]) (.cond (.t 12) (.region 0 [.mk4 0 (some 13) (.mv (.t 6)) none,
    .mk4 1 (some 14) (.bin .or (.t 13) (.c (.i 2))) none,
    .mk4 2 (some 6) (.mv (.t 14)) none] [0, 1, 6]) (.skip))) (c152_0)
def c152_2 : AC :=
  .seq (.seq (.region 0 [.mk4 0 (some 7) (.mv (.t 1)) none,
    .mk4 1 (some 8) (.bin .and (.t 7) (.c (.i 32))) none,
    .mk4 2 (some 9) (.bin .neq (.t 8) (.c (.i 0))) none] [0, 1, 9]) (.cond (.t 9) (.seq (.region 0 [.mk4 0 (some 4) (.mv (.c (.i 0))) none,
    .mk4 1 (some 5) (.mv (.c (.i 110))) none] [4, 5]) (.ret)) (.skip))) (.seq (.region 0 [.mk4 0 (some 6) (.mv (.c (.i 0))) none] [0, 1, 6]) (c152_1))
def c152 : AFn := ⟨2, 23, [.tmp 4, .tmp 5],
  (.seq (.region 0 [.mk4 0 (some 4) (.mv (.c (.i 0))) none,
    .mk4 1 (some 5) (.mv (.c (.i 0))) none] [0, 1]) (c152_2))⟩
def c153_0 : AC :=
  .seq (.region 0 [.mk4 0 (some 18) (.faddr 1 (.t 6)) none,
    .mk4 1 (some 19) (.load1 (.t 18)) none,
    .mk4 2 (some 20) (.bin .andNot (.t 19) (.c (.i 5))) none,
    .mk4 3 (some 21) (.bin .neq (.t 20) (.c (.i 0))) none] [12, 13, 14, 21]) (.cond (.t 21) (.seq (.region 0 [.mk4 0 (some 4) (.mv (.c (.i 2))) none] [4]) (.ret)) (.skip))
def c153_1 : AC :=
  .seq (.block 1 (.seq (.region 0 [.mk4 0 (some 16) (.ixaS 2 (.t 12) (.t 14)) none,
    .mk4 1 (some 17) (.loadN 2 (.t 16)) none,
    .mk4 2 (some 6) (.alloc 2 [.i 0, .i 0]) none,
    .mk4 3 none (.store 2 (.t 6) (.t 17)) none] [6, 12, 13, 14]) (c153_0))) (.region 0 [.mk4 0 (some 22) (.bin .add (.t 14) (.c (.i 1))) none,
    .mk4 1 (some 14) (.mv (.t 22)) none] [12, 13, 14])
def c153_2 : AC :=
  .seq (.seq (.region 0 [.mk4 0 (some 12) (.mv (.t 1)) none,
    .mk4 1 (some 13) (.lenL (.t 12)) none,
    .mk4 2 (some 14) (.mv (.c (.i 0))) none] [12, 13, 14]) (.block 0 (.loop [12, 13, 14] (.seq (.region 0 [.mk4 0 (some 15) (.bin .lss (.t 14) (.t 13)) none] [12, 13, 14, 15]) (.seq (.cond (.t 15) (.skip) (.exit 0)) (c153_1)))))) (.seq (.region 0 [.mk4 0 (some 4) (.mv (.c (.i 0))) none] [4]) (.ret))
def c153_3 : AC :=
  .seq (.seq (.region 0 [.mk4 0 (some 7) (.mv (.t 0)) none,
    .mk4 1 (some 8) (.eq .ptr false (.t 7) (.c (.ptr none))) none] [1, 8]) (.cond (.t 8) (.seq (.region 0 [.mk4 0 (some 4) (.mv (.c (.i 1))) none] [4]) (.ret)) (.skip))) (.seq (.seq (.region 0 [.mk4 0 (some 9) (.mv (.t 1)) none,
    .mk4 1 (some 10) (.lenL (.t 9)) none,
    .mk4 2 (some 11) (.bin .gtr (.t 10) (.c (.i 96))) none] [1, 11]) (.cond (.t 11) (.seq (.region 0 [.mk4 0 (some 4) (.mv (.c (.i 2))) none] [4]) (.ret)) (.skip))) (c153_2))
def c153 : AFn := ⟨2, 23, [.tmp 4],
  (.seq (.region 0 [.mk4 0 (some 4) (.mv (.c (.i 0))) none] [0, 1]) (c153_3))⟩
def c154 : AFn := ⟨2, 6, [.tmp 4],
  (.seq (.region 0 [.mk4 0 (some 2) (.box 1 (.t 0)) none,
    .mk4 1 (some 3) (.box 1 (.t 1)) none,
    .mk4 2 (some 4) (.mv (.c (.nilfn))) none] [2, 3]) (.seq (.region 0 [.mk4 0 (some 5) (.mkClo 155 [(.t 3), (.t 2)]) none,
    .mk4 1 (some 4) (.mv (.t 5)) none] [4]) (.ret)))⟩
def c155_0 : AC :=
  .seq (.region 0 [.mk4 0 (some 12) (.mv (.t 0)) none,
    .mk4 1 (some 13) (.load1 (.t 2)) none,
    .mk4 2 (some 14) (.loadN 2 (.t 5)) none,
    .mk4 3 (some 15) (.call 156 [(.t 13), (.t 14)]) none,
    .mk4 4 (some 16) (.callv (.t 12) [(.t 15)]) none,
    .mk4 5 (some 17) (.un .not (.t 16)) none] [0, 2, 6, 7, 8, 17]) (.cond (.t 17) (.ret) (.skip))
def c155_1 : AC :=
  .seq (.block 1 (.seq (.region 0 [.mk4 0 (some 10) (.ixaS 2 (.t 6) (.t 8)) none,
    .mk4 1 (some 11) (.loadN 2 (.t 10)) none,
    .mk4 2 (some 5) (.alloc 2 [.i 0, .i 0]) none,
    .mk4 3 none (.store 2 (.t 5) (.t 11)) none] [0, 2, 5, 6, 7, 8]) (c155_0))) (.region 0 [.mk4 0 (some 18) (.bin .add (.t 8) (.c (.i 1))) none,
    .mk4 1 (some 8) (.mv (.t 18)) none] [0, 2, 6, 7, 8])
def c155_2 : AC :=
  .seq (.region 0 [.mk4 0 (some 6) (.load1 (.t 1)) none,
    .mk4 1 (some 7) (.lenL (.t 6)) none,
    .mk4 2 (some 8) (.mv (.c (.i 0))) none] [0, 2, 6, 7, 8]) (.block 0 (.loop [0, 2, 6, 7, 8] (.seq (.region 0 [.mk4 0 (some 9) (.bin .lss (.t 8) (.t 7)) none] [0, 2, 6, 7, 8, 9]) (.seq (.cond (.t 9) (.skip) (.exit 0)) (c155_1)))))
def c155 : AFn := ⟨3, 19, [],
  (c155_2)⟩
def c156_0 : AC :=
  .cond (.t 32) (.region 0 [.mk4 0 (some 33) (.mv (.t 6)) none,
    .mk4 1 (some 34) (.faddr 1 (.t 3)) none,
    .mk4 2 (some 35) (.load1 (.t 34)) none,
    .mk4 3 (some 36) (.bin .and (.c (.i 4)) (.t 35)) none,
    .mk4 4 (some 37) (.bin .or (.t 33) (.t 36)) none,
    .mk4 5 (some 6) (.mv (.t 37)) none] [5, 6]) (.skip)
def c156_1 : AC :=
  .cond (.t 25) (.region 0 [.mk4 0 (some 26) (.mv (.t 6)) none,
    .mk4 1 (some 27) (.faddr 1 (.t 3)) none,
    .mk4 2 (some 28) (.load1 (.t 27)) none,
    .mk4 3 (some 29) (.bin .and (.c (.i 1)) (.t 28)) none,
    .mk4 4 (some 30) (.bin .or (.t 26) (.t 29)) none,
    .mk4 5 (some 6) (.mv (.t 30)) none] [3, 5, 6]) (.skip)
def c156_2 : AC :=
  .seq (.seq (.region 0 [.mk4 0 (some 31) (.faddr 2 (.t 5)) none,
    .mk4 1 (some 32) (.load1 (.t 31)) none] [3, 5, 6, 32]) (c156_0)) (.seq (.region 0 [.mk4 0 (some 38) (.faddr 4 (.t 5)) none,
    .mk4 1 (some 39) (.load1 (.t 38)) none] [6, 39]) (.cond (.t 39) (.region 0 [.mk4 0 (some 40) (.mv (.t 6)) none,
    .mk4 1 (some 41) (.bin .or (.t 40) (.c (.i 8))) none,
    .mk4 2 (some 6) (.mv (.t 41)) none] [6]) (.skip)))
def c156_3 : AC :=
  .seq (.seq (.region 0 [.mk4 0 (some 16) (.faddr 0 (.t 5)) none,
    .mk4 1 (some 17) (.load1 (.t 16)) none,
    .mk4 2 (some 18) (.un .not (.t 17)) none,
    .mk4 3 (some 15) (.mv (.t 18)) none] [3, 5, 6, 15]) (.cond (.t 15) (.exit 2) (.skip))) (.seq (.region 0 [.mk4 0 (some 20) (.faddr 3 (.t 5)) none,
    .mk4 1 (some 21) (.load1 (.t 20)) none,
    .mk4 2 (some 19) (.mv (.t 21)) none] [3, 5, 6, 19]) (.cond (.t 19) (.exit 3) (.skip)))
def c156_4 : AC :=
  .seq (.block 1 (.seq (.seq (.seq (.region 0 [.mk4 0 (some 12) (.faddr 0 (.t 3)) none,
    .mk4 1 (some 13) (.load1 (.t 12)) none,
    .mk4 2 (some 14) (.bin .lss (.t 13) (.c (.i 0))) none,
    .mk4 3 (some 11) (.mv (.t 14)) none] [3, 5, 6, 11]) (.cond (.t 11) (.exit 1) (.skip))) (c156_3)) (.exit 4))) (.seq (.seq (.region 0 [.mk4 0 (some 4) (.mv (.c (.i 0))) none] [4]) (.ret)) (.exit 0))
def c156_5 : AC :=
  .seq (.block 4 (.seq (.block 3 (.seq (.block 2 (c156_4)) (.seq (.seq (.region 0 [.mk4 0 (some 4) (.mv (.c (.i 32))) none] [4]) (.ret)) (.exit 0)))) (.region 0 [.mk4 0 (some 22) (.mv (.t 6)) none,
    .mk4 1 (some 23) (.bin .or (.t 22) (.c (.i 16))) none,
    .mk4 2 (some 6) (.mv (.t 23)) none] [3, 5, 6]))) (.seq (.seq (.seq (.region 0 [.mk4 0 (some 24) (.faddr 1 (.t 5)) none,
    .mk4 1 (some 25) (.load1 (.t 24)) none] [3, 5, 6, 25]) (c156_1)) (c156_2)) (.exit 0))
def c156_6 : AC :=
  .seq (.region 0 [.mk4 0 (some 7) (.mv (.t 0)) none,
    .mk4 1 (some 8) (.faddr 0 (.t 3)) none,
    .mk4 2 (some 9) (.load1 (.t 8)) none,
    .mk4 3 (some 10) (.call 46 [(.t 7), (.t 9)]) none,
    .mk4 4 (some 5) (.alloc 7 [.bool false, .bool false, .bool false, .bool false, .bool false, .int .u64 0, .int .u64 0]) none,
    .mk4 5 none (.store 7 (.t 5) (.t 10)) none] [3, 5]) (.seq (.region 0 [.mk4 0 (some 6) (.mv (.c (.i 0))) none] [3, 5, 6]) (.seq (.block 0 (c156_5)) (.seq (.region 0 [.mk4 0 (some 42) (.mv (.t 6)) none,
    .mk4 1 (some 4) (.mv (.t 42)) none] [4]) (.ret))))
def c156 : AFn := ⟨2, 43, [.tmp 4],
  (.seq (.region 0 [.mk4 0 (some 3) (.box 2 (.t 1)) none,
    .mk4 1 (some 4) (.mv (.c (.i 0))) none] [0, 3]) (c156_6))⟩
def prog : Prog := { fns := [(68, c68), (144, c144), (59, c59), (74, c74), (92, c92), (73, c73), (35, c35), (33, c33), (58, c58), (46, c46), (61, c61), (24, c24), (98, c98), (140, c140), (146, c146), (31, c31), (54, c54), (96, c96), (97, c97), (101, c101), (102, c102), (103, c103), (153, c153), (154, c154), (155, c155), (156, c156), (49, c49), (25, c25), (9, c9), (30, c30), (51, c51), (63, c63), (69, c69), (134, c134), (26, c26), (40, c40), (45, c45), (133, c133), (139, c139), (145, c145), (11, c11), (27, c27), (28, c28), (29, c29), (47, c47), (48, c48), (50, c50), (64, c64), (77, c77), (148, c148), (150, c150), (137, c137), (142, c142), (143, c143), (152, c152), (8, c8), (62, c62), (71, c71), (76, c76), (91, c91), (149, c149), (151, c151), (20, c20), (21, c21), (23, c23), (34, c34), (41, c41), (42, c42), (43, c43), (44, c44), (56, c56), (60, c60), (75, c75), (82, c82), (4, c4), (5, c5), (7, c7), (19, c19), (22, c22), (57, c57), (72, c72), (93, c93), (131, c131), (132, c132), (135, c135), (136, c136), (138, c138), (141, c141), (10, c10), (15, c15), (18, c18), (39, c39), (52, c52), (53, c53), (65, c65), (66, c66), (67, c67), (70, c70), (79, c79), (80, c80), (81, c81), (83, c83), (84, c84), (85, c85), (94, c94), (95, c95), (128, c128), (130, c130), (3, c3), (6, c6), (12, c12), (13, c13), (14, c14), (16, c16), (17, c17), (32, c32), (36, c36), (37, c37), (38, c38), (55, c55), (129, c129), (78, c78), (86, c86), (87, c87), (88, c88), (89, c89), (90, c90), (99, c99), (100, c100), (105, c105), (106, c106), (108, c108), (147, c147)], prims := [(107, pIndexByte)] }
def cx : Cx := ⟨[(3, ⟨.int .i64, 1, 8, (some (.i 0)), false⟩),
  (4, ⟨.bool, 1, 1, (some (.bool false)), false⟩),
  (5, ⟨.int .u8, 1, 1, (some (.int .u8 0)), false⟩),
  (9, ⟨.str, 1, 16, (some (.str [])), false⟩),
  (22, ⟨.ptr 56, 1, 8, (some (.ptr none)), false⟩),
  (24, ⟨.int .i64, 1, 8, (some (.i 0)), false⟩),
  (29, ⟨.slice 5, 1, 24, (some (.nils)), false⟩),
  (30, ⟨.ptr 73, 1, 8, (some (.ptr none)), false⟩),
  (35, ⟨.slice 41, 1, 24, (some (.nils)), false⟩),
  (36, ⟨.slice 46, 1, 24, (some (.nils)), false⟩),
  (39, ⟨.int .u64, 1, 8, (some (.int .u64 0)), false⟩),
  (41, ⟨.struct [(0, 3), (1, 3)], 2, 16, (some (.agg [.i 0, .i 0])), true⟩),
  (46, ⟨.struct [(0, 3), (1, 3)], 2, 16, (some (.agg [.i 0, .i 0])), true⟩),
  (48, ⟨.func, 1, 8, (some (.nilfn)), false⟩),
  (49, ⟨.ptr 101, 1, 8, (some (.ptr none)), false⟩),
  (52, ⟨.struct [(0, 4), (1, 3), (2, 3)], 3, 24, (some (.agg [.bool false, .i 0, .i 0])), false⟩),
  (53, ⟨.array 96 52, 288, 2304, (some (.agg ((List.replicate 96 ([.bool false, .i 0, .i 0] : List V)).flatten))), false⟩),
  (54, ⟨.slice 57, 1, 24, (some (.nils)), false⟩),
  (56, ⟨.struct [(0, 53), (288, 54), (289, 49), (290, 39), (291, 52)], 294, 2368, (some (.agg ((List.replicate 96 ([.bool false, .i 0, .i 0] : List V)).flatten ++ [.nils, .ptr none, .int .u64 0, .bool false, .i 0, .i 0]))), false⟩),
  (57, ⟨.ptr 65, 1, 8, (some (.ptr none)), false⟩),
  (59, ⟨.ptr 131, 1, 8, (some (.ptr none)), false⟩),
  (61, ⟨.struct [(0, 3), (1, 3), (2, 59), (3, 4), (4, 4), (5, 39), (6, 39)], 7, 48, (some (.agg [.i 0, .i 0, .ptr none, .bool false, .bool false, .int .u64 0, .int .u64 0])), false⟩),
  (62, ⟨.array 2 61, 14, 96, (some (.agg [.i 0, .i 0, .ptr none, .bool false, .bool false, .int .u64 0, .int .u64 0, .i 0, .i 0, .ptr none, .bool false, .bool false, .int .u64 0, .int .u64 0])), false⟩),
  (63, ⟨.slice 3, 1, 24, (some (.nils)), false⟩),
  (65, ⟨.struct [(0, 62), (14, 4), (15, 3), (16, 63)], 17, 136, (some (.agg [.i 0, .i 0, .ptr none, .bool false, .bool false, .int .u64 0, .int .u64 0, .i 0, .i 0, .ptr none, .bool false, .bool false, .int .u64 0, .int .u64 0, .bool false, .i 0, .nils])), false⟩),
  (71, ⟨.array 96 3, 96, 768, (some (.agg (List.replicate 96 (.i 0 : V)))), false⟩),
  (73, ⟨.struct [(0, 22), (1, 3), (2, 71), (98, 3)], 99, 792, (some (.agg ([.ptr none] ++ List.replicate 98 (.i 0 : V)))), false⟩),
  (74, ⟨.ptr 115, 1, 8, (some (.ptr none)), false⟩),
  (78, ⟨.iface, 1, 16, (some (.nili)), false⟩),
  (82, ⟨.map 3 3, 1, 8, (some (.map none)), false⟩),
  (92, ⟨.struct [(0, 3), (1, 3), (2, 3), (3, 29)], 4, 48, (some (.agg [.i 0, .i 0, .i 0, .nils])), false⟩),
  (93, ⟨.slice 92, 1, 24, (some (.nils)), false⟩),
  (95, ⟨.struct [(0, 39), (1, 4), (2, 63), (3, 93)], 4, 64, (some (.agg [.int .u64 0, .bool false, .nils, .nils])), false⟩),
  (96, ⟨.slice 95, 1, 24, (some (.nils)), false⟩),
  (98, ⟨.array 32 4, 32, 32, (some (.agg (List.replicate 32 (.bool false : V)))), false⟩),
  (99, ⟨.array 32 3, 32, 256, (some (.agg (List.replicate 32 (.i 0 : V)))), false⟩),
  (101, ⟨.struct [(0, 98), (32, 99)], 64, 288, (some (.agg (List.replicate 32 (.bool false : V) ++ List.replicate 32 (.i 0 : V)))), false⟩),
  (110, ⟨.struct [(0, 4), (1, 4), (2, 4), (3, 4), (4, 4), (5, 39), (6, 39)], 7, 24, (some (.agg [.bool false, .bool false, .bool false, .bool false, .bool false, .int .u64 0, .int .u64 0])), false⟩),
  (115, ⟨.struct [(0, 96), (1, 63)], 2, 48, (some (.agg [.nils, .nils])), false⟩),
  (116, ⟨.int .u32, 1, 4, (some (.int .u32 0)), false⟩),
  (118, ⟨.array 2 116, 2, 8, (some (.agg [.int .u32 0, .int .u32 0])), false⟩),
  (120, ⟨.struct [(0, 118), (2, 118)], 4, 16, (some (.agg [.int .u32 0, .int .u32 0, .int .u32 0, .int .u32 0])), false⟩),
  (121, ⟨.slice 126, 1, 24, (some (.nils)), false⟩),
  (122, ⟨.slice 126, 1, 24, (some (.nils)), false⟩),
  (126, ⟨.struct [(0, 3), (1, 3)], 2, 16, (some (.agg [.i 0, .i 0])), false⟩),
  (131, ⟨.struct [(0, 29), (1, 3), (2, 3), (3, 39), (4, 39), (5, 4)], 6, 64, (some (.agg [.nils, .i 0, .i 0, .int .u64 0, .int .u64 0, .bool false])), false⟩)], []⟩
end Am.DpollNames
